/- The walks: each Go function does what its verification condition says (written by a program of the prover). -/
import Derived.Test.YtliikemkgfjpaaaW1
import Derived.KernelRfl
set_option maxRecDepth 100000
set_option maxHeartbeats 8000000
set_option linter.unusedVariables false
namespace Go.Proofs.Ytliikemkgfjpaaa
open Go Go.Taq
theorem T_taquinref23_Find (s_1 : ApiSite) (from_1 : Int) (to_1 : Int) (tick : Int) (taken : List ApiTaken) (avoid : List Int) (limit : Int) (post : (List Int × Int) → Prop) (hm : V_taquinref23_Find s_1 from_1 to_1 tick taken avoid limit post) :
    Tr Try.prog 12 [.agg (eApiSite s_1), .i from_1, .i to_1, .i tick, .sl 3 eApiTaken taken, .sl 1 eI avoid, .i limit] [] 0 (fun A H' k => ∃ y, post y ∧ A = (.tup [.o 0, .i y.2]) ∧ H' = [(0, .val (.os 1 eI y.1))] ∧ k = 1) := by
 refine Tr.intro (n := 306) Try.func12 rfl Try.ntmps12 rfl (fun w0 ok F β hβ => ?_)
 unfold V_taquinref23_Find at hm
 refine C.seq (U.start ?_)
 refine U.e1 (o := _) rfl (.none rfl) (by exact Eff1.box rfl rfl rfl rfl rfl) ?_
 refine U.ps 2 T rfl ?_
 refine U.done (C.nx (C.seq (C.seq ?_)))
 refine C.jn (fun (x1 : Bool) => [(1, .i from_1), (2, .i to_1), (3, .i tick), (4, .sl 3 eApiTaken taken), (5, .sl 1 eI avoid), (6, .i limit), (7, .p 0 0), (49, .b x1)]) (fun (x1 : Bool) => [(0, .box (eApiSite s_1))]) 1 hm (fun x1 hm => ?_) (fun J2 hm hJ2 => ?_)
 ·refine C.nx ?_
  refine C.ite rfl hm (fun hb5 hm => ?_) (fun hb5 hm => ?_)
  ·refine C.seq (U.start ?_)
   refine U.ps 2 T rfl ?_
   refine U.done (C.nx (C.ret (C.rt ?_)))
   exact C.fin T (rs' := [.o 0, .i (([], 1).2)]) (H' := [(0, .val (.os 1 eI (([], 1).1)))]) (nl' := 1) [none] rfl rfl (.cons (.nilO _ _ ⟨rfl, rfl⟩ rfl) (.eq rfl)) ⟨⟨_, rfl, .nil _ _⟩, trivial⟩ rfl rfl rfl rfl hβ ⟨([], 1), hm, rfl, rfl, rfl⟩
  ·refine C.skip (C.nx (C.seq (C.seq (U.start ?_))))
   refine U.ps 2 T rfl ?_
   refine U.done (C.nx ?_)
   refine C.ite rfl hm (fun hb6 hm => ?_) (fun hb6 hm => ?_)
   ·refine C.seq (U.start ?_)
    refine U.ps 2 T rfl ?_
    refine U.done (C.nx (C.ret (C.rt ?_)))
    exact C.fin T (rs' := [.o 0, .i (([], 27).2)]) (H' := [(0, .val (.os 1 eI (([], 27).1)))]) (nl' := 1) [none] rfl rfl (.cons (.nilO _ _ ⟨rfl, rfl⟩ rfl) (.eq rfl)) ⟨⟨_, rfl, .nil _ _⟩, trivial⟩ rfl rfl rfl rfl hβ ⟨([], 27), hm, rfl, rfl, rfl⟩
   ·refine C.skip (C.nx (C.seq (U.start ?_)))
    refine U.ps 1 T rfl ?_
    refine U.e (o := _) rfl (.none rfl) (by exact Eff.c [] (v := true) (T_taquinref23_slowest s_1 _ hm) en30 rfl rfl rfl (.eq rfl) trivial rfl rfl rfl rfl rfl rfl (fun _ _ => ⟨(.v _), trivial⟩) (.inr ⟨rfl, rfl⟩) (fun _ => rfl) (fun _ => rfl) rfl) (fun x7' hm => ?_)
    obtain ⟨x7⟩ := x7'
    refine U.ps 1 T rfl ?_
    refine U.done (C.nx (C.seq (U.start ?_)))
    refine U.ps 2 T rfl ?_
    refine U.e (o := _) rfl (.none rfl) (by exact Eff.c [] (v := true) (T_taquinref07_Size s_1.Floor _ hm) en31 rfl rfl rfl (.eq rfl) trivial rfl rfl rfl rfl rfl rfl (fun _ _ => ⟨(.v _), trivial⟩) (.inr ⟨rfl, rfl⟩) (fun _ => rfl) (fun _ => rfl) rfl) (fun x8' hm => ?_)
    obtain ⟨x8⟩ := x8'
    refine U.ps 3 T rfl ?_
    refine U.done (C.nx (C.seq (U.start ?_)))
    refine U.ps 1 T rfl ?_
    obtain ⟨hx9, hm⟩ := hm
    refine U.e1 (o := _) rfl (.none rfl) (by exact Eff1.mk T (enc := eB) (z0 := false) rfl rfl rfl rfl rfl rfl rfl rfl rfl rfl hx9) ?_
    refine U.ps 1 T rfl ?_
    refine U.done (C.nx (C.seq (U.start ?_)))
    refine U.ps 4 T rfl ?_
    obtain ⟨x10, hx10, hm⟩ := hm
    refine U.r (o := _) rfl (.none rfl) rfl rfl (by exact Rd.io T rfl rfl rfl rfl rfl rfl rfl hx10) ?_
    refine U.e1 (o := _) rfl (.none rfl) (by exact Eff1.se T (z' := true) rfl rfl rfl (idx_some hx10).2.2 rfl rfl rfl rfl rfl rfl rfl rfl (fun _ => rfl) rfl) ?_
    refine U.done (C.nx (C.seq (U.start ?_)))
    refine U.ps 1 T rfl ?_
    refine St.wk (Γ' := [(1, .i from_1), (2, .i to_1), (3, .i tick), (4, .sl 3 eApiTaken taken), (5, .sl 1 eI avoid), (6, .i limit), (7, .p 0 0), (16, .i x7), (17, .i (w64 (x8 * x7))), (18, .sl 1 eB ((List.replicate (Int.toNat (w64 (x8 * x7))) false).set (Int.toNat (w64 (from_1 * x7))) true)), (49, .b x1), (50, .i limit), (51, .b (decide (limit > 300))), (52, .agg (eApiSite s_1)), (53, .i x7), (54, .p 0 0), (55, .agg (eApiFloor s_1.Floor)), (56, .i x8), (57, .i x7), (58, .i (w64 (x8 * x7))), (59, .i (w64 (x8 * x7))), (60, .sl 1 eB ((List.replicate (Int.toNat (w64 (x8 * x7))) false).set (Int.toNat (w64 (from_1 * x7))) true)), (61, .sl 1 eB ((List.replicate (Int.toNat (w64 (x8 * x7))) false).set (Int.toNat (w64 (from_1 * x7))) true)), (62, .i from_1), (63, .i x7), (64, .i (w64 (from_1 * x7))), (66, .sl 1 eB ((List.replicate (Int.toNat (w64 (x8 * x7))) false).set (Int.toNat (w64 (from_1 * x7))) true))]) (H' := [(0, .box (eApiSite s_1))]) (nl' := 1) ?_ (Wk.mk' [some 0] rfl rfl ⟨⟨_, rfl, (.eq rfl)⟩, ⟨_, rfl, (.eq rfl)⟩, ⟨_, rfl, (.eq rfl)⟩, ⟨_, rfl, (.eq rfl)⟩, ⟨_, rfl, (.eq rfl)⟩, ⟨_, rfl, (.eq rfl)⟩, ⟨_, rfl, (.eq rfl)⟩, ⟨_, rfl, (.eq rfl)⟩, ⟨_, rfl, (.eq rfl)⟩, ⟨_, rfl, (.fz rfl rfl rfl (.os fun _ => .cons (.ro rfl) .nil))⟩, ⟨_, rfl, (.eq rfl)⟩, ⟨_, rfl, (.eq rfl)⟩, ⟨_, rfl, (.eq rfl)⟩, ⟨_, rfl, (.eq rfl)⟩, ⟨_, rfl, (.eq rfl)⟩, ⟨_, rfl, (.eq rfl)⟩, ⟨_, rfl, (.eq rfl)⟩, ⟨_, rfl, (.eq rfl)⟩, ⟨_, rfl, (.eq rfl)⟩, ⟨_, rfl, (.eq rfl)⟩, ⟨_, rfl, (.eq rfl)⟩, ⟨_, rfl, (.fz rfl rfl rfl (.os fun _ => .cons (.ro rfl) .nil))⟩, ⟨_, rfl, (.fz rfl rfl rfl (.os fun _ => .cons (.ro rfl) .nil))⟩, ⟨_, rfl, (.eq rfl)⟩, ⟨_, rfl, (.eq rfl)⟩, ⟨_, rfl, (.eq rfl)⟩, ⟨_, rfl, (.fz rfl rfl rfl (.os fun _ => .cons (.ro rfl) .nil))⟩, trivial⟩ ⟨⟨_, rfl, .box rfl (.eq rfl)⟩, trivial⟩ rfl)
    refine U.e1 (o := _) rfl (.none rfl) (by exact Eff1.bs T (enc := eLeB) (xs := ([((List.replicate (Int.toNat (w64 (x8 * x7))) false).set (Int.toNat (w64 (from_1 * x7))) true)] : List (List Bool))) rfl rfl rfl rfl rfl rfl rfl rfl rfl rfl (fun _ _ => rfl) rfl rfl) ?_
    refine U.ps 1 T rfl ?_
    refine U.done (C.nx (C.seq (U.start ?_)))
    refine U.ps 1 T rfl ?_
    refine U.done (C.nx (C.seq (C.seq (U.start ?_))))
    refine U.ps 1 T rfl ?_
    refine U.done (C.nx ?_)
    refine C.jn (fun (x11 : List (List Bool) × Int) => [(1, .i from_1), (2, .i to_1), (3, .i tick), (4, .sl 3 eApiTaken taken), (5, .sl 1 eI avoid), (7, .p 0 0), (16, .i x7), (17, .i (w64 (x8 * x7))), (19, .o 1), (20, .i x11.2)]) (fun (x11 : List (List Bool) × Int) => [(0, .box (eApiSite s_1)), (1, .val (.os 1 eLeB x11.1))]) 2 hm (fun x11 hm => ?_) (fun J12 hm hJ12 => ?_)
    ·refine C.nx (C.seq (U.start ?_))
     refine U.ps 2 T rfl ?_
     obtain ⟨hx60, hm⟩ := hm
     refine U.e1 (o := _) rfl (.none rfl) (by exact Eff1.re (A' := .os 1 eOeB (List.replicate (Int.toNat (w64 (x11.2 + 1))) [])) (Eff1.mk T (enc := fun _ : Unit => [.v (.slice none 0 0)]) (z0 := ()) rfl rfl rfl rfl rfl rfl rfl rfl rfl rfl hx60) (fun _ _ _ _ _ h => (NlR.rep (.cons (.os _ _) .nil) _).on h)) ?_
     refine U.ps 1 T rfl ?_
     refine U.done (C.nx (C.seq (C.seq (U.start ?_))))
     refine U.ps 2 T rfl ?_
     refine U.done (C.nx ?_)
     refine C.jn (fun (x61 : List (List Bool)) => [(1, .i from_1), (3, .i tick), (4, .sl 3 eApiTaken taken), (5, .sl 1 eI avoid), (7, .p 0 0), (16, .i x7), (20, .i x11.2), (28, .o 1)]) (fun (x61 : List (List Bool)) => [(0, .box (eApiSite s_1)), (1, .val (.os 1 eOeB x61))]) 2 hm (fun x61 hm => ?_) (fun J62 hm hJ62 => ?_)
     ·refine C.nx (C.seq (U.start ?_))
      refine U.ps 1 T rfl ?_
      refine U.done (C.nx (C.seq (U.start ?_)))
      refine U.ps 2 T rfl ?_
      refine U.e1 (o := _) rfl (.none rfl) (by exact Eff1.al T rfl rfl rfl rfl) ?_
      refine U.e1 (o := _) rfl (.none rfl) (by exact Eff1.st T rfl rfl rfl rfl rfl rfl rfl rfl rfl rfl) ?_
      refine U.done (C.nx (C.seq (C.seq (U.start ?_))))
      refine U.ps 1 T rfl ?_
      refine U.done (C.nx ?_)
      refine C.jn (fun (x115 : List Int) => [(34, .o 0)]) (fun (x115 : List Int) => [(0, .val (.os 1 eI x115))]) 1 hm (fun x115 hm => ?_) (fun J116 hm hJ116 => ?_)
      ·refine C.nx (C.seq (U.start ?_))
       refine U.ps 3 T rfl ?_
       refine U.done (C.nx (C.ret ?_))
       exact C.fin T (rs' := [.o 0, .i ((x115, 0).2)]) (H' := [(0, .val (.os 1 eI ((x115, 0).1)))]) (nl' := 1) [some 0] rfl rfl (.eq rfl) ⟨⟨_, rfl, .val rfl⟩, trivial⟩ rfl rfl rfl rfl hβ ⟨(x115, 0), hm, rfl, rfl, rfl⟩
      ·refine C.block ?_
       refine St.wk (C.loop (fun (s117 : List (List Bool) × List Int × Int × Int × Int) => [(3, .i tick), (4, .sl 3 eApiTaken taken), (5, .sl 1 eI avoid), (7, .p 0 0), (16, .i x7), (20, .i x11.2), (28, .o 1), (34, .o 2), (35, .p 3 0), (36, .i s117.2.2.2.2)]) (fun (s117 : List (List Bool) × List Int × Int × Int × Int) => [(0, .box (eApiSite s_1)), (1, .val (.os 1 eOeB s117.1)), (2, .val (.os 1 eI s117.2.1)), (3, .box [.i s117.2.2.1, .i s117.2.2.2.1])]) hm (fun s117 Y118 hm => ?_)) (Wk.mk' [some 0, some 1, none, some 2] rfl rfl ⟨⟨_, rfl, (.eq rfl)⟩, ⟨_, rfl, (.eq rfl)⟩, ⟨_, rfl, (.eq rfl)⟩, ⟨_, rfl, (.eq rfl)⟩, ⟨_, rfl, (.eq rfl)⟩, ⟨_, rfl, (.eq rfl)⟩, ⟨_, rfl, (.eq rfl)⟩, ⟨_, rfl, (.nilO _ _ ⟨rfl, rfl⟩ rfl)⟩, ChkG.eqs rfl⟩ ⟨⟨_, rfl, .box rfl (.eq rfl)⟩, ⟨_, rfl, .val rfl⟩, ⟨_, rfl, .nil _ _⟩, ⟨_, rfl, .box rfl (.eq rfl)⟩, trivial⟩ rfl)
       refine C.seq (C.seq (U.start ?_))
       refine U.ps 3 T rfl ?_
       refine U.done (C.nx ?_)
       refine C.ite rfl hm (fun hb119 hm => ?_) (fun hb119 hm => ?_)
       ·refine C.skip (C.nx (C.seq ?_))
        refine C.jn (fun (x120 : List (List Bool) × List Int × Int × Int) => [(3, .i tick), (4, .sl 3 eApiTaken taken), (5, .sl 1 eI avoid), (7, .p 0 0), (16, .i x7), (20, .i x11.2), (28, .o 1), (34, .o 2), (35, .p 3 0), (36, .i s117.2.2.2.2)]) (fun (x120 : List (List Bool) × List Int × Int × Int) => [(0, .box (eApiSite s_1)), (1, .val (.os 1 eOeB x120.1)), (2, .val (.os 1 eI x120.2.1)), (3, .box [.i x120.2.2.1, .i x120.2.2.2])]) 4 hm (fun x120 hm => ?_) (fun J121 hm hJ121 => ?_)
        ·refine C.nx (U.start ?_)
         refine U.ps 3 T rfl ?_
         refine U.done (C.nx ?_)
         exact St.wk (C.next hm) (Wk.mk' [some 0, some 1, some 2, some 3] rfl rfl (.eqs rfl) ⟨⟨_, rfl, .box rfl (.eq rfl)⟩, ⟨_, rfl, .val rfl⟩, ⟨_, rfl, .val rfl⟩, ⟨_, rfl, .box rfl (.eq rfl)⟩, trivial⟩ rfl)
        ·refine C.block (C.seq (U.start ?_))
         refine U.ps 1 T rfl ?_
         refine U.done (C.nx ?_)
         refine C.jn (fun (x122 : List (List Bool) × List Int × Int × Int) => [(3, .i tick), (4, .sl 3 eApiTaken taken), (5, .sl 1 eI avoid), (7, .p 0 0), (16, .i x7), (20, .i x11.2), (28, .o 1), (34, .o 2), (35, .p 3 0), (36, .i s117.2.2.2.2)]) (fun (x122 : List (List Bool) × List Int × Int × Int) => [(0, .box (eApiSite s_1)), (1, .val (.os 1 eOeB x122.1)), (2, .val (.os 1 eI x122.2.1)), (3, .box [.i x122.2.2.1, .i x122.2.2.2])]) 4 hm (fun x122 hm => ?_) (fun J123 hm hJ123 => ?_)
         ·refine C.bnx ?_
          exact St.wk (hJ121 _ hm) (Wk.mk' [some 0, some 1, some 2, some 3] rfl rfl (.eqs rfl) ⟨⟨_, rfl, .box rfl (.eq rfl)⟩, ⟨_, rfl, .val rfl⟩, ⟨_, rfl, .val rfl⟩, ⟨_, rfl, .box rfl (.eq rfl)⟩, trivial⟩ rfl)
         ·refine C.block ?_
          refine St.wk (C.loop (fun (s124 : List (List Bool) × Int) => [(3, .i tick), (4, .sl 3 eApiTaken taken), (5, .sl 1 eI avoid), (7, .p 0 0), (16, .i x7), (20, .i x11.2), (28, .o 1), (34, .o 2), (35, .p 3 0), (36, .i s117.2.2.2.2), (37, .i s124.2)]) (fun (s124 : List (List Bool) × Int) => [(0, .box (eApiSite s_1)), (1, .val (.os 1 eOeB s124.1)), (2, .val (.os 1 eI s117.2.1)), (3, .box [.i s117.2.2.1, .i s117.2.2.2.1])]) hm (fun s124 Y125 hm => ?_)) (Wk.mk' [some 0, some 1, some 2, some 3] rfl rfl (.eqs rfl) ⟨⟨_, rfl, .box rfl (.eq rfl)⟩, ⟨_, rfl, .val rfl⟩, ⟨_, rfl, .val rfl⟩, ⟨_, rfl, .box rfl (.eq rfl)⟩, trivial⟩ rfl)
          refine C.seq (C.seq (U.start ?_))
          refine U.ps 2 T rfl ?_
          refine U.done (C.nx ?_)
          refine C.ite rfl hm (fun hb126 hm => ?_) (fun hb126 hm => ?_)
          ·refine C.skip (C.nx (C.seq (C.block (C.seq (U.start ?_)))))
           refine U.ps 8 T rfl ?_
           refine U.e (o := _) rfl (.none rfl) (by exact Eff.c [] (v := true) (T_taquinref23_step s_1 ({ cell := s117.2.2.1, rest := s117.2.2.2.1 : Taquinref23Place }) (w64 (tick + s117.2.2.2.2)) taken avoid s124.2 _ hm) en33 rfl rfl rfl (.eq rfl) trivial rfl rfl rfl rfl rfl rfl (fun _ _ => ⟨(.tup (.cons (.agg (.cons (.v _) (.cons (.v _) .nil))) (.cons (.v _) .nil))), trivial⟩) (.inr ⟨rfl, rfl⟩) (fun _ => rfl) (fun _ => rfl) rfl) (fun x127' hm => ?_)
           obtain ⟨x127⟩ := x127'
           refine U.ps 3 T rfl ?_
           refine U.e1 (o := _) rfl (.none rfl) (by exact Eff1.al T rfl rfl rfl rfl) ?_
           refine U.e1 (o := _) rfl (.none rfl) (by exact Eff1.st T rfl rfl rfl rfl rfl rfl rfl rfl rfl rfl) ?_
           refine U.ps 1 T rfl ?_
           refine U.done (C.nx (C.seq ?_))
           refine C.jn (fun (x128 : List (List Bool) × Bool) => [(3, .i tick), (4, .sl 3 eApiTaken taken), (5, .sl 1 eI avoid), (7, .p 0 0), (16, .i x7), (20, .i x11.2), (28, .o 1), (34, .o 2), (35, .p 3 0), (36, .i s117.2.2.2.2), (37, .i s124.2), (38, .p 4 0), (299, .b x128.2)]) (fun (x128 : List (List Bool) × Bool) => [(0, .box (eApiSite s_1)), (1, .val (.os 1 eOeB x128.1)), (2, .val (.os 1 eI s117.2.1)), (3, .box [.i s117.2.2.1, .i s117.2.2.2.1]), (4, .box [.i x127.1.cell, .i x127.1.rest])]) 5 hm (fun x128 hm => ?_) (fun J129 hm hJ129 => ?_)
           ·refine C.nx ?_
            refine C.ite rfl hm (fun hb133 hm => ?_) (fun hb133 hm => ?_)
            ·refine C.seq (U.start ?_)
             refine U.ps 2 T rfl ?_
             refine U.e1 (o := _) rfl (.none rfl) (by exact Eff1.bs T (enc := eI) (xs := ([s124.2] : List Int)) rfl rfl rfl rfl rfl rfl rfl rfl rfl rfl (fun _ _ => rfl) rfl rfl) ?_
             obtain ⟨hx134, hm⟩ := hm
             refine U.e1 (o := _) rfl (.none rfl) (by exact Eff1.ap T rfl rfl rfl rfl rfl rfl (.inr ⟨_, rfl, rfl⟩) rfl rfl rfl (fun _ => rfl) rfl hx134) ?_
             refine U.ps 1 T rfl ?_
             refine U.done (C.nx (C.seq (U.start ?_)))
             refine U.ps 1 T rfl ?_
             refine U.e1 (o := _) rfl (.none rfl) (by exact Eff1.st T rfl rfl rfl rfl rfl rfl rfl rfl rfl rfl) ?_
             refine U.done (C.nx (C.exit ?_))
             refine C.bex' rfl ?_
             refine C.ex (C.ex (C.bex ?_))
             exact St.wk (hJ123 _ hm) (Wk.mk' [some 0, some 1, some 6, some 3] rfl rfl (.eqs rfl) ⟨⟨_, rfl, .box rfl (.eq rfl)⟩, ⟨_, rfl, .val rfl⟩, ⟨_, rfl, .val rfl⟩, ⟨_, rfl, .box rfl (.eq rfl)⟩, trivial⟩ rfl)
            ·refine C.skip (C.bnx (C.nx (U.start ?_)))
             refine U.ps 3 T rfl ?_
             refine U.done (C.nx ?_)
             exact St.wk (C.next hm) (Wk.mk' [some 0, some 1, some 2, some 3] rfl rfl (.eqs rfl) ⟨⟨_, rfl, .box rfl (.eq rfl)⟩, ⟨_, rfl, .val rfl⟩, ⟨_, rfl, .val rfl⟩, ⟨_, rfl, .box rfl (.eq rfl)⟩, trivial⟩ rfl)
           ·obtain ⟨x130, hx130, hm⟩ := hm
            refine St.lend (l := 1) (i := (Int.toNat (w64 (s117.2.2.2.2 + 1)))) rfl (idx_some hx130).2.2 rfl (fun _ => rfl) ?_
            refine D.beg 9999 [1, 4, 5] [] mix rfl rfl (by kernel_rfl) (by repeat (first | exact NoPanicQ.body | refine NoPanicQ.th ?_ | refine NoPanicQ.blk ?_)) (fun hQ hS ws M' => ?_)
            refine D.ps 3 [(0, []), (1, []), (2, [])] rfl hQ hS T rfl rfl (by kernel_rfl) ?_
            refine hm.cs (fun hb131 hm => ?_) (fun hb131 hm => ?_)
            ·refine D.q (o := _) 3 [] hQ hS rfl (.take 2 true 284 _ hb131 rfl rfl rfl) rfl rfl (by exact Rd.p T rfl) rfl (by kernel_rfl) ?_
             refine D.q (o := _) 4 [] hQ hS rfl (.take 2 true 284 _ hb131 rfl rfl rfl) rfl rfl (by exact Rd.p T rfl) rfl (by kernel_rfl) ?_
             refine D.q (o := _) 5 [] hQ hS rfl (.take 2 true 284 _ hb131 rfl rfl rfl) rfl rfl (by exact Rd.p T rfl) rfl (by kernel_rfl) ?_
             refine D.q (o := _) 6 [] hQ hS rfl (.take 2 true 284 _ hb131 rfl rfl rfl) rfl rfl (by exact Rd.il T rfl rfl rfl rfl rfl rfl rfl hx130) rfl (by kernel_rfl) ?_
             refine D.q (o := _) 7 [] hQ hS rfl (.take 2 true 284 _ hb131 rfl rfl rfl) rfl rfl (by exact Rd.ll T rfl rfl rfl (.head _) rfl rfl rfl rfl) rfl (by kernel_rfl) ?_
             refine D.q (o := _) 8 [] hQ hS rfl (.take 2 true 284 _ hb131 rfl rfl rfl) rfl rfl (by exact Rd.p T rfl) rfl (by kernel_rfl) ?_
             refine D.q (o := _) 9 [] hQ hS rfl (.take 2 true 284 _ hb131 rfl rfl rfl) rfl rfl (by exact Rd.l T rfl rfl rfl) rfl (by kernel_rfl) ?_
             refine D.q (o := _) 10 [] hQ hS rfl (.take 2 true 284 _ hb131 rfl rfl rfl) rfl rfl (by exact Rd.p T rfl) rfl (by kernel_rfl) ?_
             refine D.q (o := _) 11 [] hQ hS rfl (.take 2 true 284 _ hb131 rfl rfl rfl) rfl rfl (by exact Rd.p T rfl) rfl (by kernel_rfl) ?_
             refine D.q (o := _) 12 [] hQ hS rfl (.take 2 true 284 _ hb131 rfl rfl rfl) rfl rfl (by exact Rd.p T rfl) rfl (by kernel_rfl) ?_
             refine D.q (o := _) 13 [] hQ hS rfl (.take 2 true 284 _ hb131 rfl rfl rfl) rfl rfl (by exact Rd.l T rfl rfl rfl) rfl (by kernel_rfl) ?_
             refine D.q (o := _) 14 [] hQ hS rfl (.take 2 true 284 _ hb131 rfl rfl rfl) rfl rfl (by exact Rd.p T rfl) rfl (by kernel_rfl) ?_
             obtain ⟨x132, hx132, hm⟩ := hm
             refine D.q (o := _) 15 [] hQ hS rfl (.take 2 true 284 _ hb131 rfl rfl rfl) rfl rfl (by exact Rd.io T rfl rfl rfl rfl rfl rfl rfl hx132) rfl (by kernel_rfl) ?_
             refine D.q (o := _) 16 [] hQ hS rfl (.take 2 true 284 _ hb131 rfl rfl rfl) rfl rfl (by exact Rd.le T rfl rfl rfl (idx_some hx132).2.2 rfl rfl rfl) rfl (by kernel_rfl) ?_
             refine D.q (o := _) 17 [] hQ hS rfl (.none rfl) rfl rfl (by exact Rd.pk rfl rfl hb131 rfl) rfl (by kernel_rfl) ?_
             refine D.done (by kernel_rfl) ?_
             refine St.putb (l := 1) (l' := 5) (y := x130) rfl rfl rfl (fun _ h => nomatch h) rfl _ rfl ?_
             exact St.wk (hJ129 _ hm) (Wk.mk' [some 0, some 1, some 2, some 3, some 4] rfl rfl (.eqs rfl) ⟨⟨_, rfl, .box rfl (.eq rfl)⟩, ⟨_, rfl, .val rfl⟩, ⟨_, rfl, .val rfl⟩, ⟨_, rfl, .box rfl (.eq rfl)⟩, ⟨_, rfl, .box rfl (.eq rfl)⟩, trivial⟩ rfl)
            ·refine D.sq (o := _) 3 [] hQ hS rfl (.skip 2 true 284 _ hb131 rfl rfl rfl) rfl rfl (by kernel_rfl) ?_
             refine D.sq (o := _) 4 [] hQ hS rfl (.skip 2 true 284 _ hb131 rfl rfl rfl) rfl rfl (by kernel_rfl) ?_
             refine D.sq (o := _) 5 [] hQ hS rfl (.skip 2 true 284 _ hb131 rfl rfl rfl) rfl rfl (by kernel_rfl) ?_
             refine D.sq (o := _) 6 [] hQ hS rfl (.skip 2 true 284 _ hb131 rfl rfl rfl) rfl rfl (by kernel_rfl) ?_
             refine D.sq (o := _) 7 [] hQ hS rfl (.skip 2 true 284 _ hb131 rfl rfl rfl) rfl rfl (by kernel_rfl) ?_
             refine D.sq (o := _) 8 [] hQ hS rfl (.skip 2 true 284 _ hb131 rfl rfl rfl) rfl rfl (by kernel_rfl) ?_
             refine D.sq (o := _) 9 [] hQ hS rfl (.skip 2 true 284 _ hb131 rfl rfl rfl) rfl rfl (by kernel_rfl) ?_
             refine D.sq (o := _) 10 [] hQ hS rfl (.skip 2 true 284 _ hb131 rfl rfl rfl) rfl rfl (by kernel_rfl) ?_
             refine D.sq (o := _) 11 [] hQ hS rfl (.skip 2 true 284 _ hb131 rfl rfl rfl) rfl rfl (by kernel_rfl) ?_
             refine D.sq (o := _) 12 [] hQ hS rfl (.skip 2 true 284 _ hb131 rfl rfl rfl) rfl rfl (by kernel_rfl) ?_
             refine D.sq (o := _) 13 [] hQ hS rfl (.skip 2 true 284 _ hb131 rfl rfl rfl) rfl rfl (by kernel_rfl) ?_
             refine D.sq (o := _) 14 [] hQ hS rfl (.skip 2 true 284 _ hb131 rfl rfl rfl) rfl rfl (by kernel_rfl) ?_
             refine D.sq (o := _) 15 [] hQ hS rfl (.skip 2 true 284 _ hb131 rfl rfl rfl) rfl rfl (by kernel_rfl) ?_
             refine D.sq (o := _) 16 [] hQ hS rfl (.skip 2 true 284 _ hb131 rfl rfl rfl) rfl rfl (by kernel_rfl) ?_
             refine D.q (o := _) 17 [] hQ hS rfl (.none rfl) rfl rfl (by exact Rd.pk' rfl rfl hb131 rfl) rfl (by kernel_rfl) ?_
             refine D.done (by kernel_rfl) ?_
             refine St.putb (l := 1) (l' := 5) (y := x130) rfl rfl rfl (fun _ h => nomatch h) rfl _ rfl ?_
             exact St.wk (hJ129 _ hm) (Wk.mk' [some 0, some 1, some 2, some 3, some 4] rfl rfl (.eqs rfl) ⟨⟨_, rfl, .box rfl (.eq rfl)⟩, ⟨_, rfl, .val rfl⟩, ⟨_, rfl, .val rfl⟩, ⟨_, rfl, .box rfl (.eq rfl)⟩, ⟨_, rfl, .box rfl (.eq rfl)⟩, trivial⟩ rfl)
          ·refine C.exit (C.ex (C.ex (C.bex ?_)))
           exact St.wk (hJ123 _ hm) (Wk.mk' [some 0, some 1, some 2, some 3] rfl rfl (.eqs rfl) ⟨⟨_, rfl, .box rfl (.eq rfl)⟩, ⟨_, rfl, .val rfl⟩, ⟨_, rfl, .val rfl⟩, ⟨_, rfl, .box rfl (.eq rfl)⟩, trivial⟩ rfl)
       ·refine C.exit (C.ex (C.ex (C.bex ?_)))
        exact St.wk (hJ116 _ hm) (Wk.mk' [some 2] rfl rfl (.eqs rfl) ⟨⟨_, rfl, .val rfl⟩, trivial⟩ rfl)
     ·refine C.block ?_
      refine St.wk (C.loop (fun (s63 : List (List Bool) × Int) => [(1, .i from_1), (2, .i to_1), (3, .i tick), (4, .sl 3 eApiTaken taken), (5, .sl 1 eI avoid), (7, .p 0 0), (16, .i x7), (17, .i (w64 (x8 * x7))), (19, .o 1), (20, .i x11.2), (28, .o 2), (29, .i s63.2)]) (fun (s63 : List (List Bool) × Int) => [(0, .box (eApiSite s_1)), (1, .val (.os 1 eLeB x11.1)), (2, .val (.os 1 eOeB s63.1))]) hm (fun s63 Y64 hm => ?_)) (Wk.mk' [some 0, some 1, some 2] rfl rfl (.eqs rfl) ⟨⟨_, rfl, .box rfl (.eq rfl)⟩, ⟨_, rfl, .val rfl⟩, ⟨_, rfl, .val rfl⟩, trivial⟩ rfl)
      refine C.seq (C.seq (U.start ?_))
      refine U.ps 2 T rfl ?_
      refine U.done (C.nx ?_)
      refine C.ite rfl hm (fun hb65 hm => ?_) (fun hb65 hm => ?_)
      ·refine C.skip (C.nx (C.seq ?_))
       refine C.jn (fun (x66 : List (List Bool)) => [(1, .i from_1), (2, .i to_1), (3, .i tick), (4, .sl 3 eApiTaken taken), (5, .sl 1 eI avoid), (7, .p 0 0), (16, .i x7), (17, .i (w64 (x8 * x7))), (19, .o 1), (20, .i x11.2), (28, .o 2), (29, .i s63.2)]) (fun (x66 : List (List Bool)) => [(0, .box (eApiSite s_1)), (1, .val (.os 1 eLeB x11.1)), (2, .val (.os 1 eOeB x66))]) 3 hm (fun x66 hm => ?_) (fun J67 hm hJ67 => ?_)
       ·refine C.nx (U.start ?_)
        refine U.ps 3 T rfl ?_
        refine U.done (C.nx ?_)
        exact St.wk (C.next hm) (Wk.mk' [some 0, some 1, some 2] rfl rfl (.eqs rfl) ⟨⟨_, rfl, .box rfl (.eq rfl)⟩, ⟨_, rfl, .val rfl⟩, ⟨_, rfl, .val rfl⟩, trivial⟩ rfl)
       ·refine C.block (C.seq (U.start ?_))
        refine U.ps 3 T rfl ?_
        obtain ⟨hx68, hm⟩ := hm
        refine U.e1 (o := _) rfl (.none rfl) (by exact Eff1.mk T (enc := eB) (z0 := false) rfl rfl rfl rfl rfl rfl rfl rfl rfl rfl hx68) ?_
        obtain ⟨x69, hx69, hm⟩ := hm
        refine U.r (o := _) rfl (.none rfl) rfl rfl (by exact Rd.io T rfl rfl rfl rfl rfl rfl rfl hx69) ?_
        refine U.e1 (o := _) rfl (.none rfl) (by exact Eff1.sl0 T rfl rfl rfl (idx_some hx69).2.2 (fun _ => rfl) rfl rfl rfl rfl) ?_
        refine U.done ?_
        refine St.putb (l := 2) (l' := 3) (y := (List.replicate (Int.toNat (w64 (x8 * x7))) false)) rfl rfl rfl (fun _ h => nomatch h) rfl _ rfl ?_
        refine C.nx (C.seq (U.start ?_))
        refine U.ps 1 T rfl ?_
        refine U.done (C.nx ?_)
        refine C.jn (fun (x70 : List (List Bool)) => [(1, .i from_1), (2, .i to_1), (3, .i tick), (4, .sl 3 eApiTaken taken), (5, .sl 1 eI avoid), (7, .p 0 0), (16, .i x7), (17, .i (w64 (x8 * x7))), (19, .o 1), (20, .i x11.2), (28, .o 2), (29, .i s63.2)]) (fun (x70 : List (List Bool)) => [(0, .box (eApiSite s_1)), (1, .val (.os 1 eLeB x11.1)), (2, .val (.os 1 eOeB x70))]) 3 hm (fun x70 hm => ?_) (fun J71 hm hJ71 => ?_)
        ·refine C.bnx ?_
         exact St.wk (hJ67 _ hm) (Wk.mk' [some 0, some 1, some 2] rfl rfl (.eqs rfl) ⟨⟨_, rfl, .box rfl (.eq rfl)⟩, ⟨_, rfl, .val rfl⟩, ⟨_, rfl, .val rfl⟩, trivial⟩ rfl)
        ·refine C.block ?_
         refine St.wk (C.loop (fun (s72 : List (List Bool) × Int) => [(1, .i from_1), (2, .i to_1), (3, .i tick), (4, .sl 3 eApiTaken taken), (5, .sl 1 eI avoid), (7, .p 0 0), (16, .i x7), (17, .i (w64 (x8 * x7))), (19, .o 1), (20, .i x11.2), (28, .o 2), (29, .i s63.2), (30, .i s72.2)]) (fun (s72 : List (List Bool) × Int) => [(0, .box (eApiSite s_1)), (1, .val (.os 1 eLeB x11.1)), (2, .val (.os 1 eOeB s72.1))]) hm (fun s72 Y73 hm => ?_)) (Wk.mk' [some 0, some 1, some 2] rfl rfl (.eqs rfl) ⟨⟨_, rfl, .box rfl (.eq rfl)⟩, ⟨_, rfl, .val rfl⟩, ⟨_, rfl, .val rfl⟩, trivial⟩ rfl)
         refine C.seq (C.seq (U.start ?_))
         refine U.ps 3 T rfl ?_
         refine U.done (C.nx ?_)
         refine C.ite rfl hm (fun hb74 hm => ?_) (fun hb74 hm => ?_)
         ·refine C.skip (C.nx (C.seq ?_))
          refine C.jn (fun (x75 : List (List Bool)) => [(1, .i from_1), (2, .i to_1), (3, .i tick), (4, .sl 3 eApiTaken taken), (5, .sl 1 eI avoid), (7, .p 0 0), (16, .i x7), (17, .i (w64 (x8 * x7))), (19, .o 1), (20, .i x11.2), (28, .o 2), (29, .i s63.2), (30, .i s72.2)]) (fun (x75 : List (List Bool)) => [(0, .box (eApiSite s_1)), (1, .val (.os 1 eLeB x11.1)), (2, .val (.os 1 eOeB x75))]) 3 hm (fun x75 hm => ?_) (fun J76 hm hJ76 => ?_)
          ·refine C.nx (U.start ?_)
           refine U.ps 3 T rfl ?_
           refine U.done (C.nx ?_)
           exact St.wk (C.next hm) (Wk.mk' [some 0, some 1, some 2] rfl rfl (.eqs rfl) ⟨⟨_, rfl, .box rfl (.eq rfl)⟩, ⟨_, rfl, .val rfl⟩, ⟨_, rfl, .val rfl⟩, trivial⟩ rfl)
          ·refine C.block (C.seq (C.seq (U.start ?_)))
           refine U.ps 3 T rfl ?_
           refine U.done (C.nx ?_)
           refine C.ite rfl hm (fun hb77 hm => ?_) (fun hb77 hm => ?_)
           ·refine C.seq ?_
            refine C.jn (fun (x78 : List (List Bool)) => [(1, .i from_1), (2, .i to_1), (3, .i tick), (4, .sl 3 eApiTaken taken), (5, .sl 1 eI avoid), (7, .p 0 0), (16, .i x7), (17, .i (w64 (x8 * x7))), (19, .o 1), (20, .i x11.2), (28, .o 2), (29, .i s63.2), (30, .i s72.2)]) (fun (x78 : List (List Bool)) => [(0, .box (eApiSite s_1)), (1, .val (.os 1 eLeB x11.1)), (2, .val (.os 1 eOeB x78))]) 3 hm (fun x78 hm => ?_) (fun J79 hm hJ79 => ?_)
            ·refine C.nx (C.exit (C.ex (C.bex ?_)))
             exact St.wk (hJ76 _ hm) (Wk.mk' [some 0, some 1, some 2] rfl rfl (.eqs rfl) ⟨⟨_, rfl, .box rfl (.eq rfl)⟩, ⟨_, rfl, .val rfl⟩, ⟨_, rfl, .val rfl⟩, trivial⟩ rfl)
            ·obtain ⟨x80, hx80, hm⟩ := hm
             refine St.lend (l := 2) (i := (Int.toNat s63.2)) rfl (idx_some hx80).2.2 rfl (fun _ => rfl) ?_
             refine D.beg 29 [1, 2] [] mix rfl rfl (by kernel_rfl) (by repeat (first | exact NoPanicQ.body | refine NoPanicQ.th ?_ | refine NoPanicQ.blk ?_)) (fun hQ hS ws M' => ?_)
             refine D.ps 2 [(0, []), (1, [])] rfl hQ hS T rfl rfl (by kernel_rfl) ?_
             refine D.q (o := _) 2 [] hQ hS rfl (.none rfl) rfl rfl (by exact Rd.il T rfl rfl rfl rfl rfl rfl rfl hx80) rfl (by kernel_rfl) ?_
             refine D.q (o := _) 3 [] hQ hS rfl (.none rfl) rfl rfl (by exact Rd.ll T rfl rfl rfl (.head _) rfl rfl rfl rfl) rfl (by kernel_rfl) ?_
             refine D.ps 3 [(4, []), (5, []), (6, [])] rfl hQ hS T rfl rfl (by kernel_rfl) ?_
             obtain ⟨x81, hx81, hm⟩ := hm
             refine D.q (o := _) 7 [] hQ hS rfl (.none rfl) rfl rfl (by exact Rd.io T rfl rfl rfl rfl rfl rfl rfl hx81) rfl (by kernel_rfl) ?_
             refine D.q (o := _) 8 [] hQ hS rfl (.none rfl) rfl rfl (by exact Rd.le T rfl rfl rfl (idx_some hx81).2.2 rfl rfl rfl) rfl (by kernel_rfl) ?_
             refine D.ps 1 [(9, [])] rfl hQ hS T rfl rfl (by kernel_rfl) ?_
             obtain ⟨x82, hx82, hm⟩ := hm
             refine D.q (o := _) 10 [] hQ hS rfl (.none rfl) rfl rfl (by exact Rd.ix T rfl rfl rfl rfl rfl rfl hx82) rfl (by kernel_rfl) ?_
             refine D.ps 2 [(11, []), (12, [])] rfl hQ hS T rfl rfl (by kernel_rfl) ?_
             refine hm.cs (fun hb83 hm => ?_) (fun hb83 hm => ?_)
             ·refine D.q (o := _) 13 [] hQ hS rfl (.take 12 true 187 _ hb83 rfl rfl rfl) rfl rfl (by exact Rd.p T rfl) rfl (by kernel_rfl) ?_
              refine D.q (o := _) 14 [] hQ hS rfl (.take 12 true 187 _ hb83 rfl rfl rfl) rfl rfl (by exact Rd.p T rfl) rfl (by kernel_rfl) ?_
              obtain ⟨hx84, hm⟩ := hm
              refine D.q (o := _) 15 [] hQ hS rfl (.take 12 true 187 _ hb83 rfl rfl rfl) rfl rfl (by exact Rd.dv rfl rfl rfl rfl hx84) rfl (by kernel_rfl) ?_
              refine D.q (o := _) 16 [] hQ hS rfl (.take 12 true 187 _ hb83 rfl rfl rfl) rfl rfl (by exact Rd.p T rfl) rfl (by kernel_rfl) ?_
              refine D.q (o := _) 17 [] hQ hS rfl (.take 12 true 187 _ hb83 rfl rfl rfl) rfl rfl (by exact Rd.p T rfl) rfl (by kernel_rfl) ?_
              refine D.q (o := _) 18 [] hQ hS rfl (.none rfl) rfl rfl (by exact Rd.pk rfl rfl hb83 rfl) rfl (by kernel_rfl) ?_
              refine D.ps 1 [(19, [])] rfl hQ hS T rfl rfl (by kernel_rfl) ?_
              refine hm.cs (fun hb85 hm => ?_) (fun hb85 hm => ?_)
              ·refine D.q (o := _) 20 [] hQ hS rfl (.take 19 true 194 _ hb85 rfl rfl rfl) rfl rfl (by exact Rd.p T rfl) rfl (by kernel_rfl) ?_
               refine D.q (o := _) 21 [] hQ hS rfl (.take 19 true 194 _ hb85 rfl rfl rfl) rfl rfl (by exact Rd.p T rfl) rfl (by kernel_rfl) ?_
               refine D.q (o := _) 22 [] hQ hS rfl (.take 19 true 194 _ hb85 rfl rfl rfl) rfl rfl (by exact Rd.p T rfl) rfl (by kernel_rfl) ?_
               refine D.q (o := _) 23 [] hQ hS rfl (.take 19 true 194 _ hb85 rfl rfl rfl) rfl rfl (by exact Rd.p T rfl) rfl (by kernel_rfl) ?_
               refine D.q (o := _) 24 [] hQ hS rfl (.take 19 true 194 _ hb85 rfl rfl rfl) rfl rfl (by exact Rd.p T rfl) rfl (by kernel_rfl) ?_
               refine D.e (o := _) 25 rfl (.take 19 true 194 _ hb85 rfl rfl rfl) (by exact Eff.c [] (v := true) (T_taquinref23_Taken taken to_1 (w64 (tick + s63.2)) _ hm) en32 rfl rfl rfl (.eq rfl) trivial rfl rfl rfl rfl rfl rfl (fun _ _ => ⟨(.v _), trivial⟩) (.inr ⟨rfl, rfl⟩) (fun _ => rfl) (fun _ => rfl) rfl) (by kernel_rfl) rfl rfl (fun x86' hm => ?_)
               obtain ⟨x86⟩ := x86'
               refine D.q (o := _) 26 [] hQ hS rfl (.take 19 true 194 _ hb85 rfl rfl rfl) rfl rfl (by exact Rd.p T rfl) rfl (by kernel_rfl) ?_
               refine D.q (o := _) 27 [] hQ hS rfl (.none rfl) rfl rfl (by exact Rd.pk rfl rfl hb85 rfl) rfl (by kernel_rfl) ?_
               obtain ⟨x87, hx87, hm⟩ := hm
               refine D.q (o := _) 28 [] hQ hS rfl (.none rfl) rfl rfl (by exact Rd.io T rfl rfl rfl rfl rfl rfl rfl hx87) rfl (by kernel_rfl) ?_
               refine D.ze1 (o := _) rfl (.none rfl) (by exact Eff1.se T (z' := !x86) rfl rfl rfl (idx_some hx87).2.2 rfl rfl rfl rfl rfl rfl rfl rfl (fun _ => rfl) rfl) (by kernel_rfl) (by kernel_rfl) ?_
               refine St.putb (l := 2) (l' := 3) (y := (x80.set (Int.toNat s72.2) (!x86))) rfl rfl rfl (fun _ h => nomatch h) rfl _ rfl ?_
               exact St.wk (hJ79 _ hm) (Wk.mk' [some 0, some 1, some 2] rfl rfl (.eqs rfl) ⟨⟨_, rfl, .box rfl (.eq rfl)⟩, ⟨_, rfl, .val rfl⟩, ⟨_, rfl, .val rfl⟩, trivial⟩ rfl)
              ·refine D.sq (o := _) 20 [] hQ hS rfl (.skip 19 true 194 _ hb85 rfl rfl rfl) rfl rfl (by kernel_rfl) ?_
               refine D.sq (o := _) 21 [] hQ hS rfl (.skip 19 true 194 _ hb85 rfl rfl rfl) rfl rfl (by kernel_rfl) ?_
               refine D.sq (o := _) 22 [] hQ hS rfl (.skip 19 true 194 _ hb85 rfl rfl rfl) rfl rfl (by kernel_rfl) ?_
               refine D.sq (o := _) 23 [] hQ hS rfl (.skip 19 true 194 _ hb85 rfl rfl rfl) rfl rfl (by kernel_rfl) ?_
               refine D.sq (o := _) 24 [] hQ hS rfl (.skip 19 true 194 _ hb85 rfl rfl rfl) rfl rfl (by kernel_rfl) ?_
               refine D.sq (o := _) 25 [] hQ hS rfl (.skip 19 true 194 _ hb85 rfl rfl rfl) rfl rfl (by kernel_rfl) ?_
               refine D.sq (o := _) 26 [] hQ hS rfl (.skip 19 true 194 _ hb85 rfl rfl rfl) rfl rfl (by kernel_rfl) ?_
               refine D.q (o := _) 27 [] hQ hS rfl (.none rfl) rfl rfl (by exact Rd.pk' rfl rfl hb85 rfl) rfl (by kernel_rfl) ?_
               obtain ⟨x88, hx88, hm⟩ := hm
               refine D.q (o := _) 28 [] hQ hS rfl (.none rfl) rfl rfl (by exact Rd.io T rfl rfl rfl rfl rfl rfl rfl hx88) rfl (by kernel_rfl) ?_
               refine D.ze1 (o := _) rfl (.none rfl) (by exact Eff1.se T (z' := false) rfl rfl rfl (idx_some hx88).2.2 rfl rfl rfl rfl rfl rfl rfl rfl (fun _ => rfl) rfl) (by kernel_rfl) (by kernel_rfl) ?_
               refine St.putb (l := 2) (l' := 3) (y := (x80.set (Int.toNat s72.2) false)) rfl rfl rfl (fun _ h => nomatch h) rfl _ rfl ?_
               exact St.wk (hJ79 _ hm) (Wk.mk' [some 0, some 1, some 2] rfl rfl (.eqs rfl) ⟨⟨_, rfl, .box rfl (.eq rfl)⟩, ⟨_, rfl, .val rfl⟩, ⟨_, rfl, .val rfl⟩, trivial⟩ rfl)
             ·refine D.sq (o := _) 13 [] hQ hS rfl (.skip 12 true 187 _ hb83 rfl rfl rfl) rfl rfl (by kernel_rfl) ?_
              refine D.sq (o := _) 14 [] hQ hS rfl (.skip 12 true 187 _ hb83 rfl rfl rfl) rfl rfl (by kernel_rfl) ?_
              refine D.sq (o := _) 15 [] hQ hS rfl (.skip 12 true 187 _ hb83 rfl rfl rfl) rfl rfl (by kernel_rfl) ?_
              refine D.sq (o := _) 16 [] hQ hS rfl (.skip 12 true 187 _ hb83 rfl rfl rfl) rfl rfl (by kernel_rfl) ?_
              refine D.sq (o := _) 17 [] hQ hS rfl (.skip 12 true 187 _ hb83 rfl rfl rfl) rfl rfl (by kernel_rfl) ?_
              refine D.q (o := _) 18 [] hQ hS rfl (.none rfl) rfl rfl (by exact Rd.pk' rfl rfl hb83 rfl) rfl (by kernel_rfl) ?_
              refine D.ps 1 [(19, [])] rfl hQ hS T rfl rfl (by kernel_rfl) ?_
              refine D.sq (o := _) 20 [] hQ hS rfl (.skip 19 true 194 _ rfl rfl rfl rfl) rfl rfl (by kernel_rfl) ?_
              refine D.sq (o := _) 21 [] hQ hS rfl (.skip 19 true 194 _ rfl rfl rfl rfl) rfl rfl (by kernel_rfl) ?_
              refine D.sq (o := _) 22 [] hQ hS rfl (.skip 19 true 194 _ rfl rfl rfl rfl) rfl rfl (by kernel_rfl) ?_
              refine D.sq (o := _) 23 [] hQ hS rfl (.skip 19 true 194 _ rfl rfl rfl rfl) rfl rfl (by kernel_rfl) ?_
              refine D.sq (o := _) 24 [] hQ hS rfl (.skip 19 true 194 _ rfl rfl rfl rfl) rfl rfl (by kernel_rfl) ?_
              refine D.sq (o := _) 25 [] hQ hS rfl (.skip 19 true 194 _ rfl rfl rfl rfl) rfl rfl (by kernel_rfl) ?_
              refine D.sq (o := _) 26 [] hQ hS rfl (.skip 19 true 194 _ rfl rfl rfl rfl) rfl rfl (by kernel_rfl) ?_
              refine D.q (o := _) 27 [] hQ hS rfl (.none rfl) rfl rfl (by exact Rd.pk' rfl rfl rfl rfl) rfl (by kernel_rfl) ?_
              obtain ⟨x89, hx89, hm⟩ := hm
              refine D.q (o := _) 28 [] hQ hS rfl (.none rfl) rfl rfl (by exact Rd.io T rfl rfl rfl rfl rfl rfl rfl hx89) rfl (by kernel_rfl) ?_
              refine D.ze1 (o := _) rfl (.none rfl) (by exact Eff1.se T (z' := false) rfl rfl rfl (idx_some hx89).2.2 rfl rfl rfl rfl rfl rfl rfl rfl (fun _ => rfl) rfl) (by kernel_rfl) (by kernel_rfl) ?_
              refine St.putb (l := 2) (l' := 3) (y := (x80.set (Int.toNat s72.2) false)) rfl rfl rfl (fun _ h => nomatch h) rfl _ rfl ?_
              exact St.wk (hJ79 _ hm) (Wk.mk' [some 0, some 1, some 2] rfl rfl (.eqs rfl) ⟨⟨_, rfl, .box rfl (.eq rfl)⟩, ⟨_, rfl, .val rfl⟩, ⟨_, rfl, .val rfl⟩, trivial⟩ rfl)
           ·refine C.skip (C.nx (C.seq (U.start ?_)))
            refine U.ps 1 T rfl ?_
            refine U.done (C.nx ?_)
            refine C.jn (fun (x90 : List (List Bool)) => [(1, .i from_1), (2, .i to_1), (3, .i tick), (4, .sl 3 eApiTaken taken), (5, .sl 1 eI avoid), (7, .p 0 0), (16, .i x7), (17, .i (w64 (x8 * x7))), (19, .o 1), (20, .i x11.2), (28, .o 2), (29, .i s63.2), (30, .i s72.2)]) (fun (x90 : List (List Bool)) => [(0, .box (eApiSite s_1)), (1, .val (.os 1 eLeB x11.1)), (2, .val (.os 1 eOeB x90))]) 3 hm (fun x90 hm => ?_) (fun J91 hm hJ91 => ?_)
            ·refine C.bnx ?_
             exact St.wk (hJ76 _ hm) (Wk.mk' [some 0, some 1, some 2] rfl rfl (.eqs rfl) ⟨⟨_, rfl, .box rfl (.eq rfl)⟩, ⟨_, rfl, .val rfl⟩, ⟨_, rfl, .val rfl⟩, trivial⟩ rfl)
            ·refine C.block ?_
             refine St.wk (C.loop (fun (s92 : List (List Bool) × Int) => [(1, .i from_1), (2, .i to_1), (3, .i tick), (4, .sl 3 eApiTaken taken), (5, .sl 1 eI avoid), (7, .p 0 0), (16, .i x7), (17, .i (w64 (x8 * x7))), (19, .o 1), (20, .i x11.2), (28, .o 2), (29, .i s63.2), (30, .i s72.2), (31, .i s92.2)]) (fun (s92 : List (List Bool) × Int) => [(0, .box (eApiSite s_1)), (1, .val (.os 1 eLeB x11.1)), (2, .val (.os 1 eOeB s92.1))]) hm (fun s92 Y93 hm => ?_)) (Wk.mk' [some 0, some 1, some 2] rfl rfl (.eqs rfl) ⟨⟨_, rfl, .box rfl (.eq rfl)⟩, ⟨_, rfl, .val rfl⟩, ⟨_, rfl, .val rfl⟩, trivial⟩ rfl)
             refine C.seq (C.seq ?_)
             refine C.jn (fun (x94 : Bool) => [(1, .i from_1), (2, .i to_1), (3, .i tick), (4, .sl 3 eApiTaken taken), (5, .sl 1 eI avoid), (7, .p 0 0), (16, .i x7), (17, .i (w64 (x8 * x7))), (19, .o 1), (20, .i x11.2), (28, .o 2), (29, .i s63.2), (30, .i s72.2), (31, .i s92.2), (214, .b x94)]) (fun (x94 : Bool) => [(0, .box (eApiSite s_1)), (1, .val (.os 1 eLeB x11.1)), (2, .val (.os 1 eOeB s92.1))]) 3 hm (fun x94 hm => ?_) (fun J95 hm hJ95 => ?_)
             ·refine C.nx ?_
              refine C.ite rfl hm (fun hb99 hm => ?_) (fun hb99 hm => ?_)
              ·refine C.skip (C.nx (C.seq (C.block (C.seq ?_))))
               refine C.jn (fun (x100 : Int × Int × Int) => [(1, .i from_1), (2, .i to_1), (3, .i tick), (4, .sl 3 eApiTaken taken), (5, .sl 1 eI avoid), (7, .p 0 0), (16, .i x7), (17, .i (w64 (x8 * x7))), (19, .o 1), (20, .i x11.2), (28, .o 2), (29, .i s63.2), (30, .i s72.2), (31, .i s92.2), (32, .p 3 0), (33, .i x100.2.2)]) (fun (x100 : Int × Int × Int) => [(0, .box (eApiSite s_1)), (1, .val (.os 1 eLeB x11.1)), (2, .val (.os 1 eOeB s92.1)), (3, .box [.i x100.1, .i x100.2.1])]) 4 hm (fun x100 hm => ?_) (fun J101 hm hJ101 => ?_)
               ·refine C.nx (C.seq ?_)
                refine C.jn (fun (x105 : List (List Bool) × Bool) => [(1, .i from_1), (2, .i to_1), (3, .i tick), (4, .sl 3 eApiTaken taken), (5, .sl 1 eI avoid), (7, .p 0 0), (16, .i x7), (17, .i (w64 (x8 * x7))), (19, .o 1), (20, .i x11.2), (28, .o 2), (29, .i s63.2), (30, .i s72.2), (31, .i s92.2), (252, .b x105.2)]) (fun (x105 : List (List Bool) × Bool) => [(0, .box (eApiSite s_1)), (1, .val (.os 1 eLeB x11.1)), (2, .val (.os 1 eOeB x105.1))]) 3 hm (fun x105 hm => ?_) (fun J106 hm hJ106 => ?_)
                ·refine C.nx ?_
                 refine C.jn (fun (x110 : List (List Bool)) => [(1, .i from_1), (2, .i to_1), (3, .i tick), (4, .sl 3 eApiTaken taken), (5, .sl 1 eI avoid), (7, .p 0 0), (16, .i x7), (17, .i (w64 (x8 * x7))), (19, .o 1), (20, .i x11.2), (28, .o 2), (29, .i s63.2), (30, .i s72.2), (31, .i s92.2)]) (fun (x110 : List (List Bool)) => [(0, .box (eApiSite s_1)), (1, .val (.os 1 eLeB x11.1)), (2, .val (.os 1 eOeB x110))]) 3 hm (fun x110 hm => ?_) (fun J111 hm hJ111 => ?_)
                 ·refine C.bnx (C.nx (U.start ?_))
                  refine U.ps 3 T rfl ?_
                  refine U.done (C.nx ?_)
                  exact St.wk (C.next hm) (Wk.mk' [some 0, some 1, some 2] rfl rfl (.eqs rfl) ⟨⟨_, rfl, .box rfl (.eq rfl)⟩, ⟨_, rfl, .val rfl⟩, ⟨_, rfl, .val rfl⟩, trivial⟩ rfl)
                 ·refine C.ite rfl hm (fun hb112 hm => ?_) (fun hb112 hm => ?_)
                  ·refine U.start ?_
                   refine U.ps 2 T rfl ?_
                   obtain ⟨x113, hx113, hm⟩ := hm
                   refine U.r (o := _) rfl (.none rfl) rfl rfl (by exact Rd.io T rfl rfl rfl rfl rfl rfl rfl hx113) ?_
                   refine St.lend (l := 2) (i := (Int.toNat s63.2)) rfl (idx_some hx113).2.2 rfl (fun _ => rfl) ?_
                   refine U.r (o := _) rfl (.none rfl) rfl rfl (by exact Rd.ll T rfl rfl rfl (.head _) rfl rfl rfl rfl) ?_
                   refine U.ps 1 T rfl ?_
                   obtain ⟨x114, hx114, hm⟩ := hm
                   refine U.r (o := _) rfl (.none rfl) rfl rfl (by exact Rd.io T rfl rfl rfl rfl rfl rfl rfl hx114) ?_
                   refine U.e1 (o := _) rfl (.none rfl) (by exact Eff1.se T (z' := true) rfl rfl rfl (idx_some hx114).2.2 rfl rfl rfl rfl rfl rfl rfl rfl (fun _ => rfl) rfl) ?_
                   refine U.done ?_
                   refine St.putb (l := 2) (l' := 3) (y := (x113.set (Int.toNat s72.2) true)) rfl rfl rfl (fun _ h => nomatch h) rfl _ rfl ?_
                   exact St.wk (hJ111 _ hm) (Wk.mk' [some 0, some 1, some 2] rfl rfl (.eqs rfl) ⟨⟨_, rfl, .box rfl (.eq rfl)⟩, ⟨_, rfl, .val rfl⟩, ⟨_, rfl, .val rfl⟩, trivial⟩ rfl)
                  ·refine C.skip ?_
                   exact St.wk (hJ111 _ hm) (Wk.mk' [some 0, some 1, some 2] rfl rfl (.eqs rfl) ⟨⟨_, rfl, .box rfl (.eq rfl)⟩, ⟨_, rfl, .val rfl⟩, ⟨_, rfl, .val rfl⟩, trivial⟩ rfl)
                ·obtain ⟨x107, hx107, hm⟩ := hm
                 refine St.lend (l := 2) (i := (Int.toNat (w64 (s63.2 + 1)))) rfl (idx_some hx107).2.2 rfl (fun _ => rfl) ?_
                 refine D.beg 9999 [2, 3, 4] [] mix rfl rfl (by kernel_rfl) (by repeat (first | exact NoPanicQ.body | refine NoPanicQ.th ?_ | refine NoPanicQ.blk ?_)) (fun hQ hS ws M' => ?_)
                 refine D.ps 3 [(0, []), (1, []), (2, [])] rfl hQ hS T rfl rfl (by kernel_rfl) ?_
                 refine hm.cs (fun hb108 hm => ?_) (fun hb108 hm => ?_)
                 ·refine D.q (o := _) 3 [] hQ hS rfl (.take 2 true 237 _ hb108 rfl rfl rfl) rfl rfl (by exact Rd.p T rfl) rfl (by kernel_rfl) ?_
                  refine D.q (o := _) 4 [] hQ hS rfl (.take 2 true 237 _ hb108 rfl rfl rfl) rfl rfl (by exact Rd.p T rfl) rfl (by kernel_rfl) ?_
                  refine D.q (o := _) 5 [] hQ hS rfl (.take 2 true 237 _ hb108 rfl rfl rfl) rfl rfl (by exact Rd.p T rfl) rfl (by kernel_rfl) ?_
                  refine D.q (o := _) 6 [] hQ hS rfl (.take 2 true 237 _ hb108 rfl rfl rfl) rfl rfl (by exact Rd.il T rfl rfl rfl rfl rfl rfl rfl hx107) rfl (by kernel_rfl) ?_
                  refine D.q (o := _) 7 [] hQ hS rfl (.take 2 true 237 _ hb108 rfl rfl rfl) rfl rfl (by exact Rd.ll T rfl rfl rfl (.head _) rfl rfl rfl rfl) rfl (by kernel_rfl) ?_
                  refine D.q (o := _) 8 [] hQ hS rfl (.take 2 true 237 _ hb108 rfl rfl rfl) rfl rfl (by exact Rd.p T rfl) rfl (by kernel_rfl) ?_
                  refine D.q (o := _) 9 [] hQ hS rfl (.take 2 true 237 _ hb108 rfl rfl rfl) rfl rfl (by exact Rd.l T rfl rfl rfl) rfl (by kernel_rfl) ?_
                  refine D.q (o := _) 10 [] hQ hS rfl (.take 2 true 237 _ hb108 rfl rfl rfl) rfl rfl (by exact Rd.p T rfl) rfl (by kernel_rfl) ?_
                  refine D.q (o := _) 11 [] hQ hS rfl (.take 2 true 237 _ hb108 rfl rfl rfl) rfl rfl (by exact Rd.p T rfl) rfl (by kernel_rfl) ?_
                  refine D.q (o := _) 12 [] hQ hS rfl (.take 2 true 237 _ hb108 rfl rfl rfl) rfl rfl (by exact Rd.p T rfl) rfl (by kernel_rfl) ?_
                  refine D.q (o := _) 13 [] hQ hS rfl (.take 2 true 237 _ hb108 rfl rfl rfl) rfl rfl (by exact Rd.l T rfl rfl rfl) rfl (by kernel_rfl) ?_
                  refine D.q (o := _) 14 [] hQ hS rfl (.take 2 true 237 _ hb108 rfl rfl rfl) rfl rfl (by exact Rd.p T rfl) rfl (by kernel_rfl) ?_
                  obtain ⟨x109, hx109, hm⟩ := hm
                  refine D.q (o := _) 15 [] hQ hS rfl (.take 2 true 237 _ hb108 rfl rfl rfl) rfl rfl (by exact Rd.io T rfl rfl rfl rfl rfl rfl rfl hx109) rfl (by kernel_rfl) ?_
                  refine D.q (o := _) 16 [] hQ hS rfl (.take 2 true 237 _ hb108 rfl rfl rfl) rfl rfl (by exact Rd.le T rfl rfl rfl (idx_some hx109).2.2 rfl rfl rfl) rfl (by kernel_rfl) ?_
                  refine D.q (o := _) 17 [] hQ hS rfl (.none rfl) rfl rfl (by exact Rd.pk rfl rfl hb108 rfl) rfl (by kernel_rfl) ?_
                  refine D.done (by kernel_rfl) ?_
                  refine St.putb (l := 2) (l' := 4) (y := x107) rfl rfl rfl (fun _ h => nomatch h) rfl _ rfl ?_
                  exact St.wk (hJ106 _ hm) (Wk.mk' [some 0, some 1, some 2] rfl rfl (.eqs rfl) ⟨⟨_, rfl, .box rfl (.eq rfl)⟩, ⟨_, rfl, .val rfl⟩, ⟨_, rfl, .val rfl⟩, trivial⟩ rfl)
                 ·refine D.sq (o := _) 3 [] hQ hS rfl (.skip 2 true 237 _ hb108 rfl rfl rfl) rfl rfl (by kernel_rfl) ?_
                  refine D.sq (o := _) 4 [] hQ hS rfl (.skip 2 true 237 _ hb108 rfl rfl rfl) rfl rfl (by kernel_rfl) ?_
                  refine D.sq (o := _) 5 [] hQ hS rfl (.skip 2 true 237 _ hb108 rfl rfl rfl) rfl rfl (by kernel_rfl) ?_
                  refine D.sq (o := _) 6 [] hQ hS rfl (.skip 2 true 237 _ hb108 rfl rfl rfl) rfl rfl (by kernel_rfl) ?_
                  refine D.sq (o := _) 7 [] hQ hS rfl (.skip 2 true 237 _ hb108 rfl rfl rfl) rfl rfl (by kernel_rfl) ?_
                  refine D.sq (o := _) 8 [] hQ hS rfl (.skip 2 true 237 _ hb108 rfl rfl rfl) rfl rfl (by kernel_rfl) ?_
                  refine D.sq (o := _) 9 [] hQ hS rfl (.skip 2 true 237 _ hb108 rfl rfl rfl) rfl rfl (by kernel_rfl) ?_
                  refine D.sq (o := _) 10 [] hQ hS rfl (.skip 2 true 237 _ hb108 rfl rfl rfl) rfl rfl (by kernel_rfl) ?_
                  refine D.sq (o := _) 11 [] hQ hS rfl (.skip 2 true 237 _ hb108 rfl rfl rfl) rfl rfl (by kernel_rfl) ?_
                  refine D.sq (o := _) 12 [] hQ hS rfl (.skip 2 true 237 _ hb108 rfl rfl rfl) rfl rfl (by kernel_rfl) ?_
                  refine D.sq (o := _) 13 [] hQ hS rfl (.skip 2 true 237 _ hb108 rfl rfl rfl) rfl rfl (by kernel_rfl) ?_
                  refine D.sq (o := _) 14 [] hQ hS rfl (.skip 2 true 237 _ hb108 rfl rfl rfl) rfl rfl (by kernel_rfl) ?_
                  refine D.sq (o := _) 15 [] hQ hS rfl (.skip 2 true 237 _ hb108 rfl rfl rfl) rfl rfl (by kernel_rfl) ?_
                  refine D.sq (o := _) 16 [] hQ hS rfl (.skip 2 true 237 _ hb108 rfl rfl rfl) rfl rfl (by kernel_rfl) ?_
                  refine D.q (o := _) 17 [] hQ hS rfl (.none rfl) rfl rfl (by exact Rd.pk' rfl rfl hb108 rfl) rfl (by kernel_rfl) ?_
                  refine D.done (by kernel_rfl) ?_
                  refine St.putb (l := 2) (l' := 4) (y := x107) rfl rfl rfl (fun _ h => nomatch h) rfl _ rfl ?_
                  exact St.wk (hJ106 _ hm) (Wk.mk' [some 0, some 1, some 2] rfl rfl (.eqs rfl) ⟨⟨_, rfl, .box rfl (.eq rfl)⟩, ⟨_, rfl, .val rfl⟩, ⟨_, rfl, .val rfl⟩, trivial⟩ rfl)
               ·refine D.beg 9999 [0] [3] mix rfl rfl (by kernel_rfl) (by repeat (first | exact NoPanicQ.body | refine NoPanicQ.th ?_ | refine NoPanicQ.blk ?_)) (fun hQ hS ws M' => ?_)
                refine D.ps 3 [(0, []), (1, []), (2, [])] rfl hQ hS T rfl rfl (by kernel_rfl) ?_
                obtain ⟨hx102, hm⟩ := hm
                refine D.q (o := _) 3 [] hQ hS rfl (.none rfl) rfl rfl (by exact Rd.dv rfl rfl rfl rfl hx102) rfl (by kernel_rfl) ?_
                refine D.ps 2 [(4, []), (5, [])] rfl hQ hS T rfl rfl (by kernel_rfl) ?_
                obtain ⟨hx103, hm⟩ := hm
                refine D.q (o := _) 6 [] hQ hS rfl (.none rfl) rfl rfl (by exact Rd.rm rfl rfl rfl rfl hx103) rfl (by kernel_rfl) ?_
                refine D.ps 7 [(7, []), (8, []), (9, []), (10, []), (11, []), (12, []), (13, [])] rfl hQ hS T rfl rfl (by kernel_rfl) ?_
                refine D.two 14 18 (by kernel_rfl) ?_ ?_
                ·refine D.ef (o := _) rfl (.none rfl) (by exact Eff.c [] (v := true) (T_taquinref23_step s_1 ({ cell := w64 (s72.2.tdiv x7), rest := s72.2.tmod x7 : Taquinref23Place }) (w64 (tick + s63.2)) taken avoid s92.2 _ hm) en33 rfl rfl rfl (.eq rfl) trivial rfl rfl rfl rfl rfl rfl (fun _ _ => ⟨(.tup (.cons (.agg (.cons (.v _) (.cons (.v _) .nil))) (.cons (.v _) .nil))), trivial⟩) (.inr ⟨rfl, rfl⟩) (fun _ => rfl) (fun _ => rfl) rfl) rfl rfl (fun x104' hm => ?_)
                 obtain ⟨x104⟩ := x104'
                 refine D.ps 3 [(15, []), (16, []), (17, [])] rfl hQ hS T rfl rfl (by kernel_rfl) ?_
                 refine D.e1 (o := _) 18 rfl (.none rfl) (by exact Eff1.al T rfl rfl rfl rfl) (by kernel_rfl) rfl rfl ?_
                 refine D.e1 (o := _) 19 rfl (.none rfl) (by exact Eff1.st T rfl rfl rfl rfl rfl rfl rfl rfl rfl rfl) (by kernel_rfl) rfl rfl ?_
                 refine D.ps 1 [(20, [])] rfl hQ hS T rfl rfl (by kernel_rfl) ?_
                 refine D.done (by kernel_rfl) ?_
                 exact St.wk (hJ101 _ hm) (Wk.mk' [some 0, some 1, some 2, some 3] rfl rfl (.eqs rfl) ⟨⟨_, rfl, .box rfl (.eq rfl)⟩, ⟨_, rfl, .val rfl⟩, ⟨_, rfl, .val rfl⟩, ⟨_, rfl, .box rfl (.eq rfl)⟩, trivial⟩ rfl)
                ·refine D.ef1 (o := _) rfl (.none rfl) (by exact Eff1.al T rfl rfl rfl rfl) rfl rfl ?_
                 refine D.e (o := _) 14 rfl (.none rfl) (by exact Eff.c [] (v := true) (T_taquinref23_step s_1 ({ cell := w64 (s72.2.tdiv x7), rest := s72.2.tmod x7 : Taquinref23Place }) (w64 (tick + s63.2)) taken avoid s92.2 _ hm) en33 rfl rfl rfl (.eq rfl) trivial rfl rfl rfl rfl rfl rfl (fun _ _ => ⟨(.tup (.cons (.agg (.cons (.v _) (.cons (.v _) .nil))) (.cons (.v _) .nil))), trivial⟩) (.inr ⟨rfl, rfl⟩) (fun _ => rfl) (fun _ => rfl) rfl) (by kernel_rfl) rfl rfl (fun x104' hm => ?_)
                 obtain ⟨x104⟩ := x104'
                 refine D.ps 3 [(15, []), (16, []), (17, [])] rfl hQ hS T rfl rfl (by kernel_rfl) ?_
                 refine D.e1 (o := _) 19 rfl (.none rfl) (by exact Eff1.st T rfl rfl rfl rfl rfl rfl rfl rfl rfl rfl) (by kernel_rfl) rfl rfl ?_
                 refine D.ps 1 [(20, [])] rfl hQ hS T rfl rfl (by kernel_rfl) ?_
                 refine D.done (by kernel_rfl) ?_
                 exact St.wk (hJ101 _ hm) (Wk.mk' [some 0, some 1, some 2, some 3] rfl rfl (.eqs rfl) ⟨⟨_, rfl, .box rfl (.eq rfl)⟩, ⟨_, rfl, .val rfl⟩, ⟨_, rfl, .val rfl⟩, ⟨_, rfl, .box rfl (.eq rfl)⟩, trivial⟩ rfl)
              ·refine C.exit (C.ex (C.ex (C.bex ?_)))
               exact St.wk (hJ91 _ hm) (Wk.mk' [some 0, some 1, some 2] rfl rfl (.eqs rfl) ⟨⟨_, rfl, .box rfl (.eq rfl)⟩, ⟨_, rfl, .val rfl⟩, ⟨_, rfl, .val rfl⟩, trivial⟩ rfl)
             ·refine U.start ?_
              refine U.ps 3 T rfl ?_
              refine hm.cs (fun hb96 hm => ?_) (fun hb96 hm => ?_)
              ·refine U.pg 2 2 true 206 hb96 T rfl rfl rfl rfl ?_
               obtain ⟨x97, hx97, hm⟩ := hm
               refine U.r (o := _) rfl (.take 2 true 206 _ hb96 rfl rfl rfl) rfl rfl (by exact Rd.io T rfl rfl rfl rfl rfl rfl rfl hx97) ?_
               refine U.r (o := _) rfl (.take 2 true 206 _ hb96 rfl rfl rfl) rfl rfl (by exact Rd.le T rfl rfl rfl (idx_some hx97).2.2 rfl rfl rfl) ?_
               refine U.pg 1 2 true 206 hb96 T rfl rfl rfl rfl ?_
               obtain ⟨x98, hx98, hm⟩ := hm
               refine U.r (o := _) rfl (.take 2 true 206 _ hb96 rfl rfl rfl) rfl rfl (by exact Rd.ix T rfl rfl rfl rfl rfl rfl hx98) ?_
               refine U.pg 1 2 true 206 hb96 T rfl rfl rfl rfl ?_
               refine U.r (o := _) rfl (.none rfl) rfl rfl (by exact Rd.pk rfl rfl hb96 rfl) ?_
               refine U.done ?_
               exact St.wk (hJ95 _ hm) (Wk.mk' [some 0, some 1, some 2] rfl rfl (.eqs rfl) ⟨⟨_, rfl, .box rfl (.eq rfl)⟩, ⟨_, rfl, .val rfl⟩, ⟨_, rfl, .val rfl⟩, trivial⟩ rfl)
              ·refine U.sks 7 2 true 206 hb96 rfl rfl rfl ?_
               refine U.r (o := _) rfl (.none rfl) rfl rfl (by exact Rd.pk' rfl rfl hb96 rfl) ?_
               refine U.done ?_
               exact St.wk (hJ95 _ hm) (Wk.mk' [some 0, some 1, some 2] rfl rfl (.eqs rfl) ⟨⟨_, rfl, .box rfl (.eq rfl)⟩, ⟨_, rfl, .val rfl⟩, ⟨_, rfl, .val rfl⟩, trivial⟩ rfl)
         ·refine C.exit (C.ex (C.ex (C.bex ?_)))
          exact St.wk (hJ71 _ hm) (Wk.mk' [some 0, some 1, some 2] rfl rfl (.eqs rfl) ⟨⟨_, rfl, .box rfl (.eq rfl)⟩, ⟨_, rfl, .val rfl⟩, ⟨_, rfl, .val rfl⟩, trivial⟩ rfl)
      ·refine C.exit (C.ex (C.ex (C.bex ?_)))
       exact St.wk (hJ62 _ hm) (Wk.mk' [some 0, some 2] rfl rfl (.eqs rfl) ⟨⟨_, rfl, .box rfl (.eq rfl)⟩, ⟨_, rfl, .val rfl⟩, trivial⟩ rfl)
    ·refine C.block ?_
     refine St.wk (C.loop (fun (s13 : List (List Bool) × Int × Int) => [(1, .i from_1), (2, .i to_1), (3, .i tick), (4, .sl 3 eApiTaken taken), (5, .sl 1 eI avoid), (6, .i limit), (7, .p 0 0), (16, .i x7), (17, .i (w64 (x8 * x7))), (19, .o 1), (20, .i s13.2.1), (21, .i s13.2.2)]) (fun (s13 : List (List Bool) × Int × Int) => [(0, .box (eApiSite s_1)), (1, .val (.os 1 eLeB s13.1))]) hm (fun s13 Y14 hm => ?_)) (Wk.mk' [some 0, some 1] rfl rfl (.eqs rfl) ⟨⟨_, rfl, .box rfl (.eq rfl)⟩, ⟨_, rfl, .val rfl⟩, trivial⟩ rfl)
     refine C.seq (C.seq (U.start ?_))
     refine U.ps 2 T rfl ?_
     refine U.done (C.nx ?_)
     refine C.ite rfl hm (fun hb15 hm => ?_) (fun hb15 hm => ?_)
     ·refine C.skip (C.nx (C.seq ?_))
      refine C.jn (fun (x16 : List (List Bool) × Int) => [(1, .i from_1), (2, .i to_1), (3, .i tick), (4, .sl 3 eApiTaken taken), (5, .sl 1 eI avoid), (6, .i limit), (7, .p 0 0), (16, .i x7), (17, .i (w64 (x8 * x7))), (19, .o 1), (20, .i x16.2), (21, .i s13.2.2)]) (fun (x16 : List (List Bool) × Int) => [(0, .box (eApiSite s_1)), (1, .val (.os 1 eLeB x16.1))]) 2 hm (fun x16 hm => ?_) (fun J17 hm hJ17 => ?_)
      ·refine C.nx (U.start ?_)
       refine U.ps 3 T rfl ?_
       refine U.done (C.nx ?_)
       exact St.wk (C.next hm) (Wk.mk' [some 0, some 1] rfl rfl (.eqs rfl) ⟨⟨_, rfl, .box rfl (.eq rfl)⟩, ⟨_, rfl, .val rfl⟩, trivial⟩ rfl)
      ·refine C.block (C.seq (U.start ?_))
       refine U.ps 2 T rfl ?_
       obtain ⟨x18, hx18, hm⟩ := hm
       refine U.r (o := _) rfl (.none rfl) rfl rfl (by exact Rd.io T rfl rfl rfl rfl rfl rfl rfl hx18) ?_
       refine U.r (o := _) rfl (.none rfl) rfl rfl (by exact Rd.le T rfl rfl rfl (idx_some hx18).2.2 rfl rfl rfl) ?_
       refine U.ps 1 T rfl ?_
       refine U.done (C.nx (C.seq (U.start ?_)))
       refine U.ps 1 T rfl ?_
       obtain ⟨hx19, hm⟩ := hm
       refine U.e1 (o := _) rfl (.none rfl) (by exact Eff1.mk T (enc := eB) (z0 := false) rfl rfl rfl rfl rfl rfl rfl rfl rfl rfl hx19) ?_
       refine U.ps 1 T rfl ?_
       refine U.done (C.nx (C.seq (C.seq (U.start ?_))))
       refine U.ps 1 T rfl ?_
       refine U.done (C.nx ?_)
       refine C.jn (fun (x20 : Int × List Bool) => [(1, .i from_1), (2, .i to_1), (3, .i tick), (4, .sl 3 eApiTaken taken), (5, .sl 1 eI avoid), (6, .i limit), (7, .p 0 0), (16, .i x7), (17, .i (w64 (x8 * x7))), (19, .o 1), (20, .i x20.1), (21, .i s13.2.2), (23, .o 2)]) (fun (x20 : Int × List Bool) => [(0, .box (eApiSite s_1)), (1, .val (.os 1 eLeB s13.1)), (2, .val (.os 1 eB x20.2))]) 3 hm (fun x20 hm => ?_) (fun J21 hm hJ21 => ?_)
       ·refine C.nx (C.seq (C.seq ?_))
        refine C.jn (fun (x55 : Bool) => [(1, .i from_1), (2, .i to_1), (3, .i tick), (4, .sl 3 eApiTaken taken), (5, .sl 1 eI avoid), (6, .i limit), (7, .p 0 0), (16, .i x7), (17, .i (w64 (x8 * x7))), (19, .o 1), (20, .i x20.1), (21, .i s13.2.2), (23, .o 2), (149, .b x55)]) (fun (x55 : Bool) => [(0, .box (eApiSite s_1)), (1, .val (.os 1 eLeB s13.1)), (2, .val (.os 1 eB x20.2))]) 3 hm (fun x55 hm => ?_) (fun J56 hm hJ56 => ?_)
        ·refine C.nx ?_
         refine C.ite rfl hm (fun hb58 hm => ?_) (fun hb58 hm => ?_)
         ·refine C.seq (U.start ?_)
          refine U.ps 2 T rfl ?_
          refine U.done (C.nx (C.ret (C.rt (C.brt (C.rt (C.rt (C.brt (C.rt ?_))))))))
          exact C.fin T (rs' := [.o 0, .i (([], 14).2)]) (H' := [(0, .val (.os 1 eI (([], 14).1)))]) (nl' := 1) [none] rfl rfl (.cons (.nilO _ _ ⟨rfl, rfl⟩ rfl) (.eq rfl)) ⟨⟨_, rfl, .nil _ _⟩, trivial⟩ rfl rfl rfl rfl hβ ⟨([], 14), hm, rfl, rfl, rfl⟩
         ·refine C.skip (C.nx (U.start ?_))
          refine U.ps 2 T rfl ?_
          refine St.wk (Γ' := [(1, .i from_1), (2, .i to_1), (3, .i tick), (4, .sl 3 eApiTaken taken), (5, .sl 1 eI avoid), (6, .i limit), (7, .p 0 0), (16, .i x7), (17, .i (w64 (x8 * x7))), (19, .o 1), (20, .i x20.1), (21, .i s13.2.2), (23, .sl 1 eB x20.2), (149, .b x55), (150, .o 1), (151, .sl 1 eB x20.2)]) (H' := [(0, .box (eApiSite s_1)), (1, .val (.os 1 eLeB s13.1))]) (nl' := 2) ?_ (Wk.mk' [some 0, some 1] rfl rfl ⟨⟨_, rfl, (.eq rfl)⟩, ⟨_, rfl, (.eq rfl)⟩, ⟨_, rfl, (.eq rfl)⟩, ⟨_, rfl, (.eq rfl)⟩, ⟨_, rfl, (.eq rfl)⟩, ⟨_, rfl, (.eq rfl)⟩, ⟨_, rfl, (.eq rfl)⟩, ⟨_, rfl, (.eq rfl)⟩, ⟨_, rfl, (.eq rfl)⟩, ⟨_, rfl, (.eq rfl)⟩, ⟨_, rfl, (.eq rfl)⟩, ⟨_, rfl, (.eq rfl)⟩, ⟨_, rfl, (.fz rfl rfl rfl (.os fun _ => .cons (.ro rfl) .nil))⟩, ⟨_, rfl, (.eq rfl)⟩, ⟨_, rfl, (.eq rfl)⟩, ⟨_, rfl, (.fz rfl rfl rfl (.os fun _ => .cons (.ro rfl) .nil))⟩, trivial⟩ ⟨⟨_, rfl, .box rfl (.eq rfl)⟩, ⟨_, rfl, .val rfl⟩, trivial⟩ rfl)
          refine U.e1 (o := _) rfl (.none rfl) (by exact Eff1.bs T (enc := eLeB) (xs := ([x20.2] : List (List Bool))) rfl rfl rfl rfl rfl rfl rfl rfl rfl rfl (fun _ _ => rfl) rfl rfl) ?_
          obtain ⟨hx59, hm⟩ := hm
          refine U.e1 (o := _) rfl (.none rfl) (by exact Eff1.ap T rfl rfl rfl rfl rfl rfl (.inr ⟨_, rfl, rfl⟩) rfl rfl rfl (fun _ => rfl) rfl hx59) ?_
          refine U.ps 1 T rfl ?_
          refine U.done (C.bnx ?_)
          exact St.wk (hJ17 _ hm) (Wk.mk' [some 0, some 3] rfl rfl (.eqs rfl) ⟨⟨_, rfl, .box rfl (.eq rfl)⟩, ⟨_, rfl, .val rfl⟩, trivial⟩ rfl)
        ·refine U.start ?_
         refine U.ps 3 T rfl ?_
         refine hm.cs (fun hb57 hm => ?_) (fun hb57 hm => ?_)
         ·refine U.pg 3 2 true 145 hb57 T rfl rfl rfl rfl ?_
          refine U.r (o := _) rfl (.none rfl) rfl rfl (by exact Rd.pk rfl rfl hb57 rfl) ?_
          refine U.done ?_
          exact St.wk (hJ56 _ hm) (Wk.mk' [some 0, some 1, some 2] rfl rfl (.eqs rfl) ⟨⟨_, rfl, .box rfl (.eq rfl)⟩, ⟨_, rfl, .val rfl⟩, ⟨_, rfl, .val rfl⟩, trivial⟩ rfl)
         ·refine U.sks 3 2 true 145 hb57 rfl rfl rfl ?_
          refine U.r (o := _) rfl (.none rfl) rfl rfl (by exact Rd.pk' rfl rfl hb57 rfl) ?_
          refine U.done ?_
          exact St.wk (hJ56 _ hm) (Wk.mk' [some 0, some 1, some 2] rfl rfl (.eqs rfl) ⟨⟨_, rfl, .box rfl (.eq rfl)⟩, ⟨_, rfl, .val rfl⟩, ⟨_, rfl, .val rfl⟩, trivial⟩ rfl)
       ·refine C.block ?_
        refine St.wk (C.loop (fun (s22 : Int × List Bool × Int) => [(1, .i from_1), (2, .i to_1), (3, .i tick), (4, .sl 3 eApiTaken taken), (5, .sl 1 eI avoid), (6, .i limit), (7, .p 0 0), (16, .i x7), (17, .i (w64 (x8 * x7))), (19, .o 1), (20, .i s22.1), (21, .i s13.2.2), (22, .sl 1 eB x18), (23, .o 2), (24, .i s22.2.2)]) (fun (s22 : Int × List Bool × Int) => [(0, .box (eApiSite s_1)), (1, .val (.os 1 eLeB s13.1)), (2, .val (.os 1 eB s22.2.1))]) hm (fun s22 Y23 hm => ?_)) (Wk.mk' [some 0, some 1, some 2] rfl rfl (.eqs rfl) ⟨⟨_, rfl, .box rfl (.eq rfl)⟩, ⟨_, rfl, .val rfl⟩, ⟨_, rfl, .val rfl⟩, trivial⟩ rfl)
        refine C.seq (C.seq (U.start ?_))
        refine U.ps 3 T rfl ?_
        refine U.done (C.nx ?_)
        refine C.ite rfl hm (fun hb24 hm => ?_) (fun hb24 hm => ?_)
        ·refine C.skip (C.nx (C.seq ?_))
         refine C.jn (fun (x25 : Int × List Bool) => [(1, .i from_1), (2, .i to_1), (3, .i tick), (4, .sl 3 eApiTaken taken), (5, .sl 1 eI avoid), (6, .i limit), (7, .p 0 0), (16, .i x7), (17, .i (w64 (x8 * x7))), (19, .o 1), (20, .i x25.1), (21, .i s13.2.2), (22, .sl 1 eB x18), (23, .o 2), (24, .i s22.2.2)]) (fun (x25 : Int × List Bool) => [(0, .box (eApiSite s_1)), (1, .val (.os 1 eLeB s13.1)), (2, .val (.os 1 eB x25.2))]) 3 hm (fun x25 hm => ?_) (fun J26 hm hJ26 => ?_)
         ·refine C.nx (U.start ?_)
          refine U.ps 3 T rfl ?_
          refine U.done (C.nx ?_)
          exact St.wk (C.next hm) (Wk.mk' [some 0, some 1, some 2] rfl rfl (.eqs rfl) ⟨⟨_, rfl, .box rfl (.eq rfl)⟩, ⟨_, rfl, .val rfl⟩, ⟨_, rfl, .val rfl⟩, trivial⟩ rfl)
         ·refine C.block (C.seq (C.seq ?_))
          refine C.jn (fun (x27 : Bool) => [(1, .i from_1), (2, .i to_1), (3, .i tick), (4, .sl 3 eApiTaken taken), (5, .sl 1 eI avoid), (6, .i limit), (7, .p 0 0), (16, .i x7), (17, .i (w64 (x8 * x7))), (19, .o 1), (20, .i s22.1), (21, .i s13.2.2), (22, .sl 1 eB x18), (23, .o 2), (24, .i s22.2.2), (102, .b x27)]) (fun (x27 : Bool) => [(0, .box (eApiSite s_1)), (1, .val (.os 1 eLeB s13.1)), (2, .val (.os 1 eB s22.2.1))]) 3 hm (fun x27 hm => ?_) (fun J28 hm hJ28 => ?_)
          ·refine C.nx ?_
           refine C.jn (fun (x34 : Int) => [(1, .i from_1), (2, .i to_1), (3, .i tick), (4, .sl 3 eApiTaken taken), (5, .sl 1 eI avoid), (6, .i limit), (7, .p 0 0), (16, .i x7), (17, .i (w64 (x8 * x7))), (19, .o 1), (20, .i x34), (21, .i s13.2.2), (22, .sl 1 eB x18), (23, .o 2), (24, .i s22.2.2)]) (fun (x34 : Int) => [(0, .box (eApiSite s_1)), (1, .val (.os 1 eLeB s13.1)), (2, .val (.os 1 eB s22.2.1))]) 3 hm (fun x34 hm => ?_) (fun J35 hm hJ35 => ?_)
           ·refine C.nx (C.seq (U.start ?_))
            refine U.ps 1 T rfl ?_
            refine U.done (C.nx ?_)
            refine C.jn (fun (x37 : List Bool) => [(1, .i from_1), (2, .i to_1), (3, .i tick), (4, .sl 3 eApiTaken taken), (5, .sl 1 eI avoid), (6, .i limit), (7, .p 0 0), (16, .i x7), (17, .i (w64 (x8 * x7))), (19, .o 1), (20, .i x34), (21, .i s13.2.2), (22, .sl 1 eB x18), (23, .o 2), (24, .i s22.2.2)]) (fun (x37 : List Bool) => [(0, .box (eApiSite s_1)), (1, .val (.os 1 eLeB s13.1)), (2, .val (.os 1 eB x37))]) 3 hm (fun x37 hm => ?_) (fun J38 hm hJ38 => ?_)
            ·refine C.bnx ?_
             exact St.wk (hJ26 _ hm) (Wk.mk' [some 0, some 1, some 2] rfl rfl (.eqs rfl) ⟨⟨_, rfl, .box rfl (.eq rfl)⟩, ⟨_, rfl, .val rfl⟩, ⟨_, rfl, .val rfl⟩, trivial⟩ rfl)
            ·refine C.block ?_
             refine St.wk (C.loop (fun (s39 : List Bool × Int) => [(1, .i from_1), (2, .i to_1), (3, .i tick), (4, .sl 3 eApiTaken taken), (5, .sl 1 eI avoid), (6, .i limit), (7, .p 0 0), (16, .i x7), (17, .i (w64 (x8 * x7))), (19, .o 1), (20, .i x34), (21, .i s13.2.2), (22, .sl 1 eB x18), (23, .o 2), (24, .i s22.2.2), (25, .i s39.2)]) (fun (s39 : List Bool × Int) => [(0, .box (eApiSite s_1)), (1, .val (.os 1 eLeB s13.1)), (2, .val (.os 1 eB s39.1))]) hm (fun s39 Y40 hm => ?_)) (Wk.mk' [some 0, some 1, some 2] rfl rfl (.eqs rfl) ⟨⟨_, rfl, .box rfl (.eq rfl)⟩, ⟨_, rfl, .val rfl⟩, ⟨_, rfl, .val rfl⟩, trivial⟩ rfl)
             refine C.seq (C.seq ?_)
             refine C.jn (fun (x41 : Bool) => [(1, .i from_1), (2, .i to_1), (3, .i tick), (4, .sl 3 eApiTaken taken), (5, .sl 1 eI avoid), (6, .i limit), (7, .p 0 0), (16, .i x7), (17, .i (w64 (x8 * x7))), (19, .o 1), (20, .i x34), (21, .i s13.2.2), (22, .sl 1 eB x18), (23, .o 2), (24, .i s22.2.2), (25, .i s39.2), (111, .b x41)]) (fun (x41 : Bool) => [(0, .box (eApiSite s_1)), (1, .val (.os 1 eLeB s13.1)), (2, .val (.os 1 eB s39.1))]) 3 hm (fun x41 hm => ?_) (fun J42 hm hJ42 => ?_)
             ·refine C.nx ?_
              refine C.ite rfl hm (fun hb45 hm => ?_) (fun hb45 hm => ?_)
              ·refine C.skip (C.nx (C.seq (C.block (C.seq ?_))))
               refine C.jn (fun (x46 : Int × Int × Int) => [(1, .i from_1), (2, .i to_1), (3, .i tick), (4, .sl 3 eApiTaken taken), (5, .sl 1 eI avoid), (6, .i limit), (7, .p 0 0), (16, .i x7), (17, .i (w64 (x8 * x7))), (19, .o 1), (20, .i x34), (21, .i s13.2.2), (22, .sl 1 eB x18), (23, .o 2), (24, .i s22.2.2), (25, .i s39.2), (26, .p 3 0), (27, .i x46.2.2)]) (fun (x46 : Int × Int × Int) => [(0, .box (eApiSite s_1)), (1, .val (.os 1 eLeB s13.1)), (2, .val (.os 1 eB s39.1)), (3, .box [.i x46.1, .i x46.2.1])]) 4 hm (fun x46 hm => ?_) (fun J47 hm hJ47 => ?_)
               ·refine C.nx (C.seq (U.start ?_))
                refine U.ps 2 T rfl ?_
                refine U.done (C.nx ?_)
                refine C.jn (fun (x51 : List Bool) => [(1, .i from_1), (2, .i to_1), (3, .i tick), (4, .sl 3 eApiTaken taken), (5, .sl 1 eI avoid), (6, .i limit), (7, .p 0 0), (16, .i x7), (17, .i (w64 (x8 * x7))), (19, .o 1), (20, .i x34), (21, .i s13.2.2), (22, .sl 1 eB x18), (23, .o 2), (24, .i s22.2.2), (25, .i s39.2)]) (fun (x51 : List Bool) => [(0, .box (eApiSite s_1)), (1, .val (.os 1 eLeB s13.1)), (2, .val (.os 1 eB x51))]) 3 hm (fun x51 hm => ?_) (fun J52 hm hJ52 => ?_)
                ·refine C.bnx (C.nx (U.start ?_))
                 refine U.ps 3 T rfl ?_
                 refine U.done (C.nx ?_)
                 exact St.wk (C.next hm) (Wk.mk' [some 0, some 1, some 2] rfl rfl (.eqs rfl) ⟨⟨_, rfl, .box rfl (.eq rfl)⟩, ⟨_, rfl, .val rfl⟩, ⟨_, rfl, .val rfl⟩, trivial⟩ rfl)
                ·refine C.ite rfl hm (fun hb53 hm => ?_) (fun hb53 hm => ?_)
                 ·refine U.start ?_
                  refine U.ps 8 T rfl ?_
                  obtain ⟨x54, hx54, hm⟩ := hm
                  refine U.r (o := _) rfl (.none rfl) rfl rfl (by exact Rd.io T rfl rfl rfl rfl rfl rfl rfl hx54) ?_
                  refine U.e1 (o := _) rfl (.none rfl) (by exact Eff1.se T (z' := true) rfl rfl rfl (idx_some hx54).2.2 rfl rfl rfl rfl rfl rfl rfl rfl (fun _ => rfl) rfl) ?_
                  refine U.done ?_
                  exact St.wk (hJ52 _ hm) (Wk.mk' [some 0, some 1, some 2] rfl rfl (.eqs rfl) ⟨⟨_, rfl, .box rfl (.eq rfl)⟩, ⟨_, rfl, .val rfl⟩, ⟨_, rfl, .val rfl⟩, trivial⟩ rfl)
                 ·refine C.skip ?_
                  exact St.wk (hJ52 _ hm) (Wk.mk' [some 0, some 1, some 2] rfl rfl (.eqs rfl) ⟨⟨_, rfl, .box rfl (.eq rfl)⟩, ⟨_, rfl, .val rfl⟩, ⟨_, rfl, .val rfl⟩, trivial⟩ rfl)
               ·refine D.beg 9999 [0] [3] mix rfl rfl (by kernel_rfl) (by repeat (first | exact NoPanicQ.body | refine NoPanicQ.th ?_ | refine NoPanicQ.blk ?_)) (fun hQ hS ws M' => ?_)
                refine D.ps 3 [(0, []), (1, []), (2, [])] rfl hQ hS T rfl rfl (by kernel_rfl) ?_
                obtain ⟨hx48, hm⟩ := hm
                refine D.q (o := _) 3 [] hQ hS rfl (.none rfl) rfl rfl (by exact Rd.dv rfl rfl rfl rfl hx48) rfl (by kernel_rfl) ?_
                refine D.ps 2 [(4, []), (5, [])] rfl hQ hS T rfl rfl (by kernel_rfl) ?_
                obtain ⟨hx49, hm⟩ := hm
                refine D.q (o := _) 6 [] hQ hS rfl (.none rfl) rfl rfl (by exact Rd.rm rfl rfl rfl rfl hx49) rfl (by kernel_rfl) ?_
                refine D.ps 7 [(7, []), (8, []), (9, []), (10, []), (11, []), (12, []), (13, [])] rfl hQ hS T rfl rfl (by kernel_rfl) ?_
                refine D.two 14 18 (by kernel_rfl) ?_ ?_
                ·refine D.ef (o := _) rfl (.none rfl) (by exact Eff.c [] (v := true) (T_taquinref23_step s_1 ({ cell := w64 (s22.2.2.tdiv x7), rest := s22.2.2.tmod x7 : Taquinref23Place }) (w64 (tick + s13.2.2)) taken avoid s39.2 _ hm) en33 rfl rfl rfl (.eq rfl) trivial rfl rfl rfl rfl rfl rfl (fun _ _ => ⟨(.tup (.cons (.agg (.cons (.v _) (.cons (.v _) .nil))) (.cons (.v _) .nil))), trivial⟩) (.inr ⟨rfl, rfl⟩) (fun _ => rfl) (fun _ => rfl) rfl) rfl rfl (fun x50' hm => ?_)
                 obtain ⟨x50⟩ := x50'
                 refine D.ps 3 [(15, []), (16, []), (17, [])] rfl hQ hS T rfl rfl (by kernel_rfl) ?_
                 refine D.e1 (o := _) 18 rfl (.none rfl) (by exact Eff1.al T rfl rfl rfl rfl) (by kernel_rfl) rfl rfl ?_
                 refine D.e1 (o := _) 19 rfl (.none rfl) (by exact Eff1.st T rfl rfl rfl rfl rfl rfl rfl rfl rfl rfl) (by kernel_rfl) rfl rfl ?_
                 refine D.ps 1 [(20, [])] rfl hQ hS T rfl rfl (by kernel_rfl) ?_
                 refine D.done (by kernel_rfl) ?_
                 exact St.wk (hJ47 _ hm) (Wk.mk' [some 0, some 1, some 2, some 3] rfl rfl (.eqs rfl) ⟨⟨_, rfl, .box rfl (.eq rfl)⟩, ⟨_, rfl, .val rfl⟩, ⟨_, rfl, .val rfl⟩, ⟨_, rfl, .box rfl (.eq rfl)⟩, trivial⟩ rfl)
                ·refine D.ef1 (o := _) rfl (.none rfl) (by exact Eff1.al T rfl rfl rfl rfl) rfl rfl ?_
                 refine D.e (o := _) 14 rfl (.none rfl) (by exact Eff.c [] (v := true) (T_taquinref23_step s_1 ({ cell := w64 (s22.2.2.tdiv x7), rest := s22.2.2.tmod x7 : Taquinref23Place }) (w64 (tick + s13.2.2)) taken avoid s39.2 _ hm) en33 rfl rfl rfl (.eq rfl) trivial rfl rfl rfl rfl rfl rfl (fun _ _ => ⟨(.tup (.cons (.agg (.cons (.v _) (.cons (.v _) .nil))) (.cons (.v _) .nil))), trivial⟩) (.inr ⟨rfl, rfl⟩) (fun _ => rfl) (fun _ => rfl) rfl) (by kernel_rfl) rfl rfl (fun x50' hm => ?_)
                 obtain ⟨x50⟩ := x50'
                 refine D.ps 3 [(15, []), (16, []), (17, [])] rfl hQ hS T rfl rfl (by kernel_rfl) ?_
                 refine D.e1 (o := _) 19 rfl (.none rfl) (by exact Eff1.st T rfl rfl rfl rfl rfl rfl rfl rfl rfl rfl) (by kernel_rfl) rfl rfl ?_
                 refine D.ps 1 [(20, [])] rfl hQ hS T rfl rfl (by kernel_rfl) ?_
                 refine D.done (by kernel_rfl) ?_
                 exact St.wk (hJ47 _ hm) (Wk.mk' [some 0, some 1, some 2, some 3] rfl rfl (.eqs rfl) ⟨⟨_, rfl, .box rfl (.eq rfl)⟩, ⟨_, rfl, .val rfl⟩, ⟨_, rfl, .val rfl⟩, ⟨_, rfl, .box rfl (.eq rfl)⟩, trivial⟩ rfl)
              ·refine C.exit (C.ex (C.ex (C.bex ?_)))
               exact St.wk (hJ38 _ hm) (Wk.mk' [some 0, some 1, some 2] rfl rfl (.eqs rfl) ⟨⟨_, rfl, .box rfl (.eq rfl)⟩, ⟨_, rfl, .val rfl⟩, ⟨_, rfl, .val rfl⟩, trivial⟩ rfl)
             ·refine U.start ?_
              refine U.ps 3 T rfl ?_
              refine hm.cs (fun hb43 hm => ?_) (fun hb43 hm => ?_)
              ·refine U.pg 2 2 true 106 hb43 T rfl rfl rfl rfl ?_
               obtain ⟨x44, hx44, hm⟩ := hm
               refine U.r (o := _) rfl (.take 2 true 106 _ hb43 rfl rfl rfl) rfl rfl (by exact Rd.ix T rfl rfl rfl rfl rfl rfl hx44) ?_
               refine U.pg 1 2 true 106 hb43 T rfl rfl rfl rfl ?_
               refine U.r (o := _) rfl (.none rfl) rfl rfl (by exact Rd.pk rfl rfl hb43 rfl) ?_
               refine U.done ?_
               exact St.wk (hJ42 _ hm) (Wk.mk' [some 0, some 1, some 2] rfl rfl (.eqs rfl) ⟨⟨_, rfl, .box rfl (.eq rfl)⟩, ⟨_, rfl, .val rfl⟩, ⟨_, rfl, .val rfl⟩, trivial⟩ rfl)
              ·refine U.sks 4 2 true 106 hb43 rfl rfl rfl ?_
               refine U.r (o := _) rfl (.none rfl) rfl rfl (by exact Rd.pk' rfl rfl hb43 rfl) ?_
               refine U.done ?_
               exact St.wk (hJ42 _ hm) (Wk.mk' [some 0, some 1, some 2] rfl rfl (.eqs rfl) ⟨⟨_, rfl, .box rfl (.eq rfl)⟩, ⟨_, rfl, .val rfl⟩, ⟨_, rfl, .val rfl⟩, trivial⟩ rfl)
           ·refine C.ite rfl hm (fun hb36 hm => ?_) (fun hb36 hm => ?_)
            ·refine U.start ?_
             refine U.ps 2 T rfl ?_
             refine U.done ?_
             exact St.wk (hJ35 _ hm) (Wk.mk' [some 0, some 1, some 2] rfl rfl (.eqs rfl) ⟨⟨_, rfl, .box rfl (.eq rfl)⟩, ⟨_, rfl, .val rfl⟩, ⟨_, rfl, .val rfl⟩, trivial⟩ rfl)
            ·refine C.skip ?_
             exact St.wk (hJ35 _ hm) (Wk.mk' [some 0, some 1, some 2] rfl rfl (.eqs rfl) ⟨⟨_, rfl, .box rfl (.eq rfl)⟩, ⟨_, rfl, .val rfl⟩, ⟨_, rfl, .val rfl⟩, trivial⟩ rfl)
          ·refine U.start ?_
           refine U.ps 2 T rfl ?_
           obtain ⟨x29, hx29, hm⟩ := hm
           refine U.r (o := _) rfl (.none rfl) rfl rfl (by exact Rd.ix T rfl rfl rfl rfl rfl rfl hx29) ?_
           refine U.ps 2 T rfl ?_
           refine hm.cs (fun hb30 hm => ?_) (fun hb30 hm => ?_)
           ·refine U.pg 2 4 true 87 hb30 T rfl rfl rfl rfl ?_
            obtain ⟨hx31, hm⟩ := hm
            refine U.r (o := _) rfl (.take 4 true 87 _ hb30 rfl rfl rfl) rfl rfl (by exact Rd.dv rfl rfl rfl rfl hx31) ?_
            refine U.pg 2 4 true 87 hb30 T rfl rfl rfl rfl ?_
            refine U.r (o := _) rfl (.none rfl) rfl rfl (by exact Rd.pk rfl rfl hb30 rfl) ?_
            refine U.ps 1 T rfl ?_
            refine hm.cs (fun hb32 hm => ?_) (fun hb32 hm => ?_)
            ·refine U.pg 5 11 true 94 hb32 T rfl rfl rfl rfl ?_
             refine U.e (o := _) rfl (.take 11 true 94 _ hb32 rfl rfl rfl) (by exact Eff.c [] (v := true) (T_taquinref23_Taken taken to_1 (w64 (tick + s13.2.2)) _ hm) en32 rfl rfl rfl (.eq rfl) trivial rfl rfl rfl rfl rfl rfl (fun _ _ => ⟨(.v _), trivial⟩) (.inr ⟨rfl, rfl⟩) (fun _ => rfl) (fun _ => rfl) rfl) (fun x33' hm => ?_)
             obtain ⟨x33⟩ := x33'
             refine U.pg 1 11 true 94 hb32 T rfl rfl rfl rfl ?_
             refine U.r (o := _) rfl (.none rfl) rfl rfl (by exact Rd.pk rfl rfl hb32 rfl) ?_
             refine U.done ?_
             exact St.wk (hJ28 _ hm) (Wk.mk' [some 0, some 1, some 2] rfl rfl (.eqs rfl) ⟨⟨_, rfl, .box rfl (.eq rfl)⟩, ⟨_, rfl, .val rfl⟩, ⟨_, rfl, .val rfl⟩, trivial⟩ rfl)
            ·refine U.sks 7 11 true 94 hb32 rfl rfl rfl ?_
             refine U.r (o := _) rfl (.none rfl) rfl rfl (by exact Rd.pk' rfl rfl hb32 rfl) ?_
             refine U.done ?_
             exact St.wk (hJ28 _ hm) (Wk.mk' [some 0, some 1, some 2] rfl rfl (.eqs rfl) ⟨⟨_, rfl, .box rfl (.eq rfl)⟩, ⟨_, rfl, .val rfl⟩, ⟨_, rfl, .val rfl⟩, trivial⟩ rfl)
           ·refine U.sks 5 4 true 87 hb30 rfl rfl rfl ?_
            refine U.r (o := _) rfl (.none rfl) rfl rfl (by exact Rd.pk' rfl rfl hb30 rfl) ?_
            refine U.ps 1 T rfl ?_
            refine U.sks 7 11 true 94 rfl rfl rfl rfl ?_
            refine U.r (o := _) rfl (.none rfl) rfl rfl (by exact Rd.pk' rfl rfl rfl rfl) ?_
            refine U.done ?_
            exact St.wk (hJ28 _ hm) (Wk.mk' [some 0, some 1, some 2] rfl rfl (.eqs rfl) ⟨⟨_, rfl, .box rfl (.eq rfl)⟩, ⟨_, rfl, .val rfl⟩, ⟨_, rfl, .val rfl⟩, trivial⟩ rfl)
        ·refine C.exit (C.ex (C.ex (C.bex ?_)))
         exact St.wk (hJ21 _ hm) (Wk.mk' [some 0, some 1, some 2] rfl rfl (.eqs rfl) ⟨⟨_, rfl, .box rfl (.eq rfl)⟩, ⟨_, rfl, .val rfl⟩, ⟨_, rfl, .val rfl⟩, trivial⟩ rfl)
     ·refine C.exit (C.ex (C.ex (C.bex ?_)))
      exact St.wk (hJ12 _ hm) (Wk.mk' [some 0, some 1] rfl rfl (.eqs rfl) ⟨⟨_, rfl, .box rfl (.eq rfl)⟩, ⟨_, rfl, .val rfl⟩, trivial⟩ rfl)
 ·refine U.start ?_
  refine U.ps 4 T rfl ?_
  refine U.e (o := _) rfl (.none rfl) (by exact Eff.c [] (v := true) (T_taquinref23_right s_1 from_1 to_1 tick _ hm) en29 rfl rfl rfl (.eq rfl) trivial rfl rfl rfl rfl rfl rfl (fun _ _ => ⟨(.v _), trivial⟩) (.inr ⟨rfl, rfl⟩) (fun _ => rfl) (fun _ => rfl) rfl) (fun x3' hm => ?_)
  obtain ⟨x3⟩ := x3'
  refine U.ps 2 T rfl ?_
  refine hm.cs (fun hb4 hm => ?_) (fun hb4 hm => ?_)
  ·refine U.pg 2 6 false 46 (ntF hb4) T rfl rfl rfl rfl ?_
   refine U.r (o := _) rfl (.none rfl) rfl rfl (by exact Rd.pk' rfl rfl (ntF hb4) rfl) ?_
   refine U.done ?_
   exact St.wk (hJ2 _ hm) (Wk.mk' [some 0] rfl rfl (.eqs rfl) ⟨⟨_, rfl, .box rfl (.eq rfl)⟩, trivial⟩ rfl)
  ·refine U.sks 2 6 false 46 (ntT hb4) rfl rfl rfl ?_
   refine U.r (o := _) rfl (.none rfl) rfl rfl (by exact Rd.pk rfl rfl (ntT hb4) rfl) ?_
   refine U.done ?_
   exact St.wk (hJ2 _ hm) (Wk.mk' [some 0] rfl rfl (.eqs rfl) ⟨⟨_, rfl, .box rfl (.eq rfl)⟩, trivial⟩ rfl)
theorem T_taquinref23_Check (s_1 : ApiSite) (from_1 : Int) (to_1 : Int) (tick : Int) (taken : List ApiTaken) (avoid : List Int) (acts : List Int) (post : Int → Prop) (hm : V_taquinref23_Check s_1 from_1 to_1 tick taken avoid acts post) :
    Tr Try.prog 13 [.agg (eApiSite s_1), .i from_1, .i to_1, .i tick, .sl 3 eApiTaken taken, .sl 1 eI avoid, .sl 1 eI acts] [] 0 (fun A H' k => ∃ y, post y ∧ A = (.i y) ∧ H' = [] ∧ k = 0) := by
 refine Tr.intro (n := 83) Try.func13 rfl Try.ntmps13 rfl (fun w0 ok F β hβ => ?_)
 unfold V_taquinref23_Check at hm
 refine C.seq (U.start ?_)
 refine U.e1 (o := _) rfl (.none rfl) (by exact Eff1.box rfl rfl rfl rfl rfl) ?_
 refine U.ps 1 T rfl ?_
 refine U.done (C.nx (C.seq (C.seq (U.start ?_))))
 refine U.ps 4 T rfl ?_
 refine U.e (o := _) rfl (.none rfl) (by exact Eff.c [] (v := true) (T_taquinref23_right s_1 from_1 to_1 tick _ hm) en29 rfl rfl rfl (.eq rfl) trivial rfl rfl rfl rfl rfl rfl (fun _ _ => ⟨(.v _), trivial⟩) (.inr ⟨rfl, rfl⟩) (fun _ => rfl) (fun _ => rfl) rfl) (fun x1' hm => ?_)
 obtain ⟨x1⟩ := x1'
 refine U.ps 1 T rfl ?_
 refine U.done (C.nx ?_)
 refine C.ite rfl hm (fun hb2 hm => ?_) (fun hb2 hm => ?_)
 ·refine C.seq (U.start ?_)
  refine U.ps 1 T rfl ?_
  refine U.done (C.nx (C.ret (C.rt ?_)))
  exact C.fin T (rs' := [.i 1]) (H' := []) (nl' := 0) [] rfl rfl (.eq rfl) trivial rfl rfl rfl rfl hβ ⟨1, hm, rfl, rfl, rfl⟩
 ·refine C.skip (C.nx (C.seq (C.seq (U.start ?_))))
  refine U.ps 1 T rfl ?_
  refine U.done (C.nx ?_)
  refine C.jn (fun (x3 : Unit) => [(1, .i from_1), (2, .i to_1), (3, .i tick), (4, .sl 3 eApiTaken taken), (5, .sl 1 eI avoid), (6, .sl 1 eI acts), (7, .p 0 0)]) (fun (x3 : Unit) => [(0, .box (eApiSite s_1))]) 1 hm (fun x3 hm => ?_) (fun J4 hm hJ4 => ?_)
  ·refine C.nx (C.seq (U.start ?_))
   refine U.ps 2 T rfl ?_
   refine U.e1 (o := _) rfl (.none rfl) (by exact Eff1.al T rfl rfl rfl rfl) ?_
   refine U.e1 (o := _) rfl (.none rfl) (by exact Eff1.st T rfl rfl rfl rfl rfl rfl rfl rfl rfl rfl) ?_
   refine U.done (C.nx (C.seq (C.seq (U.start ?_))))
   refine U.ps 1 T rfl ?_
   refine U.done (C.nx ?_)
   refine C.jn (fun (x13 : Int × Int) => [(2, .i to_1), (3, .i tick), (4, .sl 3 eApiTaken taken), (6, .sl 1 eI acts), (16, .p 0 0)]) (fun (x13 : Int × Int) => [(0, .box [.i x13.1, .i x13.2])]) 1 hm (fun x13 hm => ?_) (fun J14 hm hJ14 => ?_)
   ·refine C.nx (C.seq (C.seq (U.start ?_)))
    refine U.ps 7 T rfl ?_
    refine U.e (o := _) rfl (.none rfl) (by exact Eff.c [] (v := true) (T_taquinref23_Taken taken x13.1 (w64 (tick + (acts.length : Int))) _ hm) en32 rfl rfl rfl (.eq rfl) trivial rfl rfl rfl rfl rfl rfl (fun _ _ => ⟨(.v _), trivial⟩) (.inr ⟨rfl, rfl⟩) (fun _ => rfl) (fun _ => rfl) rfl) (fun x23' hm => ?_)
    obtain ⟨x23⟩ := x23'
    refine U.done (C.nx ?_)
    refine C.ite rfl hm (fun hb24 hm => ?_) (fun hb24 hm => ?_)
    ·refine C.seq (U.start ?_)
     refine U.ps 1 T rfl ?_
     refine U.done (C.nx (C.ret (C.rt ?_)))
     exact C.fin T (rs' := [.i 15]) (H' := []) (nl' := 0) [] rfl rfl (.eq rfl) trivial rfl rfl rfl rfl hβ ⟨15, hm, rfl, rfl, rfl⟩
    ·refine C.skip (C.nx (C.seq (C.seq (U.start ?_))))
     refine U.ps 4 T rfl ?_
     refine U.done (C.nx ?_)
     refine C.ite rfl hm (fun hb25 hm => ?_) (fun hb25 hm => ?_)
     ·refine C.seq (U.start ?_)
      refine U.ps 1 T rfl ?_
      refine U.done (C.nx (C.ret (C.rt ?_)))
      exact C.fin T (rs' := [.i 13]) (H' := []) (nl' := 0) [] rfl rfl (.eq rfl) trivial rfl rfl rfl rfl hβ ⟨13, hm, rfl, rfl, rfl⟩
     ·refine C.skip (C.nx (C.seq (U.start ?_)))
      refine U.ps 1 T rfl ?_
      refine U.done (C.nx (C.ret ?_))
      exact C.fin T (rs' := [.i 0]) (H' := []) (nl' := 0) [] rfl rfl (.eq rfl) trivial rfl rfl rfl rfl hβ ⟨0, hm, rfl, rfl, rfl⟩
   ·refine C.block ?_
    refine St.wk (C.loop (fun (s15 : Int × Int × Int) => [(2, .i to_1), (3, .i tick), (4, .sl 3 eApiTaken taken), (5, .sl 1 eI avoid), (6, .sl 1 eI acts), (7, .p 0 0), (16, .p 1 0), (17, .i s15.2.2)]) (fun (s15 : Int × Int × Int) => [(0, .box (eApiSite s_1)), (1, .box [.i s15.1, .i s15.2.1])]) hm (fun s15 Y16 hm => ?_)) (Wk.mk' [some 0, some 1] rfl rfl (.eqs rfl) ⟨⟨_, rfl, .box rfl (.eq rfl)⟩, ⟨_, rfl, .box rfl (.eq rfl)⟩, trivial⟩ rfl)
    refine C.seq (C.seq (U.start ?_))
    refine U.ps 4 T rfl ?_
    refine U.done (C.nx ?_)
    refine C.ite rfl hm (fun hb17 hm => ?_) (fun hb17 hm => ?_)
    ·refine C.skip (C.nx (C.seq (C.block (C.seq ?_))))
     refine C.jn (fun (x18 : Int × Int × Int) => [(2, .i to_1), (3, .i tick), (4, .sl 3 eApiTaken taken), (5, .sl 1 eI avoid), (6, .sl 1 eI acts), (7, .p 0 0), (16, .p 1 0), (17, .i s15.2.2), (18, .p 2 0), (19, .i x18.2.2)]) (fun (x18 : Int × Int × Int) => [(0, .box (eApiSite s_1)), (1, .box [.i s15.1, .i s15.2.1]), (2, .box [.i x18.1, .i x18.2.1])]) 3 hm (fun x18 hm => ?_) (fun J19 hm hJ19 => ?_)
     ·refine C.nx (C.seq (C.seq (U.start ?_)))
      refine U.ps 2 T rfl ?_
      refine U.done (C.nx ?_)
      refine C.ite rfl hm (fun hb22 hm => ?_) (fun hb22 hm => ?_)
      ·refine C.seq (U.start ?_)
       refine U.ps 2 T rfl ?_
       refine U.done (C.nx (C.ret (C.rt (C.brt (C.rt (C.rt (C.brt (C.rt ?_))))))))
       exact C.fin T (rs' := [.i x18.2.2]) (H' := []) (nl' := 0) [] rfl rfl (.eq rfl) trivial rfl rfl rfl rfl hβ ⟨x18.2.2, hm, rfl, rfl, rfl⟩
      ·refine C.skip (C.nx (U.start ?_))
       refine U.ps 1 T rfl ?_
       refine U.e1 (o := _) rfl (.none rfl) (by exact Eff1.st T rfl rfl rfl rfl rfl rfl rfl rfl rfl rfl) ?_
       refine U.done (C.bnx (C.nx (U.start ?_)))
       refine U.ps 3 T rfl ?_
       refine U.done (C.nx ?_)
       exact St.wk (C.next hm) (Wk.mk' [some 0, some 1] rfl rfl (.eqs rfl) ⟨⟨_, rfl, .box rfl (.eq rfl)⟩, ⟨_, rfl, .box rfl (.eq rfl)⟩, trivial⟩ rfl)
     ·refine D.beg 9999 [0, 1] [2] mix rfl rfl (by kernel_rfl) (by repeat (first | exact NoPanicQ.body | refine NoPanicQ.th ?_ | refine NoPanicQ.blk ?_)) (fun hQ hS ws M' => ?_)
      refine D.ps 9 [(0, []), (1, []), (2, []), (3, []), (4, []), (5, []), (6, []), (7, []), (8, [])] rfl hQ hS T rfl rfl (by kernel_rfl) ?_
      obtain ⟨x20, hx20, hm⟩ := hm
      refine D.q (o := _) 9 [] hQ hS rfl (.none rfl) rfl rfl (by exact Rd.ix T rfl rfl rfl rfl rfl rfl hx20) rfl (by kernel_rfl) ?_
      refine D.ps 1 [(10, [])] rfl hQ hS T rfl rfl (by kernel_rfl) ?_
      refine D.two 11 15 (by kernel_rfl) ?_ ?_
      ·refine D.ef (o := _) rfl (.none rfl) (by exact Eff.c [] (v := true) (T_taquinref23_step s_1 ({ cell := s15.1, rest := s15.2.1 : Taquinref23Place }) (w64 (tick + s15.2.2)) taken avoid x20 _ hm) en33 rfl rfl rfl (.eq rfl) trivial rfl rfl rfl rfl rfl rfl (fun _ _ => ⟨(.tup (.cons (.agg (.cons (.v _) (.cons (.v _) .nil))) (.cons (.v _) .nil))), trivial⟩) (.inr ⟨rfl, rfl⟩) (fun _ => rfl) (fun _ => rfl) rfl) rfl rfl (fun x21' hm => ?_)
       obtain ⟨x21⟩ := x21'
       refine D.ps 3 [(12, []), (13, []), (14, [])] rfl hQ hS T rfl rfl (by kernel_rfl) ?_
       refine D.e1 (o := _) 15 rfl (.none rfl) (by exact Eff1.al T rfl rfl rfl rfl) (by kernel_rfl) rfl rfl ?_
       refine D.e1 (o := _) 16 rfl (.none rfl) (by exact Eff1.st T rfl rfl rfl rfl rfl rfl rfl rfl rfl rfl) (by kernel_rfl) rfl rfl ?_
       refine D.ps 1 [(17, [])] rfl hQ hS T rfl rfl (by kernel_rfl) ?_
       refine D.done (by kernel_rfl) ?_
       exact St.wk (hJ19 _ hm) (Wk.mk' [some 0, some 1, some 2] rfl rfl (.eqs rfl) ⟨⟨_, rfl, .box rfl (.eq rfl)⟩, ⟨_, rfl, .box rfl (.eq rfl)⟩, ⟨_, rfl, .box rfl (.eq rfl)⟩, trivial⟩ rfl)
      ·refine D.ef1 (o := _) rfl (.none rfl) (by exact Eff1.al T rfl rfl rfl rfl) rfl rfl ?_
       refine D.e (o := _) 11 rfl (.none rfl) (by exact Eff.c [] (v := true) (T_taquinref23_step s_1 ({ cell := s15.1, rest := s15.2.1 : Taquinref23Place }) (w64 (tick + s15.2.2)) taken avoid x20 _ hm) en33 rfl rfl rfl (.eq rfl) trivial rfl rfl rfl rfl rfl rfl (fun _ _ => ⟨(.tup (.cons (.agg (.cons (.v _) (.cons (.v _) .nil))) (.cons (.v _) .nil))), trivial⟩) (.inr ⟨rfl, rfl⟩) (fun _ => rfl) (fun _ => rfl) rfl) (by kernel_rfl) rfl rfl (fun x21' hm => ?_)
       obtain ⟨x21⟩ := x21'
       refine D.ps 3 [(12, []), (13, []), (14, [])] rfl hQ hS T rfl rfl (by kernel_rfl) ?_
       refine D.e1 (o := _) 16 rfl (.none rfl) (by exact Eff1.st T rfl rfl rfl rfl rfl rfl rfl rfl rfl rfl) (by kernel_rfl) rfl rfl ?_
       refine D.ps 1 [(17, [])] rfl hQ hS T rfl rfl (by kernel_rfl) ?_
       refine D.done (by kernel_rfl) ?_
       exact St.wk (hJ19 _ hm) (Wk.mk' [some 0, some 1, some 2] rfl rfl (.eqs rfl) ⟨⟨_, rfl, .box rfl (.eq rfl)⟩, ⟨_, rfl, .box rfl (.eq rfl)⟩, ⟨_, rfl, .box rfl (.eq rfl)⟩, trivial⟩ rfl)
    ·refine C.exit (C.ex (C.ex (C.bex ?_)))
     exact St.wk (hJ14 _ hm) (Wk.mk' [some 1] rfl rfl (.eqs rfl) ⟨⟨_, rfl, .box rfl (.eq rfl)⟩, trivial⟩ rfl)
  ·refine C.block ?_
   refine St.wk (C.loop (fun (s5 : Int) => [(1, .i from_1), (2, .i to_1), (3, .i tick), (4, .sl 3 eApiTaken taken), (5, .sl 1 eI avoid), (6, .sl 1 eI acts), (7, .p 0 0), (15, .i s5)]) (fun (s5 : Int) => [(0, .box (eApiSite s_1))]) hm (fun s5 Y6 hm => ?_)) (Wk.mk' [some 0] rfl rfl (.eqs rfl) ⟨⟨_, rfl, .box rfl (.eq rfl)⟩, trivial⟩ rfl)
   refine C.seq (C.seq (U.start ?_))
   refine U.ps 4 T rfl ?_
   refine U.done (C.nx ?_)
   refine C.ite rfl hm (fun hb7 hm => ?_) (fun hb7 hm => ?_)
   ·refine C.skip (C.nx (C.seq (C.block (C.seq ?_))))
    refine C.jn (fun (x8 : Bool) => [(1, .i from_1), (2, .i to_1), (3, .i tick), (4, .sl 3 eApiTaken taken), (5, .sl 1 eI avoid), (6, .sl 1 eI acts), (7, .p 0 0), (15, .i s5), (43, .b x8)]) (fun (x8 : Bool) => [(0, .box (eApiSite s_1))]) 1 hm (fun x8 hm => ?_) (fun J9 hm hJ9 => ?_)
    ·refine C.nx ?_
     refine C.ite rfl hm (fun hb12 hm => ?_) (fun hb12 hm => ?_)
     ·refine C.seq (U.start ?_)
      refine U.ps 1 T rfl ?_
      refine U.done (C.nx (C.ret (C.brt (C.rt (C.rt (C.brt (C.rt ?_)))))))
      exact C.fin T (rs' := [.i 1]) (H' := []) (nl' := 0) [] rfl rfl (.eq rfl) trivial rfl rfl rfl rfl hβ ⟨1, hm, rfl, rfl, rfl⟩
     ·refine C.skip (C.bnx (C.nx (U.start ?_)))
      refine U.ps 3 T rfl ?_
      refine U.done (C.nx ?_)
      exact St.wk (C.next hm) (Wk.mk' [some 0] rfl rfl (.eqs rfl) ⟨⟨_, rfl, .box rfl (.eq rfl)⟩, trivial⟩ rfl)
    ·refine U.start ?_
     refine U.ps 2 T rfl ?_
     obtain ⟨x10, hx10, hm⟩ := hm
     refine U.r (o := _) rfl (.none rfl) rfl rfl (by exact Rd.ix T rfl rfl rfl rfl rfl rfl hx10) ?_
     refine U.ps 3 T rfl ?_
     refine hm.cs (fun hb11 hm => ?_) (fun hb11 hm => ?_)
     ·refine U.sks 5 5 false 37 hb11 rfl rfl rfl ?_
      refine U.r (o := _) rfl (.none rfl) rfl rfl (by exact Rd.pk rfl rfl hb11 rfl) ?_
      refine U.done ?_
      exact St.wk (hJ9 _ hm) (Wk.mk' [some 0] rfl rfl (.eqs rfl) ⟨⟨_, rfl, .box rfl (.eq rfl)⟩, trivial⟩ rfl)
     ·refine U.pg 2 5 false 37 hb11 T rfl rfl rfl rfl ?_
      refine U.r (o := _) rfl (.take 5 false 37 _ hb11 rfl rfl rfl) rfl rfl (by exact Rd.ix T rfl rfl rfl rfl rfl rfl hx10) ?_
      refine U.pg 2 5 false 37 hb11 T rfl rfl rfl rfl ?_
      refine U.r (o := _) rfl (.none rfl) rfl rfl (by exact Rd.pk' rfl rfl hb11 rfl) ?_
      refine U.done ?_
      exact St.wk (hJ9 _ hm) (Wk.mk' [some 0] rfl rfl (.eqs rfl) ⟨⟨_, rfl, .box rfl (.eq rfl)⟩, trivial⟩ rfl)
   ·refine C.exit (C.ex (C.ex (C.bex ?_)))
    exact St.wk (hJ4 _ hm) (Wk.mk' [some 0] rfl rfl (.eqs rfl) ⟨⟨_, rfl, .box rfl (.eq rfl)⟩, trivial⟩ rfl)
theorem T_route_Cells (s_1 : ApiSite) (from_1 : Int) (acts : List Int) (post : (List Int) → Prop) (hm : V_route_Cells s_1 from_1 acts post) :
    Tr Try.prog 14 [.agg (eApiSite s_1), .i from_1, .sl 1 eI acts] [] 0 (fun A H' k => ∃ y, post y ∧ A = (.o 0) ∧ H' = [(0, .val (.os 1 eI y))] ∧ k = 1) := by
 refine Tr.intro (n := 47) Try.func14 rfl Try.ntmps14 rfl (fun w0 ok F β hβ => ?_)
 unfold V_route_Cells at hm
 refine C.seq (U.start ?_)
 refine U.e1 (o := _) rfl (.none rfl) (by exact Eff1.box rfl rfl rfl rfl rfl) ?_
 refine U.ps 1 T rfl ?_
 refine U.done (C.nx (C.seq (C.seq ?_)))
 refine C.jn (fun (x1 : Bool) => [(1, .i from_1), (2, .sl 1 eI acts), (3, .p 0 0), (21, .b x1)]) (fun (x1 : Bool) => [(0, .box (eApiSite s_1))]) 1 hm (fun x1 hm => ?_) (fun J2 hm hJ2 => ?_)
 ·refine C.nx ?_
  refine C.ite rfl hm (fun hb4 hm => ?_) (fun hb4 hm => ?_)
  ·refine C.seq (U.start ?_)
   refine U.ps 1 T rfl ?_
   refine U.done (C.nx (C.ret (C.rt ?_)))
   exact C.fin T (rs' := [.o 0]) (H' := [(0, .val (.os 1 eI []))]) (nl' := 1) [none] rfl rfl (.cons (.nilO _ _ ⟨rfl, rfl⟩ rfl) .nil) ⟨⟨_, rfl, .nil _ _⟩, trivial⟩ rfl rfl rfl rfl hβ ⟨[], hm, rfl, rfl, rfl⟩
  ·refine C.skip (C.nx (C.seq (U.start ?_)))
   refine U.ps 1 T rfl ?_
   refine U.e1 (o := _) rfl (.none rfl) (by exact Eff1.bs T (enc := eI) (xs := ([from_1] : List Int)) rfl rfl rfl rfl rfl rfl rfl rfl rfl rfl (fun _ _ => rfl) rfl rfl) ?_
   refine U.ps 1 T rfl ?_
   refine U.done (C.nx (C.seq (C.seq (U.start ?_))))
   refine U.ps 3 T rfl ?_
   refine U.done (C.nx ?_)
   refine C.jn (fun (x5 : List Int) => [(7, .o 0)]) (fun (x5 : List Int) => [(0, .val (.os 1 eI x5))]) 1 hm (fun x5 hm => ?_) (fun J6 hm hJ6 => ?_)
   ·refine C.nx (C.seq (U.start ?_))
    refine U.ps 2 T rfl ?_
    refine U.done (C.nx (C.ret ?_))
    exact C.fin T (rs' := [.o 0]) (H' := [(0, .val (.os 1 eI x5))]) (nl' := 1) [some 0] rfl rfl (.eq rfl) ⟨⟨_, rfl, .val rfl⟩, trivial⟩ rfl rfl rfl rfl hβ ⟨x5, hm, rfl, rfl, rfl⟩
   ·refine C.block ?_
    refine St.wk (C.loop (fun (s7 : Int × List Int × Int) => [(1, .i s7.1), (3, .p 0 0), (7, .o 1), (24, .sl 1 eI acts), (25, .i (acts.length : Int)), (26, .i s7.2.2)]) (fun (s7 : Int × List Int × Int) => [(0, .box (eApiSite s_1)), (1, .val (.os 1 eI s7.2.1))]) hm (fun s7 Y8 hm => ?_)) (Wk.mk' [some 0, some 1] rfl rfl (.eqs rfl) ⟨⟨_, rfl, .box rfl (.eq rfl)⟩, ⟨_, rfl, .val rfl⟩, trivial⟩ rfl)
    refine C.seq (U.start ?_)
    refine U.ps 1 T rfl ?_
    refine U.done (C.nx (C.seq ?_))
    refine C.ite rfl hm (fun hb9 hm => ?_) (fun hb9 hm => ?_)
    ·refine C.skip (C.nx (C.seq (C.block (C.seq (U.start ?_)))))
     obtain ⟨x10, hx10, hm⟩ := hm
     refine U.r (o := _) rfl (.none rfl) rfl rfl (by exact Rd.ix T rfl rfl rfl rfl rfl rfl hx10) ?_
     refine U.ps 2 T rfl ?_
     refine U.done (C.nx (C.seq (C.seq (U.start ?_))))
     refine U.ps 5 T rfl ?_
     refine U.e (o := _) rfl (.none rfl) (by exact Eff.c [] (v := true) (T_floor_Next s_1.Floor s7.1 (w64 (x10 - 1)) _ hm) en17 rfl rfl rfl (.eq rfl) trivial rfl rfl rfl rfl rfl rfl (fun _ _ => ⟨(.tup (.cons (.v _) (.cons (.v _) .nil))), trivial⟩) (.inr ⟨rfl, rfl⟩) (fun _ => rfl) (fun _ => rfl) rfl) (fun x11' hm => ?_)
     obtain ⟨x11⟩ := x11'
     refine U.ps 5 T rfl ?_
     refine U.done (C.nx (C.seq (U.start ?_)))
     refine U.ps 1 T rfl ?_
     refine U.done (C.nx ?_)
     refine C.jn (fun (x12 : Int) => [(1, .i x12), (3, .p 0 0), (7, .o 1), (24, .sl 1 eI acts), (25, .i (acts.length : Int)), (26, .i s7.2.2)]) (fun (x12 : Int) => [(0, .box (eApiSite s_1)), (1, .val (.os 1 eI s7.2.1))]) 2 hm (fun x12 hm => ?_) (fun J13 hm hJ13 => ?_)
     ·refine C.nx (U.start ?_)
      refine U.ps 2 T rfl ?_
      refine U.e1 (o := _) rfl (.none rfl) (by exact Eff1.bs T (enc := eI) (xs := ([x12] : List Int)) rfl rfl rfl rfl rfl rfl rfl rfl rfl rfl (fun _ _ => rfl) rfl rfl) ?_
      obtain ⟨hx15, hm⟩ := hm
      refine U.e1 (o := _) rfl (.none rfl) (by exact Eff1.ap T rfl rfl rfl rfl rfl rfl (.inr ⟨_, rfl, rfl⟩) rfl rfl rfl (fun _ => rfl) rfl hx15) ?_
      refine U.ps 1 T rfl ?_
      refine U.done (C.bnx (C.nx (U.start ?_)))
      refine U.ps 2 T rfl ?_
      refine U.done (C.nx ?_)
      exact St.wk (C.next hm) (Wk.mk' [some 0, some 3] rfl rfl (.eqs rfl) ⟨⟨_, rfl, .box rfl (.eq rfl)⟩, ⟨_, rfl, .val rfl⟩, trivial⟩ rfl)
     ·refine C.ite rfl hm (fun hb14 hm => ?_) (fun hb14 hm => ?_)
      ·refine U.start ?_
       refine U.ps 2 T rfl ?_
       refine U.done ?_
       exact St.wk (hJ13 _ hm) (Wk.mk' [some 0, some 1] rfl rfl (.eqs rfl) ⟨⟨_, rfl, .box rfl (.eq rfl)⟩, ⟨_, rfl, .val rfl⟩, trivial⟩ rfl)
      ·refine C.skip ?_
       exact St.wk (hJ13 _ hm) (Wk.mk' [some 0, some 1] rfl rfl (.eqs rfl) ⟨⟨_, rfl, .box rfl (.eq rfl)⟩, ⟨_, rfl, .val rfl⟩, trivial⟩ rfl)
    ·refine C.exit (C.ex (C.ex (C.bex ?_)))
     exact St.wk (hJ6 _ hm) (Wk.mk' [some 1] rfl rfl (.eqs rfl) ⟨⟨_, rfl, .val rfl⟩, trivial⟩ rfl)
 ·refine U.start ?_
  refine U.ps 3 T rfl ?_
  refine hm.cs (fun hb3 hm => ?_) (fun hb3 hm => ?_)
  ·refine U.sks 6 2 false 14 hb3 rfl rfl rfl ?_
   refine U.r (o := _) rfl (.none rfl) rfl rfl (by exact Rd.pk rfl rfl hb3 rfl) ?_
   refine U.done ?_
   exact St.wk (hJ2 _ hm) (Wk.mk' [some 0] rfl rfl (.eqs rfl) ⟨⟨_, rfl, .box rfl (.eq rfl)⟩, trivial⟩ rfl)
  ·refine U.pg 6 2 false 14 hb3 T rfl rfl rfl rfl ?_
   refine U.r (o := _) rfl (.none rfl) rfl rfl (by exact Rd.pk' rfl rfl hb3 rfl) ?_
   refine U.done ?_
   exact St.wk (hJ2 _ hm) (Wk.mk' [some 0] rfl rfl (.eqs rfl) ⟨⟨_, rfl, .box rfl (.eq rfl)⟩, trivial⟩ rfl)
theorem T_taquinref23_Cells (s_1 : ApiSite) (from_1 : Int) (acts : List Int) (post : (List Int) → Prop) (hm : V_taquinref23_Cells s_1 from_1 acts post) :
    Tr Try.prog 15 [.agg (eApiSite s_1), .i from_1, .sl 1 eI acts] [] 0 (fun A H' k => ∃ y, post y ∧ A = (.o 0) ∧ H' = [(0, .val (.os 1 eI y))] ∧ k = 1) := by
 refine Tr.intro (n := 62) Try.func15 rfl Try.ntmps15 rfl (fun w0 ok F β hβ => ?_)
 unfold V_taquinref23_Cells at hm
 refine C.seq (U.start ?_)
 refine U.e1 (o := _) rfl (.none rfl) (by exact Eff1.box rfl rfl rfl rfl rfl) ?_
 refine U.ps 1 T rfl ?_
 refine U.done (C.nx (C.seq (C.seq (U.start ?_))))
 refine U.ps 3 T rfl ?_
 refine U.e (o := _) rfl (.none rfl) (by exact Eff.c [] (v := true) (T_taquinref07_Is s_1.Floor from_1 _ hm) en34 rfl rfl rfl (.eq rfl) trivial rfl rfl rfl rfl rfl rfl (fun _ _ => ⟨(.v _), trivial⟩) (.inr ⟨rfl, rfl⟩) (fun _ => rfl) (fun _ => rfl) rfl) (fun x1' hm => ?_)
 obtain ⟨x1⟩ := x1'
 refine U.ps 1 T rfl ?_
 refine U.done (C.nx ?_)
 refine C.ite rfl hm (fun hb2 hm => ?_) (fun hb2 hm => ?_)
 ·refine C.seq (U.start ?_)
  refine U.ps 1 T rfl ?_
  refine U.done (C.nx (C.ret (C.rt ?_)))
  exact C.fin T (rs' := [.o 0]) (H' := [(0, .val (.os 1 eI []))]) (nl' := 1) [none] rfl rfl (.cons (.nilO _ _ ⟨rfl, rfl⟩ rfl) .nil) ⟨⟨_, rfl, .nil _ _⟩, trivial⟩ rfl rfl rfl rfl hβ ⟨[], hm, rfl, rfl, rfl⟩
 ·refine C.skip (C.nx (C.seq (U.start ?_)))
  refine U.ps 1 T rfl ?_
  refine U.e1 (o := _) rfl (.none rfl) (by exact Eff1.bs T (enc := eI) (xs := ([from_1] : List Int)) rfl rfl rfl rfl rfl rfl rfl rfl rfl rfl (fun _ _ => rfl) rfl rfl) ?_
  refine U.ps 1 T rfl ?_
  refine U.done (C.nx (C.seq (C.seq (U.start ?_))))
  refine U.ps 1 T rfl ?_
  refine U.done (C.nx ?_)
  refine C.jn (fun (x3 : List Int) => [(7, .o 0)]) (fun (x3 : List Int) => [(0, .val (.os 1 eI x3))]) 1 hm (fun x3 hm => ?_) (fun J4 hm hJ4 => ?_)
  ·refine C.nx (C.seq (U.start ?_))
   refine U.ps 2 T rfl ?_
   refine U.done (C.nx (C.ret ?_))
   exact C.fin T (rs' := [.o 0]) (H' := [(0, .val (.os 1 eI x3))]) (nl' := 1) [some 0] rfl rfl (.eq rfl) ⟨⟨_, rfl, .val rfl⟩, trivial⟩ rfl rfl rfl rfl hβ ⟨x3, hm, rfl, rfl, rfl⟩
  ·refine C.block ?_
   refine St.wk (C.loop (fun (s5 : List Int × Int) => [(2, .sl 1 eI acts), (3, .p 0 0), (7, .o 1), (8, .i s5.2)]) (fun (s5 : List Int × Int) => [(0, .box (eApiSite s_1)), (1, .val (.os 1 eI s5.1))]) hm (fun s5 Y6 hm => ?_)) (Wk.mk' [some 0, some 1] rfl rfl (.eqs rfl) ⟨⟨_, rfl, .box rfl (.eq rfl)⟩, ⟨_, rfl, .val rfl⟩, trivial⟩ rfl)
   refine C.seq (C.seq (U.start ?_))
   refine U.ps 4 T rfl ?_
   refine U.done (C.nx ?_)
   refine C.ite rfl hm (fun hb7 hm => ?_) (fun hb7 hm => ?_)
   ·refine C.skip (C.nx (C.seq (C.block (C.seq (U.start ?_)))))
    refine U.ps 4 T rfl ?_
    obtain ⟨x8, hx8, hm⟩ := hm
    refine U.r (o := _) rfl (.none rfl) rfl rfl (by exact Rd.io T rfl rfl rfl rfl rfl rfl rfl hx8) ?_
    refine U.r (o := _) rfl (.none rfl) rfl rfl (by exact Rd.le T rfl rfl rfl (idx_some hx8).2.2 rfl rfl rfl) ?_
    refine U.ps 1 T rfl ?_
    refine U.done (C.nx (C.seq (C.seq ?_)))
    refine C.jn (fun (x9 : Bool) => [(2, .sl 1 eI acts), (3, .p 0 0), (7, .o 1), (8, .i s5.2), (9, .i x8), (42, .b x9)]) (fun (x9 : Bool) => [(0, .box (eApiSite s_1)), (1, .val (.os 1 eI s5.1))]) 2 hm (fun x9 hm => ?_) (fun J10 hm hJ10 => ?_)
    ·refine C.nx ?_
     refine C.jn (fun (x13 : Int) => [(2, .sl 1 eI acts), (3, .p 0 0), (7, .o 1), (8, .i s5.2), (9, .i x13)]) (fun (x13 : Int) => [(0, .box (eApiSite s_1)), (1, .val (.os 1 eI s5.1))]) 2 hm (fun x13 hm => ?_) (fun J14 hm hJ14 => ?_)
     ·refine C.nx (U.start ?_)
      refine U.ps 2 T rfl ?_
      refine U.e1 (o := _) rfl (.none rfl) (by exact Eff1.bs T (enc := eI) (xs := ([x13] : List Int)) rfl rfl rfl rfl rfl rfl rfl rfl rfl rfl (fun _ _ => rfl) rfl rfl) ?_
      obtain ⟨hx21, hm⟩ := hm
      refine U.e1 (o := _) rfl (.none rfl) (by exact Eff1.ap T rfl rfl rfl rfl rfl rfl (.inr ⟨_, rfl, rfl⟩) rfl rfl rfl (fun _ => rfl) rfl hx21) ?_
      refine U.ps 1 T rfl ?_
      refine U.done (C.bnx (C.nx (U.start ?_)))
      refine U.ps 3 T rfl ?_
      refine U.done (C.nx ?_)
      exact St.wk (C.next hm) (Wk.mk' [some 0, some 3] rfl rfl (.eqs rfl) ⟨⟨_, rfl, .box rfl (.eq rfl)⟩, ⟨_, rfl, .val rfl⟩, trivial⟩ rfl)
     ·refine C.ite rfl hm (fun hb15 hm => ?_) (fun hb15 hm => ?_)
      ·refine C.seq ?_
       refine D.beg 9999 [0] [] mix rfl rfl (by kernel_rfl) (by repeat (first | exact NoPanicQ.body | refine NoPanicQ.th ?_ | refine NoPanicQ.blk ?_)) (fun hQ hS ws M' => ?_)
       refine D.ps 5 [(0, []), (1, []), (2, []), (3, []), (4, [])] rfl hQ hS T rfl rfl (by kernel_rfl) ?_
       obtain ⟨x16, hx16, hm⟩ := hm
       refine D.q (o := _) 5 [] hQ hS rfl (.none rfl) rfl rfl (by exact Rd.ix T rfl rfl rfl rfl rfl rfl hx16) rfl (by kernel_rfl) ?_
       refine D.ps 2 [(6, []), (7, [])] rfl hQ hS T rfl rfl (by kernel_rfl) ?_
       refine D.e (o := _) 8 rfl (.none rfl) (by exact Eff.c [] (v := true) (T_taquinref07_Next s_1.Floor x8 (w64 (x16 - 1)) _ hm) en35 rfl rfl rfl (.eq rfl) trivial rfl rfl rfl rfl rfl rfl (fun _ _ => ⟨(.tup (.cons (.v _) (.cons (.v _) .nil))), trivial⟩) (.inr ⟨rfl, rfl⟩) (fun _ => rfl) (fun _ => rfl) rfl) (by kernel_rfl) rfl rfl (fun x17' hm => ?_)
       obtain ⟨x17⟩ := x17'
       refine D.ps 5 [(9, []), (10, []), (11, []), (12, []), (13, [])] rfl hQ hS T rfl rfl (by kernel_rfl) ?_
       refine D.done (by kernel_rfl) ?_
       refine C.nx (C.seq (U.start ?_))
       refine U.ps 1 T rfl ?_
       refine U.done (C.nx ?_)
       refine C.jn (fun (x18 : Int) => [(2, .sl 1 eI acts), (3, .p 0 0), (7, .o 1), (8, .i s5.2), (9, .i x18)]) (fun (x18 : Int) => [(0, .box (eApiSite s_1)), (1, .val (.os 1 eI s5.1))]) 2 hm (fun x18 hm => ?_) (fun J19 hm hJ19 => ?_)
       ·exact St.wk (hJ14 _ hm) (Wk.mk' [some 0, some 1] rfl rfl (.eqs rfl) ⟨⟨_, rfl, .box rfl (.eq rfl)⟩, ⟨_, rfl, .val rfl⟩, trivial⟩ rfl)
       ·refine C.ite rfl hm (fun hb20 hm => ?_) (fun hb20 hm => ?_)
        ·refine U.start ?_
         refine U.ps 2 T rfl ?_
         refine U.done ?_
         exact St.wk (hJ19 _ hm) (Wk.mk' [some 0, some 1] rfl rfl (.eqs rfl) ⟨⟨_, rfl, .box rfl (.eq rfl)⟩, ⟨_, rfl, .val rfl⟩, trivial⟩ rfl)
        ·refine C.skip ?_
         exact St.wk (hJ19 _ hm) (Wk.mk' [some 0, some 1] rfl rfl (.eqs rfl) ⟨⟨_, rfl, .box rfl (.eq rfl)⟩, ⟨_, rfl, .val rfl⟩, trivial⟩ rfl)
      ·refine C.skip ?_
       exact St.wk (hJ14 _ hm) (Wk.mk' [some 0, some 1] rfl rfl (.eqs rfl) ⟨⟨_, rfl, .box rfl (.eq rfl)⟩, ⟨_, rfl, .val rfl⟩, trivial⟩ rfl)
    ·refine U.start ?_
     refine U.ps 2 T rfl ?_
     obtain ⟨x11, hx11, hm⟩ := hm
     refine U.r (o := _) rfl (.none rfl) rfl rfl (by exact Rd.ix T rfl rfl rfl rfl rfl rfl hx11) ?_
     refine U.ps 3 T rfl ?_
     refine hm.cs (fun hb12 hm => ?_) (fun hb12 hm => ?_)
     ·refine U.pg 2 5 true 36 hb12 T rfl rfl rfl rfl ?_
      refine U.r (o := _) rfl (.take 5 true 36 _ hb12 rfl rfl rfl) rfl rfl (by exact Rd.ix T rfl rfl rfl rfl rfl rfl hx11) ?_
      refine U.pg 2 5 true 36 hb12 T rfl rfl rfl rfl ?_
      refine U.r (o := _) rfl (.none rfl) rfl rfl (by exact Rd.pk rfl rfl hb12 rfl) ?_
      refine U.done ?_
      exact St.wk (hJ10 _ hm) (Wk.mk' [some 0, some 1] rfl rfl (.eqs rfl) ⟨⟨_, rfl, .box rfl (.eq rfl)⟩, ⟨_, rfl, .val rfl⟩, trivial⟩ rfl)
     ·refine U.sks 5 5 true 36 hb12 rfl rfl rfl ?_
      refine U.r (o := _) rfl (.none rfl) rfl rfl (by exact Rd.pk' rfl rfl hb12 rfl) ?_
      refine U.done ?_
      exact St.wk (hJ10 _ hm) (Wk.mk' [some 0, some 1] rfl rfl (.eqs rfl) ⟨⟨_, rfl, .box rfl (.eq rfl)⟩, ⟨_, rfl, .val rfl⟩, trivial⟩ rfl)
   ·refine C.exit (C.ex (C.ex (C.bex ?_)))
    exact St.wk (hJ4 _ hm) (Wk.mk' [some 1] rfl rfl (.eqs rfl) ⟨⟨_, rfl, .val rfl⟩, trivial⟩ rfl)
theorem T_taquinlaw23_RouteTells (s_1 : ApiSite) (from_1 : Int) (to_1 : Int) (tick : Int) (taken : List ApiTaken) (avoid : List Int) (most : Int) (acts : List Int) (post : Bool → Prop) (hm : V_taquinlaw23_RouteTells s_1 from_1 to_1 tick taken avoid most acts post) :
    Tr Try.prog 5 [.agg (eApiSite s_1), .i from_1, .i to_1, .i tick, .sl 3 eApiTaken taken, .sl 1 eI avoid, .i most, .sl 1 eI acts] [] 0 (fun A H' k => ∃ y, post y ∧ A = (.b y) ∧ H' = [] ∧ k = 0) := by
 refine Tr.intro (n := 104) Try.func5 rfl Try.ntmps5 rfl (fun w0 ok F β hβ => ?_)
 unfold V_taquinlaw23_RouteTells at hm
 refine C.seq (U.start ?_)
 refine U.e1 (o := _) rfl (.none rfl) (by exact Eff1.box rfl rfl rfl rfl rfl) ?_
 refine U.ps 1 T rfl ?_
 refine U.done (C.nx (C.seq (U.start ?_)))
 refine U.e (o := _) rfl (.none rfl) (by exact Eff.c [] (v := true) (T_taquinlaw23_small _ hm) en7 rfl rfl rfl (.eq rfl) trivial rfl rfl rfl rfl rfl rfl (fun _ _ => ⟨(.v _), trivial⟩) (.inr ⟨rfl, rfl⟩) (fun _ => rfl) (fun _ => rfl) rfl) (fun x1' hm => ?_)
 obtain ⟨x1⟩ := x1'
 refine U.ps 1 T rfl ?_
 refine U.done (C.nx (C.seq (C.seq ?_)))
 refine C.jn (fun (x2 : Bool) => [(1, .i from_1), (2, .i to_1), (3, .i tick), (4, .sl 3 eApiTaken taken), (5, .sl 1 eI avoid), (6, .i most), (7, .sl 1 eI acts), (8, .p 0 0), (17, .b x1), (40, .b x2)]) (fun (x2 : Bool) => [(0, .box (eApiSite s_1))]) 1 hm (fun x2 hm => ?_) (fun J3 hm hJ3 => ?_)
 ·refine C.nx ?_
  refine C.ite rfl hm (fun hb8 hm => ?_) (fun hb8 hm => ?_)
  ·refine C.seq (U.start ?_)
   refine U.ps 2 T rfl ?_
   refine U.done (C.nx (C.ret (C.rt ?_)))
   exact C.fin T (rs' := [.b x1]) (H' := []) (nl' := 0) [] rfl rfl (.eq rfl) trivial rfl rfl rfl rfl hβ ⟨x1, hm, rfl, rfl, rfl⟩
  ·refine C.skip (C.nx (C.seq (U.start ?_)))
   refine U.ps 7 T rfl ?_
   refine U.e (o := _) rfl (.none rfl) (by exact Eff.c [] (v := true) (T_route_Find s_1 from_1 to_1 tick taken avoid most _ hm) en9 rfl rfl rfl (.eq rfl) trivial rfl rfl rfl rfl rfl rfl (fun _ _ => ⟨(.tup (.cons (.o _) (.cons (.v _) .nil))), ⟨.val (.os _ _ _ fun _ => (.cons (.v _) .nil)), trivial⟩⟩) (.inr ⟨rfl, rfl⟩) (fun _ => rfl) (fun _ => rfl) rfl) (fun x9' hm => ?_)
   obtain ⟨x9⟩ := x9'
   refine U.ps 5 T rfl ?_
   refine U.done (C.nx (C.seq (U.start ?_)))
   refine U.ps 7 T rfl ?_
   refine U.e (o := _) rfl (.none rfl) (by exact Eff.c [] (v := true) (T_taquinref23_Find s_1 from_1 to_1 tick taken avoid most _ hm) en12 rfl rfl rfl (.eq rfl) trivial rfl rfl rfl rfl rfl rfl (fun _ _ => ⟨(.tup (.cons (.o _) (.cons (.v _) .nil))), ⟨.val (.os _ _ _ fun _ => (.cons (.v _) .nil)), trivial⟩⟩) (.inr ⟨rfl, rfl⟩) (fun _ => rfl) (fun _ => rfl) rfl) (fun x10' hm => ?_)
   obtain ⟨x10⟩ := x10'
   refine U.ps 5 T rfl ?_
   refine U.done (C.nx (C.seq (C.seq ?_)))
   refine C.jn (fun (x11 : Bool) => [(1, .i from_1), (2, .i to_1), (3, .i tick), (4, .sl 3 eApiTaken taken), (5, .sl 1 eI avoid), (7, .sl 1 eI acts), (8, .p 0 0), (17, .b x1), (72, .b x11)]) (fun (x11 : Bool) => [(0, .box (eApiSite s_1))]) 1 hm (fun x11 hm => ?_) (fun J12 hm hJ12 => ?_)
   ·refine C.nx ?_
    refine C.ite rfl hm (fun hb15 hm => ?_) (fun hb15 hm => ?_)
    ·refine C.seq (U.start ?_)
     refine U.ps 1 T rfl ?_
     refine U.done (C.nx (C.ret (C.rt ?_)))
     exact C.fin T (rs' := [.b false]) (H' := []) (nl' := 0) [] rfl rfl (.eq rfl) trivial rfl rfl rfl rfl hβ ⟨false, hm, rfl, rfl, rfl⟩
    ·refine C.skip (C.nx (C.seq ?_))
     refine C.jn (fun (x16 : Bool) => [(16, .b x16)]) (fun (x16 : Bool) => []) 0 hm (fun x16 hm => ?_) (fun J17 hm hJ17 => ?_)
     ·refine C.nx (C.ret ?_)
      exact C.fin T (rs' := [.b x16]) (H' := []) (nl' := 0) [] rfl rfl (.eq rfl) trivial rfl rfl rfl rfl hβ ⟨x16, hm, rfl, rfl, rfl⟩
     ·refine D.beg 9999 [0] [] mix rfl rfl (by kernel_rfl) (by repeat (first | exact NoPanicQ.body | refine NoPanicQ.th ?_ | refine NoPanicQ.blk ?_)) (fun hQ hS ws M' => ?_)
      refine D.ps 2 [(0, []), (1, [])] rfl hQ hS T rfl rfl (by kernel_rfl) ?_
      refine hm.cs (fun hb18 hm => ?_) (fun hb18 hm => ?_)
      ·refine D.q (o := _) 2 [] hQ hS rfl (.take 1 true 74 _ hb18 rfl rfl rfl) rfl rfl (by exact Rd.l T rfl rfl rfl) rfl (by kernel_rfl) ?_
       refine D.q (o := _) 3 [] hQ hS rfl (.take 1 true 74 _ hb18 rfl rfl rfl) rfl rfl (by exact Rd.p T rfl) rfl (by kernel_rfl) ?_
       refine D.q (o := _) 4 [] hQ hS rfl (.take 1 true 74 _ hb18 rfl rfl rfl) rfl rfl (by exact Rd.p T rfl) rfl (by kernel_rfl) ?_
       refine D.q (o := _) 5 [] hQ hS rfl (.take 1 true 74 _ hb18 rfl rfl rfl) rfl rfl (by exact Rd.p T rfl) rfl (by kernel_rfl) ?_
       refine D.q (o := _) 6 [] hQ hS rfl (.take 1 true 74 _ hb18 rfl rfl rfl) rfl rfl (by exact Rd.p T rfl) rfl (by kernel_rfl) ?_
       refine D.q (o := _) 7 [] hQ hS rfl (.take 1 true 74 _ hb18 rfl rfl rfl) rfl rfl (by exact Rd.p T rfl) rfl (by kernel_rfl) ?_
       refine D.q (o := _) 8 [] hQ hS rfl (.take 1 true 74 _ hb18 rfl rfl rfl) rfl rfl (by exact Rd.p T rfl) rfl (by kernel_rfl) ?_
       refine D.q (o := _) 10 [] hQ hS rfl (.take 1 true 74 _ hb18 rfl rfl rfl) rfl rfl (by exact Rd.l T rfl rfl rfl) rfl (by kernel_rfl) ?_
       refine D.q (o := _) 11 [] hQ hS rfl (.take 1 true 74 _ hb18 rfl rfl rfl) rfl rfl (by exact Rd.p T rfl) rfl (by kernel_rfl) ?_
       refine D.q (o := _) 12 [] hQ hS rfl (.take 1 true 74 _ hb18 rfl rfl rfl) rfl rfl (by exact Rd.p T rfl) rfl (by kernel_rfl) ?_
       refine D.q (o := _) 13 [] hQ hS rfl (.take 1 true 74 _ hb18 rfl rfl rfl) rfl rfl (by exact Rd.p T rfl) rfl (by kernel_rfl) ?_
       refine D.q (o := _) 14 [] hQ hS rfl (.take 1 true 74 _ hb18 rfl rfl rfl) rfl rfl (by exact Rd.p T rfl) rfl (by kernel_rfl) ?_
       refine D.q (o := _) 15 [] hQ hS rfl (.take 1 true 74 _ hb18 rfl rfl rfl) rfl rfl (by exact Rd.p T rfl) rfl (by kernel_rfl) ?_
       refine D.q (o := _) 16 [] hQ hS rfl (.take 1 true 74 _ hb18 rfl rfl rfl) rfl rfl (by exact Rd.p T rfl) rfl (by kernel_rfl) ?_
       refine D.e (o := _) 9 rfl (.take 1 true 74 _ hb18 rfl rfl rfl) (by exact Eff.c [] (v := true) (T_route_Check s_1 from_1 to_1 tick taken avoid acts _ hm) en10 rfl rfl rfl (.eq rfl) trivial rfl rfl rfl rfl rfl rfl (fun _ _ => ⟨(.v _), trivial⟩) (.inr ⟨rfl, rfl⟩) (fun _ => rfl) (fun _ => rfl) rfl) (by kernel_rfl) rfl rfl (fun x19' hm => ?_)
       obtain ⟨x19⟩ := x19'
       refine D.e (o := _) 17 rfl (.take 1 true 74 _ hb18 rfl rfl rfl) (by exact Eff.c [] (v := true) (T_taquinref23_Check s_1 from_1 to_1 tick taken avoid acts _ hm) en13 rfl rfl rfl (.eq rfl) trivial rfl rfl rfl rfl rfl rfl (fun _ _ => ⟨(.v _), trivial⟩) (.inr ⟨rfl, rfl⟩) (fun _ => rfl) (fun _ => rfl) rfl) (by kernel_rfl) rfl rfl (fun x20' hm => ?_)
       obtain ⟨x20⟩ := x20'
       refine D.q (o := _) 18 [] hQ hS rfl (.take 1 true 74 _ hb18 rfl rfl rfl) rfl rfl (by exact Rd.p T rfl) rfl (by kernel_rfl) ?_
       refine D.q (o := _) 19 [] hQ hS rfl (.none rfl) rfl rfl (by exact Rd.pk rfl rfl hb18 rfl) rfl (by kernel_rfl) ?_
       refine D.ps 1 [(20, [])] rfl hQ hS T rfl rfl (by kernel_rfl) ?_
       refine hm.cs (fun hb21 hm => ?_) (fun hb21 hm => ?_)
       ·refine D.q (o := _) 21 [] hQ hS rfl (.take 20 true 93 _ hb21 rfl rfl rfl) rfl rfl (by exact Rd.l T rfl rfl rfl) rfl (by kernel_rfl) ?_
        refine D.q (o := _) 22 [] hQ hS rfl (.take 20 true 93 _ hb21 rfl rfl rfl) rfl rfl (by exact Rd.p T rfl) rfl (by kernel_rfl) ?_
        refine D.q (o := _) 23 [] hQ hS rfl (.take 20 true 93 _ hb21 rfl rfl rfl) rfl rfl (by exact Rd.p T rfl) rfl (by kernel_rfl) ?_
        refine D.q (o := _) 25 [] hQ hS rfl (.take 20 true 93 _ hb21 rfl rfl rfl) rfl rfl (by exact Rd.l T rfl rfl rfl) rfl (by kernel_rfl) ?_
        refine D.q (o := _) 26 [] hQ hS rfl (.take 20 true 93 _ hb21 rfl rfl rfl) rfl rfl (by exact Rd.p T rfl) rfl (by kernel_rfl) ?_
        refine D.q (o := _) 27 [] hQ hS rfl (.take 20 true 93 _ hb21 rfl rfl rfl) rfl rfl (by exact Rd.p T rfl) rfl (by kernel_rfl) ?_
        refine D.e (o := _) 24 rfl (.take 20 true 93 _ hb21 rfl rfl rfl) (by exact Eff.c [] (v := true) (T_route_Cells s_1 from_1 acts _ hm) en14 rfl rfl rfl (.eq rfl) trivial rfl rfl rfl rfl rfl rfl (fun _ _ => ⟨(.o _), ⟨.val (.os _ _ _ fun _ => (.cons (.v _) .nil)), trivial⟩⟩) (.inr ⟨rfl, rfl⟩) (fun _ => rfl) (fun _ => rfl) rfl) (by kernel_rfl) rfl rfl (fun x22' hm => ?_)
        obtain ⟨x22⟩ := x22'
        refine D.e (o := _) 28 rfl (.take 20 true 93 _ hb21 rfl rfl rfl) (by exact Eff.c [] (v := true) (T_taquinref23_Cells s_1 from_1 acts _ hm) en15 rfl rfl rfl (.eq rfl) trivial rfl rfl rfl rfl rfl rfl (fun _ _ => ⟨(.o _), ⟨.val (.os _ _ _ fun _ => (.cons (.v _) .nil)), trivial⟩⟩) (.inr ⟨rfl, rfl⟩) (fun _ => rfl) (fun _ => rfl) rfl) (by kernel_rfl) rfl rfl (fun x23' hm => ?_)
        obtain ⟨x23⟩ := x23'
        refine D.e (o := _) 29 rfl (.take 20 true 93 _ hb21 rfl rfl rfl) (by exact Eff.c [] (v := true) (T_taquinref07_Same x22 x23 _ hm) en11 rfl rfl rfl (.cons (.fz rfl rfl rfl (.os fun _ => .cons (.ro rfl) .nil)) (.cons (.fz rfl rfl rfl (.os fun _ => .cons (.ro rfl) .nil)) .nil)) trivial rfl rfl rfl rfl rfl rfl (fun _ _ => ⟨(.v _), trivial⟩) (.inr ⟨rfl, rfl⟩) (fun _ => rfl) (fun _ => rfl) rfl) (by kernel_rfl) rfl rfl (fun x24' hm => ?_)
        obtain ⟨x24⟩ := x24'
        refine D.q (o := _) 30 [] hQ hS rfl (.none rfl) rfl rfl (by exact Rd.pk rfl rfl hb21 rfl) rfl (by kernel_rfl) ?_
        refine D.ps 1 [(31, [])] rfl hQ hS T rfl rfl (by kernel_rfl) ?_
        refine D.done (by kernel_rfl) ?_
        exact St.wk (hJ17 _ hm) (Wk.mk' [] rfl rfl (.eqs rfl) trivial rfl)
       ·refine D.sq (o := _) 21 [] hQ hS rfl (.skip 20 true 93 _ hb21 rfl rfl rfl) rfl rfl (by kernel_rfl) ?_
        refine D.sq (o := _) 22 [] hQ hS rfl (.skip 20 true 93 _ hb21 rfl rfl rfl) rfl rfl (by kernel_rfl) ?_
        refine D.sq (o := _) 23 [] hQ hS rfl (.skip 20 true 93 _ hb21 rfl rfl rfl) rfl rfl (by kernel_rfl) ?_
        refine D.sq (o := _) 24 [] hQ hS rfl (.skip 20 true 93 _ hb21 rfl rfl rfl) rfl rfl (by kernel_rfl) ?_
        refine D.sq (o := _) 25 [] hQ hS rfl (.skip 20 true 93 _ hb21 rfl rfl rfl) rfl rfl (by kernel_rfl) ?_
        refine D.sq (o := _) 26 [] hQ hS rfl (.skip 20 true 93 _ hb21 rfl rfl rfl) rfl rfl (by kernel_rfl) ?_
        refine D.sq (o := _) 27 [] hQ hS rfl (.skip 20 true 93 _ hb21 rfl rfl rfl) rfl rfl (by kernel_rfl) ?_
        refine D.sq (o := _) 28 [] hQ hS rfl (.skip 20 true 93 _ hb21 rfl rfl rfl) rfl rfl (by kernel_rfl) ?_
        refine D.sq (o := _) 29 [] hQ hS rfl (.skip 20 true 93 _ hb21 rfl rfl rfl) rfl rfl (by kernel_rfl) ?_
        refine D.q (o := _) 30 [] hQ hS rfl (.none rfl) rfl rfl (by exact Rd.pk' rfl rfl hb21 rfl) rfl (by kernel_rfl) ?_
        refine D.ps 1 [(31, [])] rfl hQ hS T rfl rfl (by kernel_rfl) ?_
        refine D.done (by kernel_rfl) ?_
        exact St.wk (hJ17 _ hm) (Wk.mk' [] rfl rfl (.eqs rfl) trivial rfl)
      ·refine D.sq (o := _) 2 [] hQ hS rfl (.skip 1 true 74 _ hb18 rfl rfl rfl) rfl rfl (by kernel_rfl) ?_
       refine D.sq (o := _) 3 [] hQ hS rfl (.skip 1 true 74 _ hb18 rfl rfl rfl) rfl rfl (by kernel_rfl) ?_
       refine D.sq (o := _) 4 [] hQ hS rfl (.skip 1 true 74 _ hb18 rfl rfl rfl) rfl rfl (by kernel_rfl) ?_
       refine D.sq (o := _) 5 [] hQ hS rfl (.skip 1 true 74 _ hb18 rfl rfl rfl) rfl rfl (by kernel_rfl) ?_
       refine D.sq (o := _) 6 [] hQ hS rfl (.skip 1 true 74 _ hb18 rfl rfl rfl) rfl rfl (by kernel_rfl) ?_
       refine D.sq (o := _) 7 [] hQ hS rfl (.skip 1 true 74 _ hb18 rfl rfl rfl) rfl rfl (by kernel_rfl) ?_
       refine D.sq (o := _) 8 [] hQ hS rfl (.skip 1 true 74 _ hb18 rfl rfl rfl) rfl rfl (by kernel_rfl) ?_
       refine D.sq (o := _) 9 [] hQ hS rfl (.skip 1 true 74 _ hb18 rfl rfl rfl) rfl rfl (by kernel_rfl) ?_
       refine D.sq (o := _) 10 [] hQ hS rfl (.skip 1 true 74 _ hb18 rfl rfl rfl) rfl rfl (by kernel_rfl) ?_
       refine D.sq (o := _) 11 [] hQ hS rfl (.skip 1 true 74 _ hb18 rfl rfl rfl) rfl rfl (by kernel_rfl) ?_
       refine D.sq (o := _) 12 [] hQ hS rfl (.skip 1 true 74 _ hb18 rfl rfl rfl) rfl rfl (by kernel_rfl) ?_
       refine D.sq (o := _) 13 [] hQ hS rfl (.skip 1 true 74 _ hb18 rfl rfl rfl) rfl rfl (by kernel_rfl) ?_
       refine D.sq (o := _) 14 [] hQ hS rfl (.skip 1 true 74 _ hb18 rfl rfl rfl) rfl rfl (by kernel_rfl) ?_
       refine D.sq (o := _) 15 [] hQ hS rfl (.skip 1 true 74 _ hb18 rfl rfl rfl) rfl rfl (by kernel_rfl) ?_
       refine D.sq (o := _) 16 [] hQ hS rfl (.skip 1 true 74 _ hb18 rfl rfl rfl) rfl rfl (by kernel_rfl) ?_
       refine D.sq (o := _) 17 [] hQ hS rfl (.skip 1 true 74 _ hb18 rfl rfl rfl) rfl rfl (by kernel_rfl) ?_
       refine D.sq (o := _) 18 [] hQ hS rfl (.skip 1 true 74 _ hb18 rfl rfl rfl) rfl rfl (by kernel_rfl) ?_
       refine D.q (o := _) 19 [] hQ hS rfl (.none rfl) rfl rfl (by exact Rd.pk' rfl rfl hb18 rfl) rfl (by kernel_rfl) ?_
       refine D.ps 1 [(20, [])] rfl hQ hS T rfl rfl (by kernel_rfl) ?_
       refine D.sq (o := _) 21 [] hQ hS rfl (.skip 20 true 93 _ rfl rfl rfl rfl) rfl rfl (by kernel_rfl) ?_
       refine D.sq (o := _) 22 [] hQ hS rfl (.skip 20 true 93 _ rfl rfl rfl rfl) rfl rfl (by kernel_rfl) ?_
       refine D.sq (o := _) 23 [] hQ hS rfl (.skip 20 true 93 _ rfl rfl rfl rfl) rfl rfl (by kernel_rfl) ?_
       refine D.sq (o := _) 24 [] hQ hS rfl (.skip 20 true 93 _ rfl rfl rfl rfl) rfl rfl (by kernel_rfl) ?_
       refine D.sq (o := _) 25 [] hQ hS rfl (.skip 20 true 93 _ rfl rfl rfl rfl) rfl rfl (by kernel_rfl) ?_
       refine D.sq (o := _) 26 [] hQ hS rfl (.skip 20 true 93 _ rfl rfl rfl rfl) rfl rfl (by kernel_rfl) ?_
       refine D.sq (o := _) 27 [] hQ hS rfl (.skip 20 true 93 _ rfl rfl rfl rfl) rfl rfl (by kernel_rfl) ?_
       refine D.sq (o := _) 28 [] hQ hS rfl (.skip 20 true 93 _ rfl rfl rfl rfl) rfl rfl (by kernel_rfl) ?_
       refine D.sq (o := _) 29 [] hQ hS rfl (.skip 20 true 93 _ rfl rfl rfl rfl) rfl rfl (by kernel_rfl) ?_
       refine D.q (o := _) 30 [] hQ hS rfl (.none rfl) rfl rfl (by exact Rd.pk' rfl rfl rfl rfl) rfl (by kernel_rfl) ?_
       refine D.ps 1 [(31, [])] rfl hQ hS T rfl rfl (by kernel_rfl) ?_
       refine D.done (by kernel_rfl) ?_
       exact St.wk (hJ17 _ hm) (Wk.mk' [] rfl rfl (.eqs rfl) trivial rfl)
   ·refine U.start ?_
    refine U.ps 4 T rfl ?_
    refine hm.cs (fun hb13 hm => ?_) (fun hb13 hm => ?_)
    ·refine U.sks 4 3 false 67 hb13 rfl rfl rfl ?_
     refine U.r (o := _) rfl (.none rfl) rfl rfl (by exact Rd.pk rfl rfl hb13 rfl) ?_
     refine U.done ?_
     exact St.wk (hJ12 _ hm) (Wk.mk' [some 0] rfl rfl (.eqs rfl) ⟨⟨_, rfl, .box rfl (.eq rfl)⟩, trivial⟩ rfl)
    ·refine U.pg 2 3 false 67 hb13 T rfl rfl rfl rfl ?_
     refine U.e (o := _) rfl (.take 3 false 67 _ hb13 rfl rfl rfl) (by exact Eff.c [] (v := true) (T_taquinref07_Same x9.1 x10.1 _ hm) en11 rfl rfl rfl (.cons (.fz rfl rfl rfl (.os fun _ => .cons (.ro rfl) .nil)) (.cons (.fz rfl rfl rfl (.os fun _ => .cons (.ro rfl) .nil)) .nil)) trivial rfl rfl rfl rfl rfl rfl (fun _ _ => ⟨(.v _), trivial⟩) (.inr ⟨rfl, rfl⟩) (fun _ => rfl) (fun _ => rfl) rfl) (fun x14' hm => ?_)
     obtain ⟨x14⟩ := x14'
     refine U.pg 1 3 false 67 hb13 T rfl rfl rfl rfl ?_
     refine U.r (o := _) rfl (.none rfl) rfl rfl (by exact Rd.pk' rfl rfl hb13 rfl) ?_
     refine U.done ?_
     exact St.wk (hJ12 _ hm) (Wk.mk' [some 0] rfl rfl (.eqs rfl) ⟨⟨_, rfl, .box rfl (.eq rfl)⟩, trivial⟩ rfl)
 ·refine U.start ?_
  refine U.ps 3 T rfl ?_
  refine U.e (o := _) rfl (.none rfl) (by exact Eff.c [] (v := true) (T_taquinlaw23_fair s_1 taken avoid _ hm) en8 rfl rfl rfl (.eq rfl) trivial rfl rfl rfl rfl rfl rfl (fun _ _ => ⟨(.v _), trivial⟩) (.inr ⟨rfl, rfl⟩) (fun _ => rfl) (fun _ => rfl) rfl) (fun x4' hm => ?_)
  obtain ⟨x4⟩ := x4'
  refine U.ps 2 T rfl ?_
  refine hm.cs (fun hb5 hm => ?_) (fun hb5 hm => ?_)
  ·refine U.pg 3 5 false 28 (ntF hb5) T rfl rfl rfl rfl ?_
   refine hm.cs (fun hb6 hm => ?_) (fun hb6 hm => ?_)
   ·refine U.pg 2 8 true 31 hb6 T rfl rfl rfl rfl ?_
    refine U.r (o := _) rfl (.take 5 false 28 _ (ntF hb5) rfl rfl rfl) rfl rfl (by exact Rd.pk rfl rfl hb6 rfl) ?_
    refine U.r (o := _) rfl (.none rfl) rfl rfl (by exact Rd.pk' rfl rfl (ntF hb5) rfl) ?_
    refine U.ps 1 T rfl ?_
    refine hm.cs (fun hb7 hm => ?_) (fun hb7 hm => ?_)
    ·refine U.sks 3 13 false 36 hb7 rfl rfl rfl ?_
     refine U.r (o := _) rfl (.none rfl) rfl rfl (by exact Rd.pk rfl rfl hb7 rfl) ?_
     refine U.done ?_
     exact St.wk (hJ3 _ hm) (Wk.mk' [some 0] rfl rfl (.eqs rfl) ⟨⟨_, rfl, .box rfl (.eq rfl)⟩, trivial⟩ rfl)
    ·refine U.pg 3 13 false 36 hb7 T rfl rfl rfl rfl ?_
     refine U.r (o := _) rfl (.none rfl) rfl rfl (by exact Rd.pk' rfl rfl hb7 rfl) ?_
     refine U.done ?_
     exact St.wk (hJ3 _ hm) (Wk.mk' [some 0] rfl rfl (.eqs rfl) ⟨⟨_, rfl, .box rfl (.eq rfl)⟩, trivial⟩ rfl)
   ·refine U.sks 2 8 true 31 hb6 rfl rfl rfl ?_
    refine U.r (o := _) rfl (.take 5 false 28 _ (ntF hb5) rfl rfl rfl) rfl rfl (by exact Rd.pk' rfl rfl hb6 rfl) ?_
    refine U.r (o := _) rfl (.none rfl) rfl rfl (by exact Rd.pk' rfl rfl (ntF hb5) rfl) ?_
    refine U.ps 1 T rfl ?_
    refine U.pg 3 13 false 36 rfl T rfl rfl rfl rfl ?_
    refine U.r (o := _) rfl (.none rfl) rfl rfl (by exact Rd.pk' rfl rfl rfl rfl) ?_
    refine U.done ?_
    exact St.wk (hJ3 _ hm) (Wk.mk' [some 0] rfl rfl (.eqs rfl) ⟨⟨_, rfl, .box rfl (.eq rfl)⟩, trivial⟩ rfl)
  ·refine U.sks 3 5 false 28 (ntT hb5) rfl rfl rfl ?_
   refine U.sku 2 8 true 31 rfl rfl rfl ?_
   refine U.sks 1 5 false 28 (ntT hb5) rfl rfl rfl ?_
   refine U.r (o := _) rfl (.none rfl) rfl rfl (by exact Rd.pk rfl rfl (ntT hb5) rfl) ?_
   refine U.ps 1 T rfl ?_
   refine U.sks 3 13 false 36 rfl rfl rfl rfl ?_
   refine U.r (o := _) rfl (.none rfl) rfl rfl (by exact Rd.pk rfl rfl rfl rfl) ?_
   refine U.done ?_
   exact St.wk (hJ3 _ hm) (Wk.mk' [some 0] rfl rfl (.eqs rfl) ⟨⟨_, rfl, .box rfl (.eq rfl)⟩, trivial⟩ rfl)
end Go.Proofs.Ytliikemkgfjpaaa
