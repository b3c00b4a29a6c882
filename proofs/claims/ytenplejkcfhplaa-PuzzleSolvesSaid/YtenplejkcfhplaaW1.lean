/- The walks: each Go function does what its verification condition says (written by a program of the prover). -/
import Derived.Test.YtenplejkcfhplaaW0
import Derived.KernelRfl
set_option maxRecDepth 100000
set_option maxHeartbeats 8000000
set_option linter.unusedVariables false
namespace Go.Proofs.Ytenplejkcfhplaa
open Go Go.Taq
theorem T_taquinlaw26_PuzzleSolves (f : ApiFloor) (r : List Int) (l : ApiLayout) (goal : Int) (post : Bool → Prop) (hm : V_taquinlaw26_PuzzleSolves f r l goal post) :
    Tr Try.prog 5 [.agg (eApiFloor f), .sl 1 eI r, .agg [.sl 1 eB l.Full, .i l.Target], .i goal] [] 0 (fun A H' k => ∃ y, post y ∧ A = (.b y) ∧ H' = [] ∧ k = 0) := by
 refine Tr.intro (n := 197) Try.func5 rfl Try.ntmps5 rfl (fun w0 ok F β hβ => ?_)
 unfold V_taquinlaw26_PuzzleSolves at hm
 refine C.seq (U.start ?_)
 refine U.e1 (o := _) rfl (.none rfl) (by exact Eff1.box rfl rfl rfl rfl rfl) ?_
 refine U.e1 (o := _) rfl (.none rfl) (by exact Eff1.box rfl rfl rfl rfl rfl) ?_
 refine U.ps 1 T rfl ?_
 refine U.done (C.nx (C.seq (U.start ?_)))
 refine U.e (o := _) rfl (.none rfl) (by exact Eff.c [] (v := true) (T_taquinlaw26_small _ hm) en8 rfl rfl rfl (.eq rfl) trivial rfl rfl rfl rfl rfl rfl (fun _ _ => ⟨(.v _), trivial⟩) (.inr ⟨rfl, rfl⟩) (fun _ => rfl) (fun _ => rfl) rfl) (fun x5' hm => ?_)
 obtain ⟨x5⟩ := x5'
 refine U.ps 1 T rfl ?_
 refine U.done (C.nx (C.seq (C.seq ?_)))
 refine C.jn (fun (x6 : Bool) => [(1, .sl 1 eI r), (3, .i goal), (4, .p 0 0), (6, .p 1 0), (9, .b x5), (34, .b x6)]) (fun (x6 : Bool) => [(0, .box (eApiFloor f)), (1, .box [.sl 1 eB l.Full, .i l.Target])]) 2 hm (fun x6 hm => ?_) (fun J7 hm hJ7 => ?_)
 ·refine C.nx ?_
  refine C.ite rfl hm (fun hb10 hm => ?_) (fun hb10 hm => ?_)
  ·refine C.seq (U.start ?_)
   refine U.ps 2 T rfl ?_
   refine U.done (C.nx (C.ret (C.rt ?_)))
   exact C.fin T (rs' := [.b x5]) (H' := []) (nl' := 0) [] rfl rfl (.eq rfl) trivial rfl rfl rfl rfl hβ ⟨x5, hm, rfl, rfl, rfl⟩
  ·refine C.skip (C.nx (C.seq ?_))
   refine D.beg 9999 [0, 1] [] mix rfl rfl (by kernel_rfl) (by repeat (first | exact NoPanicQ.body | refine NoPanicQ.th ?_ | refine NoPanicQ.blk ?_)) (fun hQ hS ws M' => ?_)
   refine D.ps 4 [(0, []), (1, []), (2, []), (4, [])] rfl hQ hS T rfl rfl (by kernel_rfl) ?_
   refine D.e (o := _) 3 rfl (.none rfl) (by exact Eff.c [] (v := true) (T_layout_Shelves l _ hm) en26 rfl rfl rfl (.eq rfl) trivial rfl rfl rfl rfl rfl rfl (fun _ _ => ⟨(.v _), trivial⟩) (.inr ⟨rfl, rfl⟩) (fun _ => rfl) (fun _ => rfl) rfl) (by kernel_rfl) rfl rfl (fun x15' hm => ?_)
   obtain ⟨x15⟩ := x15'
   refine D.e (o := _) 5 rfl (.none rfl) (by exact Eff.c [] (v := true) (T_puzzle_Table f r x15 goal _ hm) en10 rfl rfl rfl (.eq rfl) trivial rfl rfl rfl rfl rfl rfl (fun _ _ => ⟨(.tup (.cons (.o _) (.cons (.v _) .nil))), ⟨.val (.os _ _ _ fun _ => (.cons (.v _) .nil)), trivial⟩⟩) (.inr ⟨rfl, rfl⟩) (fun _ => rfl) (fun _ => rfl) rfl) (by kernel_rfl) rfl rfl (fun x16' hm => ?_)
   obtain ⟨x16⟩ := x16'
   refine D.ps 5 [(6, []), (7, []), (8, []), (9, []), (10, [])] rfl hQ hS T rfl rfl (by kernel_rfl) ?_
   refine D.done (by kernel_rfl) ?_
   refine C.nx (C.seq (U.start ?_))
   refine U.ps 4 T rfl ?_
   refine U.e (o := _) rfl (.none rfl) (by exact Eff.c [] (v := true) (T_puzzle_Least f r l goal _ hm) en12 rfl rfl rfl (.eq rfl) trivial rfl rfl rfl rfl rfl rfl (fun _ _ => ⟨(.tup (.cons (.v _) (.cons (.v _) .nil))), trivial⟩) (.inr ⟨rfl, rfl⟩) (fun _ => rfl) (fun _ => rfl) rfl) (fun x19' hm => ?_)
   obtain ⟨x19⟩ := x19'
   refine U.ps 5 T rfl ?_
   refine U.done (C.nx (C.seq (U.start ?_)))
   refine U.ps 4 T rfl ?_
   refine U.e (o := _) rfl (.none rfl) (by exact Eff.c [] (v := true) (T_puzzle_Solve f r l goal _ hm) en14 rfl rfl rfl (.eq rfl) trivial rfl rfl rfl rfl rfl rfl (fun _ _ => ⟨(.tup (.cons (.o _) (.cons (.v _) .nil))), ⟨.val (.os _ _ _ fun _ => (.cons (.v _) (.cons (.v _) .nil))), trivial⟩⟩) (.inr ⟨rfl, rfl⟩) (fun _ => rfl) (fun _ => rfl) rfl) (fun x22' hm => ?_)
   obtain ⟨x22⟩ := x22'
   refine U.ps 5 T rfl ?_
   refine U.done (C.nx (C.seq (C.seq ?_)))
   refine C.jn (fun (x23 : Bool) => [(1, .sl 1 eI r), (3, .i goal), (4, .p 0 0), (6, .p 1 0), (9, .b x5), (10, .o 2), (11, .i x16.2), (12, .i x19.1), (13, .i x19.2), (14, .o 3), (76, .b x23)]) (fun (x23 : Bool) => [(0, .box (eApiFloor f)), (1, .box [.sl 1 eB l.Full, .i l.Target]), (2, .val (.os 1 eI x16.1)), (3, .val (.os 2 eApiShift x22.1))]) 4 hm (fun x23 hm => ?_) (fun J24 hm hJ24 => ?_)
   ·refine C.nx ?_
    refine C.ite rfl hm (fun hb28 hm => ?_) (fun hb28 hm => ?_)
    ·refine C.seq (U.start ?_)
     refine U.ps 1 T rfl ?_
     refine U.done (C.nx (C.ret (C.rt ?_)))
     exact C.fin T (rs' := [.b false]) (H' := []) (nl' := 0) [] rfl rfl (.eq rfl) trivial rfl rfl rfl rfl hβ ⟨false, hm, rfl, rfl, rfl⟩
    ·refine C.skip (C.nx (C.seq (C.seq (U.start ?_))))
     refine U.ps 2 T rfl ?_
     refine U.done (C.nx ?_)
     refine C.ite rfl hm (fun hb33 hm => ?_) (fun hb33 hm => ?_)
     ·refine C.seq ?_
      refine C.jn (fun (x34 : Bool) => [(8, .b x34)]) (fun (x34 : Bool) => []) 0 hm (fun x34 hm => ?_) (fun J35 hm hJ35 => ?_)
      ·refine C.nx (C.ret (C.rt ?_))
       exact C.fin T (rs' := [.b x34]) (H' := []) (nl' := 0) [] rfl rfl (.eq rfl) trivial rfl rfl rfl rfl hβ ⟨x34, hm, rfl, rfl, rfl⟩
      ·refine U.start ?_
       refine U.ps 2 T rfl ?_
       refine hm.cs (fun hb36 hm => ?_) (fun hb36 hm => ?_)
       ·refine U.pg 3 1 true 80 hb36 T rfl rfl rfl rfl ?_
        refine U.r (o := _) rfl (.none rfl) rfl rfl (by exact Rd.pk rfl rfl hb36 rfl) ?_
        refine U.ps 1 T rfl ?_
        refine U.done ?_
        exact St.wk (hJ35 _ hm) (Wk.mk' [] rfl rfl (.eqs rfl) trivial rfl)
       ·refine U.sks 3 1 true 80 hb36 rfl rfl rfl ?_
        refine U.r (o := _) rfl (.none rfl) rfl rfl (by exact Rd.pk' rfl rfl hb36 rfl) ?_
        refine U.ps 1 T rfl ?_
        refine U.done ?_
        exact St.wk (hJ35 _ hm) (Wk.mk' [] rfl rfl (.eqs rfl) trivial rfl)
     ·refine C.skip (C.nx (C.seq (U.start ?_)))
      refine U.ps 1 T rfl ?_
      refine U.e (o := _) rfl (.none rfl) (by exact Eff.c [] (v := true) (T_layout_Rank l _ hm) en25 rfl rfl rfl (.eq rfl) trivial rfl rfl rfl rfl rfl rfl (fun _ _ => ⟨(.v _), trivial⟩) (.inr ⟨rfl, rfl⟩) (fun _ => rfl) (fun _ => rfl) rfl) (fun x39' hm => ?_)
      obtain ⟨x39⟩ := x39'
      refine U.ps 1 T rfl ?_
      refine U.done (C.nx (C.seq (C.seq ?_)))
      refine C.jn (fun (x40 : Bool) => [(1, .sl 1 eI r), (3, .i goal), (4, .p 0 0), (6, .p 1 0), (9, .b x5), (10, .o 2), (12, .i x19.1), (13, .i x19.2), (14, .o 3), (16, .i x39), (94, .b x40)]) (fun (x40 : Bool) => [(0, .box (eApiFloor f)), (1, .box [.sl 1 eB l.Full, .i l.Target]), (2, .val (.os 1 eI x16.1)), (3, .val (.os 2 eApiShift x22.1))]) 4 hm (fun x40 hm => ?_) (fun J41 hm hJ41 => ?_)
      ·refine C.nx ?_
       refine C.ite rfl hm (fun hb43 hm => ?_) (fun hb43 hm => ?_)
       ·refine C.seq (U.start ?_)
        refine U.ps 1 T rfl ?_
        refine U.done (C.nx (C.ret (C.rt ?_)))
        exact C.fin T (rs' := [.b false]) (H' := []) (nl' := 0) [] rfl rfl (.eq rfl) trivial rfl rfl rfl rfl hβ ⟨false, hm, rfl, rfl, rfl⟩
       ·refine C.skip (C.nx (C.seq (C.seq (U.start ?_))))
        refine U.ps 2 T rfl ?_
        obtain ⟨x48, hx48, hm⟩ := hm
        refine U.r (o := _) rfl (.none rfl) rfl rfl (by exact Rd.io T rfl rfl rfl rfl rfl rfl rfl hx48) ?_
        refine U.r (o := _) rfl (.none rfl) rfl rfl (by exact Rd.le T rfl rfl rfl (idx_some hx48).2.2 rfl rfl rfl) ?_
        refine U.ps 1 T rfl ?_
        refine U.done (C.nx ?_)
        refine C.ite rfl hm (fun hb49 hm => ?_) (fun hb49 hm => ?_)
        ·refine C.seq ?_
         refine C.jn (fun (x50 : Bool) => [(8, .b x50)]) (fun (x50 : Bool) => []) 0 hm (fun x50 hm => ?_) (fun J51 hm hJ51 => ?_)
         ·refine C.nx (C.ret (C.rt ?_))
          exact C.fin T (rs' := [.b x50]) (H' := []) (nl' := 0) [] rfl rfl (.eq rfl) trivial rfl rfl rfl rfl hβ ⟨x50, hm, rfl, rfl, rfl⟩
         ·refine U.start ?_
          refine U.ps 2 T rfl ?_
          refine hm.cs (fun hb52 hm => ?_) (fun hb52 hm => ?_)
          ·refine U.pg 2 1 true 101 hb52 T rfl rfl rfl rfl ?_
           refine U.r (o := _) rfl (.none rfl) rfl rfl (by exact Rd.pk rfl rfl hb52 rfl) ?_
           refine U.ps 1 T rfl ?_
           refine U.done ?_
           exact St.wk (hJ51 _ hm) (Wk.mk' [] rfl rfl (.eqs rfl) trivial rfl)
          ·refine U.sks 2 1 true 101 hb52 rfl rfl rfl ?_
           refine U.r (o := _) rfl (.none rfl) rfl rfl (by exact Rd.pk' rfl rfl hb52 rfl) ?_
           refine U.ps 1 T rfl ?_
           refine U.done ?_
           exact St.wk (hJ51 _ hm) (Wk.mk' [] rfl rfl (.eqs rfl) trivial rfl)
        ·refine C.skip (C.nx (C.seq (C.seq ?_)))
         refine C.jn (fun (x53 : Bool) => [(1, .sl 1 eI r), (3, .i goal), (4, .p 0 0), (6, .p 1 0), (9, .b x5), (10, .o 2), (12, .i x19.1), (14, .o 3), (120, .b x53)]) (fun (x53 : Bool) => [(0, .box (eApiFloor f)), (1, .box [.sl 1 eB l.Full, .i l.Target]), (2, .val (.os 1 eI x16.1)), (3, .val (.os 2 eApiShift x22.1))]) 4 hm (fun x53 hm => ?_) (fun J54 hm hJ54 => ?_)
         ·refine C.nx ?_
          refine C.ite rfl hm (fun hb57 hm => ?_) (fun hb57 hm => ?_)
          ·refine C.seq (U.start ?_)
           refine U.ps 1 T rfl ?_
           refine U.done (C.nx (C.ret (C.rt ?_)))
           exact C.fin T (rs' := [.b false]) (H' := []) (nl' := 0) [] rfl rfl (.eq rfl) trivial rfl rfl rfl rfl hβ ⟨false, hm, rfl, rfl, rfl⟩
          ·refine C.skip (C.nx (C.seq (C.seq (U.start ?_))))
           refine U.ps 1 T rfl ?_
           refine U.done (C.nx ?_)
           refine C.jn (fun (x62 : List Bool × Int) => [(3, .i goal), (6, .p 0 0), (9, .b x5)]) (fun (x62 : List Bool × Int) => [(0, .box [.sl 1 eB x62.1, .i x62.2])]) 1 hm (fun x62 hm => ?_) (fun J63 hm hJ63 => ?_)
           ·refine C.nx (C.seq ?_)
            refine C.jn (fun (x126 : Bool) => [(8, .b x126)]) (fun (x126 : Bool) => []) 0 hm (fun x126 hm => ?_) (fun J127 hm hJ127 => ?_)
            ·refine C.nx (C.ret ?_)
             exact C.fin T (rs' := [.b x126]) (H' := []) (nl' := 0) [] rfl rfl (.eq rfl) trivial rfl rfl rfl rfl hβ ⟨x126, hm, rfl, rfl, rfl⟩
            ·refine U.start ?_
             refine U.ps 2 T rfl ?_
             refine hm.cs (fun hb128 hm => ?_) (fun hb128 hm => ?_)
             ·refine U.pg 4 1 true 191 hb128 T rfl rfl rfl rfl ?_
              refine U.r (o := _) rfl (.none rfl) rfl rfl (by exact Rd.pk rfl rfl hb128 rfl) ?_
              refine U.ps 1 T rfl ?_
              refine U.done ?_
              exact St.wk (hJ127 _ hm) (Wk.mk' [] rfl rfl (.eqs rfl) trivial rfl)
             ·refine U.sks 4 1 true 191 hb128 rfl rfl rfl ?_
              refine U.r (o := _) rfl (.none rfl) rfl rfl (by exact Rd.pk' rfl rfl hb128 rfl) ?_
              refine U.ps 1 T rfl ?_
              refine U.done ?_
              exact St.wk (hJ127 _ hm) (Wk.mk' [] rfl rfl (.eqs rfl) trivial rfl)
           ·refine C.block ?_
            refine St.wk (C.loop (fun (s64 : List Bool × Int × Int) => [(1, .sl 1 eI r), (3, .i goal), (4, .p 0 0), (6, .p 1 0), (9, .b x5), (10, .o 2), (12, .i x19.1), (14, .o 3), (17, .i s64.2.2)]) (fun (s64 : List Bool × Int × Int) => [(0, .box (eApiFloor f)), (1, .box [.sl 1 eB s64.1, .i s64.2.1]), (2, .val (.os 1 eI x16.1)), (3, .val (.os 2 eApiShift x22.1))]) hm (fun s64 Y65 hm => ?_)) (Wk.mk' [some 0, some 1, some 2, some 3] rfl rfl (.eqs rfl) ⟨⟨_, rfl, .box rfl (.eq rfl)⟩, ⟨_, rfl, .box rfl (.eq rfl)⟩, ⟨_, rfl, .val rfl⟩, ⟨_, rfl, .val rfl⟩, trivial⟩ rfl)
            refine C.seq (C.seq (U.start ?_))
            refine U.ps 4 T rfl ?_
            refine U.done (C.nx ?_)
            refine C.ite rfl hm (fun hb68 hm => ?_) (fun hb68 hm => ?_)
            ·refine C.skip (C.nx (C.seq ?_))
             refine C.jn (fun (x69 : List Bool × Int) => [(1, .sl 1 eI r), (3, .i goal), (4, .p 0 0), (6, .p 1 0), (9, .b x5), (10, .o 3), (12, .i x19.1), (14, .o 4), (17, .i s64.2.2)]) (fun (x69 : List Bool × Int) => [(0, .box (eApiFloor f)), (1, .box [.o 2, .i x69.2]), (2, .val (.os 1 eB x69.1)), (3, .val (.os 1 eI x16.1)), (4, .val (.os 2 eApiShift x22.1))]) 5 hm (fun x69 hm => ?_) (fun J70 hm hJ70 => ?_)
             ·refine C.nx (U.start ?_)
              refine U.ps 3 T rfl ?_
              refine U.done (C.nx ?_)
              exact St.wk (C.next hm) (Wk.mk' [some 0, some 1, some 3, some 4] rfl rfl (.eqs rfl) ⟨⟨_, rfl, .box rfl (.eq rfl)⟩, ⟨_, rfl, .box rfl (.cons (.fz rfl rfl rfl (.os fun _ => .cons (.ro rfl) .nil)) (.eq rfl))⟩, ⟨_, rfl, .val rfl⟩, ⟨_, rfl, .val rfl⟩, trivial⟩ rfl)
             ·refine C.block (C.seq (U.start ?_))
              refine U.ps 3 T rfl ?_
              refine U.e (o := _) rfl (.none rfl) (by exact Eff.c [] (v := true) (T_layout_Shifts f r ({ Full := s64.1, Target := s64.2.1 : ApiLayout }) _ hm) en23 rfl rfl rfl (.eq rfl) trivial rfl rfl rfl rfl rfl rfl (fun _ _ => ⟨(.o _), ⟨.val (.os _ _ _ fun _ => (.cons (.v _) (.cons (.v _) .nil))), trivial⟩⟩) (.inr ⟨rfl, rfl⟩) (fun _ => rfl) (fun _ => rfl) rfl) (fun x73' hm => ?_)
              obtain ⟨x73⟩ := x73'
              refine U.ps 1 T rfl ?_
              refine U.done (C.nx (C.seq (U.start ?_)))
              refine U.ps 1 T rfl ?_
              refine U.done (C.nx (C.seq (C.seq (U.start ?_))))
              refine U.ps 1 T rfl ?_
              refine U.done (C.nx ?_)
              refine C.jn (fun (x78 : Int) => [(1, .sl 1 eI r), (3, .i goal), (4, .p 0 0), (6, .p 1 0), (9, .b x5), (10, .o 2), (12, .i x19.1), (14, .o 3), (17, .i s64.2.2), (18, .o 4), (19, .i x78)]) (fun (x78 : Int) => [(0, .box (eApiFloor f)), (1, .box [.sl 1 eB s64.1, .i s64.2.1]), (2, .val (.os 1 eI x16.1)), (3, .val (.os 2 eApiShift x22.1)), (4, .val (.os 2 eApiShift x73))]) 5 hm (fun x78 hm => ?_) (fun J79 hm hJ79 => ?_)
              ·refine C.nx (C.seq (C.seq (U.start ?_)))
               refine U.ps 2 T rfl ?_
               refine U.done (C.nx ?_)
               refine C.ite rfl hm (fun hb111 hm => ?_) (fun hb111 hm => ?_)
               ·refine C.seq (U.start ?_)
                refine U.ps 1 T rfl ?_
                refine U.done (C.nx (C.ret (C.rt (C.brt (C.rt (C.rt (C.brt (C.rt ?_))))))))
                exact C.fin T (rs' := [.b false]) (H' := []) (nl' := 0) [] rfl rfl (.eq rfl) trivial rfl rfl rfl rfl hβ ⟨false, hm, rfl, rfl, rfl⟩
               ·refine C.skip (C.nx (C.seq (C.seq ?_)))
                refine D.beg 9999 [3, 4] [] mix rfl rfl (by kernel_rfl) (by repeat (first | exact NoPanicQ.body | refine NoPanicQ.th ?_ | refine NoPanicQ.blk ?_)) (fun hQ hS ws M' => ?_)
                refine D.ps 2 [(0, []), (1, [])] rfl hQ hS T rfl rfl (by kernel_rfl) ?_
                obtain ⟨x116, hx116, hm⟩ := hm
                refine D.q (o := _) 2 [] hQ hS rfl (.none rfl) rfl rfl (by exact Rd.io T rfl rfl rfl rfl rfl rfl rfl hx116) rfl (by kernel_rfl) ?_
                refine D.q (o := _) 3 [] hQ hS rfl (.none rfl) rfl rfl (by exact Rd.le T rfl rfl rfl (idx_some hx116).2.2 rfl rfl rfl) rfl (by kernel_rfl) ?_
                refine D.ps 2 [(4, []), (5, [])] rfl hQ hS T rfl rfl (by kernel_rfl) ?_
                obtain ⟨x117, hx117, hm⟩ := hm
                refine D.q (o := _) 6 [] hQ hS rfl (.none rfl) rfl rfl (by exact Rd.io T rfl rfl rfl rfl rfl rfl rfl hx117) rfl (by kernel_rfl) ?_
                refine D.q (o := _) 7 [] hQ hS rfl (.none rfl) rfl rfl (by exact Rd.le T rfl rfl rfl (idx_some hx117).2.2 rfl rfl rfl) rfl (by kernel_rfl) ?_
                refine D.q (o := _) 8 [] hQ hS rfl (.none rfl) rfl rfl (by exact Rd.nes T rfl rfl eqt51 rfl rfl rfl) rfl (by kernel_rfl) ?_
                refine D.done (by kernel_rfl) ?_
                refine C.nx ?_
                refine C.ite rfl hm (fun hb118 hm => ?_) (fun hb118 hm => ?_)
                ·refine C.seq (U.start ?_)
                 refine U.ps 1 T rfl ?_
                 refine U.done (C.nx (C.ret (C.rt (C.brt (C.rt (C.rt (C.brt (C.rt ?_))))))))
                 exact C.fin T (rs' := [.b false]) (H' := []) (nl' := 0) [] rfl rfl (.eq rfl) trivial rfl rfl rfl rfl hβ ⟨false, hm, rfl, rfl, rfl⟩
                ·refine C.skip (C.nx ?_)
                 refine D.beg 9999 [3] [1] mix rfl rfl (by kernel_rfl) (by repeat (first | exact NoPanicQ.body | refine NoPanicQ.th ?_ | refine NoPanicQ.blk ?_)) (fun hQ hS ws M' => ?_)
                 refine D.ps 2 [(1, []), (2, [])] rfl hQ hS T rfl rfl (by kernel_rfl) ?_
                 refine D.q (o := _) 3 [] hQ hS rfl (.none rfl) rfl rfl (by exact Rd.io T rfl rfl rfl rfl rfl rfl rfl hx117) rfl (by kernel_rfl) ?_
                 refine D.q (o := _) 4 [] hQ hS rfl (.none rfl) rfl rfl (by exact Rd.le T rfl rfl rfl (idx_some hx117).2.2 rfl rfl rfl) rfl (by kernel_rfl) ?_
                 refine D.e1 (o := _) 0 rfl (.none rfl) (by exact Eff1.rd rfl rfl (Rd.l T rfl rfl rfl)) (by kernel_rfl) rfl rfl ?_
                 refine D.e (o := _) 5 rfl (.none rfl) (by exact Eff.c [] (v := true) (T_layout_Do ({ Full := s64.1, Target := s64.2.1 : ApiLayout }) x117 _ hm) en24 rfl rfl rfl (.eq rfl) trivial rfl rfl rfl rfl rfl rfl (fun _ _ => ⟨(.tup (.cons (.agg (.cons (.o _) (.cons (.v _) .nil))) (.cons (.v _) .nil))), ⟨.val (.os _ _ _ fun _ => (.cons (.v _) .nil)), trivial⟩⟩) (.inr ⟨rfl, rfl⟩) (fun _ => rfl) (fun _ => rfl) rfl) (by kernel_rfl) rfl rfl (fun x123' hm => ?_)
                 obtain ⟨x123⟩ := x123'
                 refine D.ps 3 [(6, []), (7, []), (8, [])] rfl hQ hS T rfl rfl (by kernel_rfl) ?_
                 refine D.e1 (o := _) 9 rfl (.none rfl) (by exact Eff1.st T rfl rfl rfl rfl rfl rfl rfl rfl rfl rfl) (by kernel_rfl) rfl rfl ?_
                 refine D.done (by kernel_rfl) ?_
                 refine C.bnx ?_
                 exact St.wk (hJ70 _ hm) (Wk.mk' [some 0, some 1, some 5, some 2, some 3] rfl rfl (.eqs rfl) ⟨⟨_, rfl, .box rfl (.eq rfl)⟩, ⟨_, rfl, .box rfl (.eq rfl)⟩, ⟨_, rfl, .val rfl⟩, ⟨_, rfl, .val rfl⟩, ⟨_, rfl, .val rfl⟩, trivial⟩ rfl)
              ·refine C.block ?_
               refine St.wk (C.loop (fun (s80 : Int × Int) => [(1, .sl 1 eI r), (3, .i goal), (4, .p 0 0), (6, .p 1 0), (9, .b x5), (10, .o 2), (12, .i x19.1), (14, .o 3), (17, .i s64.2.2), (18, .o 4), (19, .i s80.1), (20, .i s80.2)]) (fun (s80 : Int × Int) => [(0, .box (eApiFloor f)), (1, .box [.sl 1 eB s64.1, .i s64.2.1]), (2, .val (.os 1 eI x16.1)), (3, .val (.os 2 eApiShift x22.1)), (4, .val (.os 2 eApiShift x73))]) hm (fun s80 Y81 hm => ?_)) (Wk.mk' [some 0, some 1, some 2, some 3, some 4] rfl rfl (.eqs rfl) ⟨⟨_, rfl, .box rfl (.eq rfl)⟩, ⟨_, rfl, .box rfl (.eq rfl)⟩, ⟨_, rfl, .val rfl⟩, ⟨_, rfl, .val rfl⟩, ⟨_, rfl, .val rfl⟩, trivial⟩ rfl)
               refine C.seq (C.seq ?_)
               refine C.jn (fun (x82 : Bool) => [(1, .sl 1 eI r), (3, .i goal), (4, .p 0 0), (6, .p 1 0), (9, .b x5), (10, .o 2), (12, .i x19.1), (14, .o 3), (17, .i s64.2.2), (18, .o 4), (19, .i s80.1), (20, .i s80.2), (138, .b x82)]) (fun (x82 : Bool) => [(0, .box (eApiFloor f)), (1, .box [.sl 1 eB s64.1, .i s64.2.1]), (2, .val (.os 1 eI x16.1)), (3, .val (.os 2 eApiShift x22.1)), (4, .val (.os 2 eApiShift x73))]) 5 hm (fun x82 hm => ?_) (fun J83 hm hJ83 => ?_)
               ·refine C.nx ?_
                refine C.ite rfl hm (fun hb85 hm => ?_) (fun hb85 hm => ?_)
                ·refine C.skip (C.nx (C.seq (C.block (C.seq ?_))))
                 refine C.jn (fun (x86 : List Bool × Int) => [(1, .sl 1 eI r), (3, .i goal), (4, .p 0 0), (6, .p 1 0), (9, .b x5), (10, .o 2), (12, .i x19.1), (14, .o 3), (17, .i s64.2.2), (18, .o 4), (19, .i s80.1), (20, .i s80.2), (21, .p 5 0)]) (fun (x86 : List Bool × Int) => [(0, .box (eApiFloor f)), (1, .box [.sl 1 eB s64.1, .i s64.2.1]), (2, .val (.os 1 eI x16.1)), (3, .val (.os 2 eApiShift x22.1)), (4, .val (.os 2 eApiShift x73)), (5, .box [.o 6, .i x86.2]), (6, .val (.os 1 eB x86.1))]) 7 hm (fun x86 hm => ?_) (fun J87 hm hJ87 => ?_)
                 ·refine C.nx (C.seq (U.start ?_))
                  refine U.ps 1 T rfl ?_
                  refine U.e (o := _) rfl (.none rfl) (by exact Eff.c [] (v := true) (T_layout_Rank ({ Full := x86.1, Target := x86.2 : ApiLayout }) _ hm) en25 rfl rfl rfl (.cons (.agg (.cons (.fz rfl rfl rfl (.os fun _ => .cons (.ro rfl) .nil)) (.eq rfl))) .nil) trivial rfl rfl rfl rfl rfl rfl (fun _ _ => ⟨(.v _), trivial⟩) (.inr ⟨rfl, rfl⟩) (fun _ => rfl) (fun _ => rfl) rfl) (fun x92' hm => ?_)
                  obtain ⟨x92⟩ := x92'
                  refine U.ps 1 T rfl ?_
                  refine U.done (C.nx (C.seq (C.seq ?_)))
                  refine C.jn (fun (x93 : Bool) => [(1, .sl 1 eI r), (3, .i goal), (4, .p 0 0), (6, .p 1 0), (9, .b x5), (10, .o 2), (12, .i x19.1), (14, .o 3), (17, .i s64.2.2), (18, .o 4), (19, .i s80.1), (20, .i s80.2), (23, .i x92), (159, .b x93)]) (fun (x93 : Bool) => [(0, .box (eApiFloor f)), (1, .box [.sl 1 eB s64.1, .i s64.2.1]), (2, .val (.os 1 eI x16.1)), (3, .val (.os 2 eApiShift x22.1)), (4, .val (.os 2 eApiShift x73))]) 5 hm (fun x93 hm => ?_) (fun J94 hm hJ94 => ?_)
                  ·refine C.nx ?_
                   refine C.ite rfl hm (fun hb96 hm => ?_) (fun hb96 hm => ?_)
                   ·refine C.seq (U.start ?_)
                    refine U.ps 1 T rfl ?_
                    refine U.done (C.nx (C.ret (C.rt (C.brt (C.rt (C.rt (C.brt (C.rt (C.brt (C.rt (C.rt (C.brt (C.rt ?_)))))))))))))
                    exact C.fin T (rs' := [.b false]) (H' := []) (nl' := 0) [] rfl rfl (.eq rfl) trivial rfl rfl rfl rfl hβ ⟨false, hm, rfl, rfl, rfl⟩
                   ·refine C.skip (C.nx (C.seq (U.start ?_)))
                    refine U.ps 2 T rfl ?_
                    obtain ⟨x101, hx101, hm⟩ := hm
                    refine U.r (o := _) rfl (.none rfl) rfl rfl (by exact Rd.io T rfl rfl rfl rfl rfl rfl rfl hx101) ?_
                    refine U.r (o := _) rfl (.none rfl) rfl rfl (by exact Rd.le T rfl rfl rfl (idx_some hx101).2.2 rfl rfl rfl) ?_
                    refine U.ps 5 T rfl ?_
                    refine U.done (C.nx ?_)
                    refine C.jn (fun (x102 : Int) => [(1, .sl 1 eI r), (3, .i goal), (4, .p 0 0), (6, .p 1 0), (9, .b x5), (10, .o 2), (12, .i x19.1), (14, .o 3), (17, .i s64.2.2), (18, .o 4), (19, .i x102), (20, .i s80.2)]) (fun (x102 : Int) => [(0, .box (eApiFloor f)), (1, .box [.sl 1 eB s64.1, .i s64.2.1]), (2, .val (.os 1 eI x16.1)), (3, .val (.os 2 eApiShift x22.1)), (4, .val (.os 2 eApiShift x73))]) 5 hm (fun x102 hm => ?_) (fun J103 hm hJ103 => ?_)
                    ·refine C.bnx (C.nx (U.start ?_))
                     refine U.ps 3 T rfl ?_
                     refine U.done (C.nx ?_)
                     exact St.wk (C.next hm) (Wk.mk' [some 0, some 1, some 2, some 3, some 4] rfl rfl (.eqs rfl) ⟨⟨_, rfl, .box rfl (.eq rfl)⟩, ⟨_, rfl, .box rfl (.eq rfl)⟩, ⟨_, rfl, .val rfl⟩, ⟨_, rfl, .val rfl⟩, ⟨_, rfl, .val rfl⟩, trivial⟩ rfl)
                    ·refine C.ite rfl hm (fun hb104 hm => ?_) (fun hb104 hm => ?_)
                     ·refine U.start ?_
                      refine U.ps 2 T rfl ?_
                      refine U.done ?_
                      exact St.wk (hJ103 _ hm) (Wk.mk' [some 0, some 1, some 2, some 3, some 4] rfl rfl (.eqs rfl) ⟨⟨_, rfl, .box rfl (.eq rfl)⟩, ⟨_, rfl, .box rfl (.eq rfl)⟩, ⟨_, rfl, .val rfl⟩, ⟨_, rfl, .val rfl⟩, ⟨_, rfl, .val rfl⟩, trivial⟩ rfl)
                     ·refine C.skip ?_
                      exact St.wk (hJ103 _ hm) (Wk.mk' [some 0, some 1, some 2, some 3, some 4] rfl rfl (.eqs rfl) ⟨⟨_, rfl, .box rfl (.eq rfl)⟩, ⟨_, rfl, .box rfl (.eq rfl)⟩, ⟨_, rfl, .val rfl⟩, ⟨_, rfl, .val rfl⟩, ⟨_, rfl, .val rfl⟩, trivial⟩ rfl)
                  ·refine U.start ?_
                   refine U.ps 3 T rfl ?_
                   refine hm.cs (fun hb95 hm => ?_) (fun hb95 hm => ?_)
                   ·refine U.sks 4 2 false 154 hb95 rfl rfl rfl ?_
                    refine U.r (o := _) rfl (.none rfl) rfl rfl (by exact Rd.pk rfl rfl hb95 rfl) ?_
                    refine U.done ?_
                    exact St.wk (hJ94 _ hm) (Wk.mk' [some 0, some 1, some 2, some 3, some 4] rfl rfl (.eqs rfl) ⟨⟨_, rfl, .box rfl (.eq rfl)⟩, ⟨_, rfl, .box rfl (.eq rfl)⟩, ⟨_, rfl, .val rfl⟩, ⟨_, rfl, .val rfl⟩, ⟨_, rfl, .val rfl⟩, trivial⟩ rfl)
                   ·refine U.pg 4 2 false 154 hb95 T rfl rfl rfl rfl ?_
                    refine U.r (o := _) rfl (.none rfl) rfl rfl (by exact Rd.pk' rfl rfl hb95 rfl) ?_
                    refine U.done ?_
                    exact St.wk (hJ94 _ hm) (Wk.mk' [some 0, some 1, some 2, some 3, some 4] rfl rfl (.eqs rfl) ⟨⟨_, rfl, .box rfl (.eq rfl)⟩, ⟨_, rfl, .box rfl (.eq rfl)⟩, ⟨_, rfl, .val rfl⟩, ⟨_, rfl, .val rfl⟩, ⟨_, rfl, .val rfl⟩, trivial⟩ rfl)
                 ·refine D.beg 9999 [1, 4] [5, 6] mix rfl rfl (by kernel_rfl) (by repeat (first | exact NoPanicQ.body | refine NoPanicQ.th ?_ | refine NoPanicQ.blk ?_)) (fun hQ hS ws M' => ?_)
                  refine D.ps 3 [(0, []), (1, []), (2, [])] rfl hQ hS T rfl rfl (by kernel_rfl) ?_
                  obtain ⟨x88, hx88, hm⟩ := hm
                  refine D.q (o := _) 3 [] hQ hS rfl (.none rfl) rfl rfl (by exact Rd.io T rfl rfl rfl rfl rfl rfl rfl hx88) rfl (by kernel_rfl) ?_
                  refine D.q (o := _) 4 [] hQ hS rfl (.none rfl) rfl rfl (by exact Rd.le T rfl rfl rfl (idx_some hx88).2.2 rfl rfl rfl) rfl (by kernel_rfl) ?_
                  refine D.two 5 9 (by kernel_rfl) ?_ ?_
                  ·refine D.ef (o := _) rfl (.none rfl) (by exact Eff.c [] (v := true) (T_layout_Do ({ Full := s64.1, Target := s64.2.1 : ApiLayout }) x88 _ hm) en24 rfl rfl rfl (.eq rfl) trivial rfl rfl rfl rfl rfl rfl (fun _ _ => ⟨(.tup (.cons (.agg (.cons (.o _) (.cons (.v _) .nil))) (.cons (.v _) .nil))), ⟨.val (.os _ _ _ fun _ => (.cons (.v _) .nil)), trivial⟩⟩) (.inr ⟨rfl, rfl⟩) (fun _ => rfl) (fun _ => rfl) rfl) rfl rfl (fun x89' hm => ?_)
                   obtain ⟨x89⟩ := x89'
                   refine D.ps 3 [(6, []), (7, []), (8, [])] rfl hQ hS T rfl rfl (by kernel_rfl) ?_
                   refine D.e1 (o := _) 9 rfl (.none rfl) (by exact Eff1.al T rfl rfl rfl rfl) (by kernel_rfl) rfl rfl ?_
                   refine D.e1 (o := _) 10 rfl (.none rfl) (by exact Eff1.st T rfl rfl rfl rfl rfl rfl rfl rfl rfl rfl) (by kernel_rfl) rfl rfl ?_
                   refine D.ps 1 [(11, [])] rfl hQ hS T rfl rfl (by kernel_rfl) ?_
                   refine D.done (by kernel_rfl) ?_
                   exact St.wk (hJ87 _ hm) (Wk.mk' [some 0, some 1, some 2, some 3, some 4, some 6, some 5] rfl rfl (.eqs rfl) ⟨⟨_, rfl, .box rfl (.eq rfl)⟩, ⟨_, rfl, .box rfl (.eq rfl)⟩, ⟨_, rfl, .val rfl⟩, ⟨_, rfl, .val rfl⟩, ⟨_, rfl, .val rfl⟩, ⟨_, rfl, .box rfl (.eq rfl)⟩, ⟨_, rfl, .val rfl⟩, trivial⟩ rfl)
                  ·refine D.ef1 (o := _) rfl (.none rfl) (by exact Eff1.al T rfl rfl rfl rfl) rfl rfl ?_
                   refine D.e (o := _) 5 rfl (.none rfl) (by exact Eff.c [] (v := true) (T_layout_Do ({ Full := s64.1, Target := s64.2.1 : ApiLayout }) x88 _ hm) en24 rfl rfl rfl (.eq rfl) trivial rfl rfl rfl rfl rfl rfl (fun _ _ => ⟨(.tup (.cons (.agg (.cons (.o _) (.cons (.v _) .nil))) (.cons (.v _) .nil))), ⟨.val (.os _ _ _ fun _ => (.cons (.v _) .nil)), trivial⟩⟩) (.inr ⟨rfl, rfl⟩) (fun _ => rfl) (fun _ => rfl) rfl) (by kernel_rfl) rfl rfl (fun x89' hm => ?_)
                   obtain ⟨x89⟩ := x89'
                   refine D.ps 3 [(6, []), (7, []), (8, [])] rfl hQ hS T rfl rfl (by kernel_rfl) ?_
                   refine D.e1 (o := _) 10 rfl (.none rfl) (by exact Eff1.st T rfl rfl rfl rfl rfl rfl rfl rfl rfl rfl) (by kernel_rfl) rfl rfl ?_
                   refine D.ps 1 [(11, [])] rfl hQ hS T rfl rfl (by kernel_rfl) ?_
                   refine D.done (by kernel_rfl) ?_
                   exact St.wk (hJ87 _ hm) (Wk.mk' [some 0, some 1, some 2, some 3, some 4, some 5, some 6] rfl rfl (.eqs rfl) ⟨⟨_, rfl, .box rfl (.eq rfl)⟩, ⟨_, rfl, .box rfl (.eq rfl)⟩, ⟨_, rfl, .val rfl⟩, ⟨_, rfl, .val rfl⟩, ⟨_, rfl, .val rfl⟩, ⟨_, rfl, .box rfl (.eq rfl)⟩, ⟨_, rfl, .val rfl⟩, trivial⟩ rfl)
                ·refine C.exit (C.ex (C.ex (C.bex ?_)))
                 exact St.wk (hJ79 _ hm) (Wk.mk' [some 0, some 1, some 2, some 3, some 4] rfl rfl (.eqs rfl) ⟨⟨_, rfl, .box rfl (.eq rfl)⟩, ⟨_, rfl, .box rfl (.eq rfl)⟩, ⟨_, rfl, .val rfl⟩, ⟨_, rfl, .val rfl⟩, ⟨_, rfl, .val rfl⟩, trivial⟩ rfl)
               ·refine U.start ?_
                refine U.ps 5 T rfl ?_
                refine hm.cs (fun hb84 hm => ?_) (fun hb84 hm => ?_)
                ·refine U.pg 2 4 true 135 hb84 T rfl rfl rfl rfl ?_
                 refine U.r (o := _) rfl (.none rfl) rfl rfl (by exact Rd.pk rfl rfl hb84 rfl) ?_
                 refine U.done ?_
                 exact St.wk (hJ83 _ hm) (Wk.mk' [some 0, some 1, some 2, some 3, some 4] rfl rfl (.eqs rfl) ⟨⟨_, rfl, .box rfl (.eq rfl)⟩, ⟨_, rfl, .box rfl (.eq rfl)⟩, ⟨_, rfl, .val rfl⟩, ⟨_, rfl, .val rfl⟩, ⟨_, rfl, .val rfl⟩, trivial⟩ rfl)
                ·refine U.sks 2 4 true 135 hb84 rfl rfl rfl ?_
                 refine U.r (o := _) rfl (.none rfl) rfl rfl (by exact Rd.pk' rfl rfl hb84 rfl) ?_
                 refine U.done ?_
                 exact St.wk (hJ83 _ hm) (Wk.mk' [some 0, some 1, some 2, some 3, some 4] rfl rfl (.eqs rfl) ⟨⟨_, rfl, .box rfl (.eq rfl)⟩, ⟨_, rfl, .box rfl (.eq rfl)⟩, ⟨_, rfl, .val rfl⟩, ⟨_, rfl, .val rfl⟩, ⟨_, rfl, .val rfl⟩, trivial⟩ rfl)
            ·refine C.exit (C.ex (C.ex (C.bex ?_)))
             exact St.wk (hJ63 _ hm) (Wk.mk' [some 1] rfl rfl (.eqs rfl) ⟨⟨_, rfl, .box rfl (.eq rfl)⟩, trivial⟩ rfl)
         ·refine U.start ?_
          refine U.ps 3 T rfl ?_
          refine hm.cs (fun hb55 hm => ?_) (fun hb55 hm => ?_)
          ·refine U.sks 6 2 false 107 hb55 rfl rfl rfl ?_
           refine U.r (o := _) rfl (.none rfl) rfl rfl (by exact Rd.pk rfl rfl hb55 rfl) ?_
           refine U.ps 1 T rfl ?_
           refine U.sks 4 10 false 115 rfl rfl rfl rfl ?_
           refine U.r (o := _) rfl (.none rfl) rfl rfl (by exact Rd.pk rfl rfl rfl rfl) ?_
           refine U.done ?_
           exact St.wk (hJ54 _ hm) (Wk.mk' [some 0, some 1, some 2, some 3] rfl rfl (.eqs rfl) ⟨⟨_, rfl, .box rfl (.eq rfl)⟩, ⟨_, rfl, .box rfl (.eq rfl)⟩, ⟨_, rfl, .val rfl⟩, ⟨_, rfl, .val rfl⟩, trivial⟩ rfl)
          ·refine U.pg 3 2 false 107 hb55 T rfl rfl rfl rfl ?_
           refine U.r (o := _) rfl (.take 2 false 107 _ hb55 rfl rfl rfl) rfl rfl (by exact Rd.io T rfl rfl rfl rfl rfl rfl rfl hx48) ?_
           refine U.r (o := _) rfl (.take 2 false 107 _ hb55 rfl rfl rfl) rfl rfl (by exact Rd.le T rfl rfl rfl (idx_some hx48).2.2 rfl rfl rfl) ?_
           refine U.pg 1 2 false 107 hb55 T rfl rfl rfl rfl ?_
           refine U.r (o := _) rfl (.none rfl) rfl rfl (by exact Rd.pk' rfl rfl hb55 rfl) ?_
           refine U.ps 1 T rfl ?_
           refine hm.cs (fun hb56 hm => ?_) (fun hb56 hm => ?_)
           ·refine U.sks 4 10 false 115 hb56 rfl rfl rfl ?_
            refine U.r (o := _) rfl (.none rfl) rfl rfl (by exact Rd.pk rfl rfl hb56 rfl) ?_
            refine U.done ?_
            exact St.wk (hJ54 _ hm) (Wk.mk' [some 0, some 1, some 2, some 3] rfl rfl (.eqs rfl) ⟨⟨_, rfl, .box rfl (.eq rfl)⟩, ⟨_, rfl, .box rfl (.eq rfl)⟩, ⟨_, rfl, .val rfl⟩, ⟨_, rfl, .val rfl⟩, trivial⟩ rfl)
           ·refine U.pg 4 10 false 115 hb56 T rfl rfl rfl rfl ?_
            refine U.r (o := _) rfl (.none rfl) rfl rfl (by exact Rd.pk' rfl rfl hb56 rfl) ?_
            refine U.done ?_
            exact St.wk (hJ54 _ hm) (Wk.mk' [some 0, some 1, some 2, some 3] rfl rfl (.eqs rfl) ⟨⟨_, rfl, .box rfl (.eq rfl)⟩, ⟨_, rfl, .box rfl (.eq rfl)⟩, ⟨_, rfl, .val rfl⟩, ⟨_, rfl, .val rfl⟩, trivial⟩ rfl)
      ·refine U.start ?_
       refine U.ps 3 T rfl ?_
       refine hm.cs (fun hb42 hm => ?_) (fun hb42 hm => ?_)
       ·refine U.sks 4 2 false 89 hb42 rfl rfl rfl ?_
        refine U.r (o := _) rfl (.none rfl) rfl rfl (by exact Rd.pk rfl rfl hb42 rfl) ?_
        refine U.done ?_
        exact St.wk (hJ41 _ hm) (Wk.mk' [some 0, some 1, some 2, some 3] rfl rfl (.eqs rfl) ⟨⟨_, rfl, .box rfl (.eq rfl)⟩, ⟨_, rfl, .box rfl (.eq rfl)⟩, ⟨_, rfl, .val rfl⟩, ⟨_, rfl, .val rfl⟩, trivial⟩ rfl)
       ·refine U.pg 4 2 false 89 hb42 T rfl rfl rfl rfl ?_
        refine U.r (o := _) rfl (.none rfl) rfl rfl (by exact Rd.pk' rfl rfl hb42 rfl) ?_
        refine U.done ?_
        exact St.wk (hJ41 _ hm) (Wk.mk' [some 0, some 1, some 2, some 3] rfl rfl (.eqs rfl) ⟨⟨_, rfl, .box rfl (.eq rfl)⟩, ⟨_, rfl, .box rfl (.eq rfl)⟩, ⟨_, rfl, .val rfl⟩, ⟨_, rfl, .val rfl⟩, trivial⟩ rfl)
   ·refine U.start ?_
    refine U.ps 4 T rfl ?_
    refine hm.cs (fun hb25 hm => ?_) (fun hb25 hm => ?_)
    ·refine U.sks 3 3 false 64 hb25 rfl rfl rfl ?_
     refine U.sku 3 6 true 67 rfl rfl rfl ?_
     refine U.sku 3 9 false 70 rfl rfl rfl ?_
     refine U.sku 1 6 true 67 rfl rfl rfl ?_
     refine U.sks 1 3 false 64 hb25 rfl rfl rfl ?_
     refine U.r (o := _) rfl (.none rfl) rfl rfl (by exact Rd.pk rfl rfl hb25 rfl) ?_
     refine U.done ?_
     exact St.wk (hJ24 _ hm) (Wk.mk' [some 0, some 1, some 2, some 3] rfl rfl (.eqs rfl) ⟨⟨_, rfl, .box rfl (.eq rfl)⟩, ⟨_, rfl, .box rfl (.eq rfl)⟩, ⟨_, rfl, .val rfl⟩, ⟨_, rfl, .val rfl⟩, trivial⟩ rfl)
    ·refine U.pg 3 3 false 64 hb25 T rfl rfl rfl rfl ?_
     refine hm.cs (fun hb26 hm => ?_) (fun hb26 hm => ?_)
     ·refine U.pg 3 6 true 67 hb26 T rfl rfl rfl rfl ?_
      refine hm.cs (fun hb27 hm => ?_) (fun hb27 hm => ?_)
      ·refine U.sks 3 9 false 70 hb27 rfl rfl rfl ?_
       refine U.r (o := _) rfl (.take 6 true 67 _ hb26 rfl rfl rfl) rfl rfl (by exact Rd.pk rfl rfl hb27 rfl) ?_
       refine U.r (o := _) rfl (.take 3 false 64 _ hb25 rfl rfl rfl) rfl rfl (by exact Rd.pk rfl rfl hb26 rfl) ?_
       refine U.r (o := _) rfl (.none rfl) rfl rfl (by exact Rd.pk' rfl rfl hb25 rfl) ?_
       refine U.done ?_
       exact St.wk (hJ24 _ hm) (Wk.mk' [some 0, some 1, some 2, some 3] rfl rfl (.eqs rfl) ⟨⟨_, rfl, .box rfl (.eq rfl)⟩, ⟨_, rfl, .box rfl (.eq rfl)⟩, ⟨_, rfl, .val rfl⟩, ⟨_, rfl, .val rfl⟩, trivial⟩ rfl)
      ·refine U.pg 3 9 false 70 hb27 T rfl rfl rfl rfl ?_
       refine U.r (o := _) rfl (.take 6 true 67 _ hb26 rfl rfl rfl) rfl rfl (by exact Rd.pk' rfl rfl hb27 rfl) ?_
       refine U.r (o := _) rfl (.take 3 false 64 _ hb25 rfl rfl rfl) rfl rfl (by exact Rd.pk rfl rfl hb26 rfl) ?_
       refine U.r (o := _) rfl (.none rfl) rfl rfl (by exact Rd.pk' rfl rfl hb25 rfl) ?_
       refine U.done ?_
       exact St.wk (hJ24 _ hm) (Wk.mk' [some 0, some 1, some 2, some 3] rfl rfl (.eqs rfl) ⟨⟨_, rfl, .box rfl (.eq rfl)⟩, ⟨_, rfl, .box rfl (.eq rfl)⟩, ⟨_, rfl, .val rfl⟩, ⟨_, rfl, .val rfl⟩, trivial⟩ rfl)
     ·refine U.sks 3 6 true 67 hb26 rfl rfl rfl ?_
      refine U.sku 3 9 false 70 rfl rfl rfl ?_
      refine U.sks 1 6 true 67 hb26 rfl rfl rfl ?_
      refine U.r (o := _) rfl (.take 3 false 64 _ hb25 rfl rfl rfl) rfl rfl (by exact Rd.pk' rfl rfl hb26 rfl) ?_
      refine U.r (o := _) rfl (.none rfl) rfl rfl (by exact Rd.pk' rfl rfl hb25 rfl) ?_
      refine U.done ?_
      exact St.wk (hJ24 _ hm) (Wk.mk' [some 0, some 1, some 2, some 3] rfl rfl (.eqs rfl) ⟨⟨_, rfl, .box rfl (.eq rfl)⟩, ⟨_, rfl, .box rfl (.eq rfl)⟩, ⟨_, rfl, .val rfl⟩, ⟨_, rfl, .val rfl⟩, trivial⟩ rfl)
 ·refine U.start ?_
  refine U.ps 3 T rfl ?_
  refine U.e (o := _) rfl (.none rfl) (by exact Eff.c [] (v := true) (T_taquinlaw26_fair f r l _ hm) en9 rfl rfl rfl (.eq rfl) trivial rfl rfl rfl rfl rfl rfl (fun _ _ => ⟨(.v _), trivial⟩) (.inr ⟨rfl, rfl⟩) (fun _ => rfl) (fun _ => rfl) rfl) (fun x8' hm => ?_)
  obtain ⟨x8⟩ := x8'
  refine U.ps 2 T rfl ?_
  refine hm.cs (fun hb9 hm => ?_) (fun hb9 hm => ?_)
  ·refine U.pg 3 5 false 30 (ntF hb9) T rfl rfl rfl rfl ?_
   refine U.r (o := _) rfl (.none rfl) rfl rfl (by exact Rd.pk' rfl rfl (ntF hb9) rfl) ?_
   refine U.done ?_
   exact St.wk (hJ7 _ hm) (Wk.mk' [some 0, some 1] rfl rfl (.eqs rfl) ⟨⟨_, rfl, .box rfl (.eq rfl)⟩, ⟨_, rfl, .box rfl (.eq rfl)⟩, trivial⟩ rfl)
  ·refine U.sks 3 5 false 30 (ntT hb9) rfl rfl rfl ?_
   refine U.r (o := _) rfl (.none rfl) rfl rfl (by exact Rd.pk rfl rfl (ntT hb9) rfl) ?_
   refine U.done ?_
   exact St.wk (hJ7 _ hm) (Wk.mk' [some 0, some 1] rfl rfl (.eqs rfl) ⟨⟨_, rfl, .box rfl (.eq rfl)⟩, ⟨_, rfl, .box rfl (.eq rfl)⟩, trivial⟩ rfl)
end Go.Proofs.Ytenplejkcfhplaa
