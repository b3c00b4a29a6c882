/- The walks: each Go function does what its verification condition says (written by a program of the prover). -/
import Derived.Test.YtenplejkcfhplaaW0
import Derived.KernelRfl
set_option maxRecDepth 100000
set_option maxHeartbeats 8000000
set_option linter.unusedVariables false
namespace Go.Proofs.Ytenplejkcfhplaa
open Go Go.Taq
theorem T_taquinlaw26_PuzzleSteps (f : ApiFloor) (r : List Int) (k : Int) (goal : Int) (post : Bool → Prop) (hm : V_taquinlaw26_PuzzleSteps f r k goal post) :
    Tr Try.prog 4 [.agg (eApiFloor f), .sl 1 eI r, .i k, .i goal] [] 0 (fun A H' k => ∃ y, post y ∧ A = (.b y) ∧ H' = [] ∧ k = 0) := by
 refine Tr.intro (n := 208) Try.func4 rfl Try.ntmps4 rfl (fun w0 ok F β hβ => ?_)
 unfold V_taquinlaw26_PuzzleSteps at hm
 refine C.seq (U.start ?_)
 refine U.e1 (o := _) rfl (.none rfl) (by exact Eff1.box rfl rfl rfl rfl rfl) ?_
 refine U.ps 1 T rfl ?_
 refine U.done (C.nx (C.seq (U.start ?_)))
 refine U.e (o := _) rfl (.none rfl) (by exact Eff.c [] (v := true) (T_taquinlaw26_small _ hm) en8 rfl rfl rfl (.eq rfl) trivial rfl rfl rfl rfl rfl rfl (fun _ _ => ⟨(.v _), trivial⟩) (.inr ⟨rfl, rfl⟩) (fun _ => rfl) (fun _ => rfl) rfl) (fun x5' hm => ?_)
 obtain ⟨x5⟩ := x5'
 refine U.ps 1 T rfl ?_
 refine U.done (C.nx (C.seq (C.seq ?_)))
 refine C.jn (fun (x6 : Bool) => [(1, .sl 1 eI r), (2, .i k), (3, .i goal), (4, .p 0 0), (9, .b x5), (39, .b x6)]) (fun (x6 : Bool) => [(0, .box (eApiFloor f))]) 1 hm (fun x6 hm => ?_) (fun J7 hm hJ7 => ?_)
 ·refine C.nx ?_
  refine C.ite rfl hm (fun hb14 hm => ?_) (fun hb14 hm => ?_)
  ·refine C.seq (U.start ?_)
   refine U.ps 2 T rfl ?_
   refine U.done (C.nx (C.ret (C.rt ?_)))
   exact C.fin T (rs' := [.b x5]) (H' := []) (nl' := 0) [] rfl rfl (.eq rfl) trivial rfl rfl rfl rfl hβ ⟨x5, hm, rfl, rfl, rfl⟩
  ·refine C.skip (C.nx (C.seq (U.start ?_)))
   refine U.ps 4 T rfl ?_
   refine U.e (o := _) rfl (.none rfl) (by exact Eff.c [] (v := true) (T_puzzle_Table f r k goal _ hm) en10 rfl rfl rfl (.eq rfl) trivial rfl rfl rfl rfl rfl rfl (fun _ _ => ⟨(.tup (.cons (.o _) (.cons (.v _) .nil))), ⟨.val (.os _ _ _ fun _ => (.cons (.v _) .nil)), trivial⟩⟩) (.inr ⟨rfl, rfl⟩) (fun _ => rfl) (fun _ => rfl) rfl) (fun x19' hm => ?_)
   obtain ⟨x19⟩ := x19'
   refine U.ps 5 T rfl ?_
   refine U.done (C.nx (C.seq (C.seq ?_)))
   refine C.jn (fun (x20 : Bool) => [(1, .sl 1 eI r), (2, .i k), (3, .i goal), (4, .p 0 0), (9, .b x5), (10, .o 1), (11, .i x19.2), (66, .b x20)]) (fun (x20 : Bool) => [(0, .box (eApiFloor f)), (1, .val (.os 1 eI x19.1))]) 2 hm (fun x20 hm => ?_) (fun J21 hm hJ21 => ?_)
   ·refine C.nx ?_
    refine C.ite rfl hm (fun hb25 hm => ?_) (fun hb25 hm => ?_)
    ·refine C.seq ?_
     refine C.jn (fun (x26 : Bool) => [(8, .b x26)]) (fun (x26 : Bool) => []) 0 hm (fun x26 hm => ?_) (fun J27 hm hJ27 => ?_)
     ·refine C.nx (C.ret (C.rt ?_))
      exact C.fin T (rs' := [.b x26]) (H' := []) (nl' := 0) [] rfl rfl (.eq rfl) trivial rfl rfl rfl rfl hβ ⟨x26, hm, rfl, rfl, rfl⟩
     ·refine U.start ?_
      refine U.ps 2 T rfl ?_
      refine hm.cs (fun hb28 hm => ?_) (fun hb28 hm => ?_)
      ·refine U.pg 2 1 true 68 hb28 T rfl rfl rfl rfl ?_
       refine U.r (o := _) rfl (.none rfl) rfl rfl (by exact Rd.pk rfl rfl hb28 rfl) ?_
       refine U.ps 1 T rfl ?_
       refine hm.cs (fun hb29 hm => ?_) (fun hb29 hm => ?_)
       ·refine U.pg 3 5 true 72 hb29 T rfl rfl rfl rfl ?_
        refine U.r (o := _) rfl (.none rfl) rfl rfl (by exact Rd.pk rfl rfl hb29 rfl) ?_
        refine U.ps 1 T rfl ?_
        refine U.done ?_
        exact St.wk (hJ27 _ hm) (Wk.mk' [] rfl rfl (.eqs rfl) trivial rfl)
       ·refine U.sks 3 5 true 72 hb29 rfl rfl rfl ?_
        refine U.r (o := _) rfl (.none rfl) rfl rfl (by exact Rd.pk' rfl rfl hb29 rfl) ?_
        refine U.ps 1 T rfl ?_
        refine U.done ?_
        exact St.wk (hJ27 _ hm) (Wk.mk' [] rfl rfl (.eqs rfl) trivial rfl)
      ·refine U.sks 2 1 true 68 hb28 rfl rfl rfl ?_
       refine U.r (o := _) rfl (.none rfl) rfl rfl (by exact Rd.pk' rfl rfl hb28 rfl) ?_
       refine U.ps 1 T rfl ?_
       refine U.sks 3 5 true 72 rfl rfl rfl rfl ?_
       refine U.r (o := _) rfl (.none rfl) rfl rfl (by exact Rd.pk' rfl rfl rfl rfl) ?_
       refine U.ps 1 T rfl ?_
       refine U.done ?_
       exact St.wk (hJ27 _ hm) (Wk.mk' [] rfl rfl (.eqs rfl) trivial rfl)
    ·refine C.skip (C.nx (C.seq (C.seq ?_)))
     refine C.jn (fun (x30 : Bool) => [(1, .sl 1 eI r), (2, .i k), (3, .i goal), (4, .p 0 0), (9, .b x5), (10, .o 1), (87, .b x30)]) (fun (x30 : Bool) => [(0, .box (eApiFloor f)), (1, .val (.os 1 eI x19.1))]) 2 hm (fun x30 hm => ?_) (fun J31 hm hJ31 => ?_)
     ·refine C.nx ?_
      refine C.ite rfl hm (fun hb34 hm => ?_) (fun hb34 hm => ?_)
      ·refine C.seq (U.start ?_)
       refine U.ps 1 T rfl ?_
       refine U.done (C.nx (C.ret (C.rt ?_)))
       exact C.fin T (rs' := [.b false]) (H' := []) (nl' := 0) [] rfl rfl (.eq rfl) trivial rfl rfl rfl rfl hβ ⟨false, hm, rfl, rfl, rfl⟩
      ·refine C.skip (C.nx (C.seq (C.seq (U.start ?_))))
       refine U.ps 1 T rfl ?_
       refine U.done (C.nx ?_)
       refine C.jn (fun (x39 : Unit) => [(9, .b x5)]) (fun (x39 : Unit) => []) 0 hm (fun x39 hm => ?_) (fun J40 hm hJ40 => ?_)
       ·refine C.nx (C.seq (U.start ?_))
        refine U.ps 2 T rfl ?_
        refine U.done (C.nx (C.ret ?_))
        exact C.fin T (rs' := [.b x5]) (H' := []) (nl' := 0) [] rfl rfl (.eq rfl) trivial rfl rfl rfl rfl hβ ⟨x5, hm, rfl, rfl, rfl⟩
       ·refine C.block ?_
        refine St.wk (C.loop (fun (s41 : Int) => [(1, .sl 1 eI r), (2, .i k), (3, .i goal), (4, .p 0 0), (9, .b x5), (10, .o 1), (12, .i s41)]) (fun (s41 : Int) => [(0, .box (eApiFloor f)), (1, .val (.os 1 eI x19.1))]) hm (fun s41 Y42 hm => ?_)) (Wk.mk' [some 0, some 1] rfl rfl (.eqs rfl) ⟨⟨_, rfl, .box rfl (.eq rfl)⟩, ⟨_, rfl, .val rfl⟩, trivial⟩ rfl)
        refine C.seq (C.seq (U.start ?_))
        refine U.ps 4 T rfl ?_
        refine U.done (C.nx ?_)
        refine C.ite rfl hm (fun hb45 hm => ?_) (fun hb45 hm => ?_)
        ·refine C.skip (C.nx (C.seq ?_))
         refine C.jn (fun (x46 : Unit) => [(1, .sl 1 eI r), (2, .i k), (3, .i goal), (4, .p 0 0), (9, .b x5), (10, .o 1), (12, .i s41)]) (fun (x46 : Unit) => [(0, .box (eApiFloor f)), (1, .val (.os 1 eI x19.1))]) 2 hm (fun x46 hm => ?_) (fun J47 hm hJ47 => ?_)
         ·refine C.nx (U.start ?_)
          refine U.ps 3 T rfl ?_
          refine U.done (C.nx ?_)
          exact St.wk (C.next hm) (Wk.mk' [some 0, some 1] rfl rfl (.eqs rfl) ⟨⟨_, rfl, .box rfl (.eq rfl)⟩, ⟨_, rfl, .val rfl⟩, trivial⟩ rfl)
         ·refine C.block (C.seq (U.start ?_))
          refine U.ps 4 T rfl ?_
          refine U.e (o := _) rfl (.none rfl) (by exact Eff.c [] (v := true) (T_layout_Unrank (r.length : Int) k s41 _ hm) en22 rfl rfl rfl (.eq rfl) trivial rfl rfl rfl rfl rfl rfl (fun _ _ => ⟨(.tup (.cons (.agg (.cons (.o _) (.cons (.v _) .nil))) (.cons (.v _) .nil))), ⟨.val (.os _ _ _ fun _ => (.cons (.v _) .nil)), trivial⟩⟩) (.inr ⟨rfl, rfl⟩) (fun _ => rfl) (fun _ => rfl) rfl) (fun x50' hm => ?_)
          obtain ⟨x50⟩ := x50'
          refine U.ps 3 T rfl ?_
          refine U.e1 (o := _) rfl (.none rfl) (by exact Eff1.al T rfl rfl rfl rfl) ?_
          refine U.e1 (o := _) rfl (.none rfl) (by exact Eff1.st T rfl rfl rfl rfl rfl rfl rfl rfl rfl rfl) ?_
          refine U.ps 1 T rfl ?_
          refine U.done (C.nx (C.seq (C.seq ?_)))
          refine C.jn (fun (x51 : Bool) => [(1, .sl 1 eI r), (2, .i k), (3, .i goal), (4, .p 0 0), (9, .b x5), (10, .o 1), (12, .i s41), (13, .p 2 0), (122, .b x51)]) (fun (x51 : Bool) => [(0, .box (eApiFloor f)), (1, .val (.os 1 eI x19.1)), (2, .box [.o 3, .i x50.1.Target]), (3, .val (.os 1 eB x50.1.Full))]) 4 hm (fun x51 hm => ?_) (fun J52 hm hJ52 => ?_)
          ·refine C.nx ?_
           refine C.ite rfl hm (fun hb56 hm => ?_) (fun hb56 hm => ?_)
           ·refine C.seq (U.start ?_)
            refine U.ps 1 T rfl ?_
            refine U.done (C.nx (C.ret (C.rt (C.brt (C.rt (C.rt (C.brt (C.rt ?_))))))))
            exact C.fin T (rs' := [.b false]) (H' := []) (nl' := 0) [] rfl rfl (.eq rfl) trivial rfl rfl rfl rfl hβ ⟨false, hm, rfl, rfl, rfl⟩
           ·refine C.skip (C.nx (C.seq (U.start ?_)))
            refine U.ps 3 T rfl ?_
            refine U.e (o := _) rfl (.none rfl) (by exact Eff.c [] (v := true) (T_layout_Shifts f r x50.1 _ hm) en23 rfl rfl rfl (.cons (.eq rfl) (.cons (.eq rfl) (.cons (.agg (.cons (.fz rfl rfl rfl (.os fun _ => .cons (.ro rfl) .nil)) (.eq rfl))) .nil))) trivial rfl rfl rfl rfl rfl rfl (fun _ _ => ⟨(.o _), ⟨.val (.os _ _ _ fun _ => (.cons (.v _) (.cons (.v _) .nil))), trivial⟩⟩) (.inr ⟨rfl, rfl⟩) (fun _ => rfl) (fun _ => rfl) rfl) (fun x61' hm => ?_)
            obtain ⟨x61⟩ := x61'
            refine U.ps 1 T rfl ?_
            refine U.done (C.nx (C.seq (U.start ?_)))
            refine U.ps 2 T rfl ?_
            obtain ⟨x64, hx64, hm⟩ := hm
            refine U.r (o := _) rfl (.none rfl) rfl rfl (by exact Rd.io T rfl rfl rfl rfl rfl rfl rfl hx64) ?_
            refine U.r (o := _) rfl (.none rfl) rfl rfl (by exact Rd.le T rfl rfl rfl (idx_some hx64).2.2 rfl rfl rfl) ?_
            refine U.ps 2 T rfl ?_
            refine U.done (C.nx (C.seq (C.seq (U.start ?_))))
            refine U.ps 1 T rfl ?_
            refine U.done (C.nx ?_)
            refine C.jn (fun (x67 : Bool) => [(1, .sl 1 eI r), (2, .i k), (3, .i goal), (4, .p 0 0), (9, .b x5), (10, .o 1), (12, .i s41), (16, .b x67)]) (fun (x67 : Bool) => [(0, .box (eApiFloor f)), (1, .val (.os 1 eI x19.1))]) 2 hm (fun x67 hm => ?_) (fun J68 hm hJ68 => ?_)
            ·refine C.nx (C.seq (U.start ?_))
             refine U.ps 2 T rfl ?_
             refine U.done (C.nx ?_)
             refine C.ite rfl hm (fun hb108 hm => ?_) (fun hb108 hm => ?_)
             ·refine C.seq (U.start ?_)
              refine U.ps 1 T rfl ?_
              refine U.done (C.nx (C.ret (C.brt (C.rt (C.rt (C.brt (C.rt ?_)))))))
              exact C.fin T (rs' := [.b false]) (H' := []) (nl' := 0) [] rfl rfl (.eq rfl) trivial rfl rfl rfl rfl hβ ⟨false, hm, rfl, rfl, rfl⟩
             ·refine C.skip (C.bnx ?_)
              exact St.wk (hJ47 _ hm) (Wk.mk' [some 0, some 1] rfl rfl (.eqs rfl) ⟨⟨_, rfl, .box rfl (.eq rfl)⟩, ⟨_, rfl, .val rfl⟩, trivial⟩ rfl)
            ·refine C.block ?_
             refine St.wk (C.loop (fun (s69 : Bool × Int) => [(1, .sl 1 eI r), (2, .i k), (3, .i goal), (4, .p 0 0), (9, .b x5), (10, .o 1), (12, .i s41), (13, .p 2 0), (15, .o 4), (16, .b s69.1), (17, .i s69.2)]) (fun (s69 : Bool × Int) => [(0, .box (eApiFloor f)), (1, .val (.os 1 eI x19.1)), (2, .box [.o 3, .i x50.1.Target]), (3, .val (.os 1 eB x50.1.Full)), (4, .val (.os 2 eApiShift x61))]) hm (fun s69 Y70 hm => ?_)) (Wk.mk' [some 0, some 1, some 2, some 3, some 4] rfl rfl (.eqs rfl) ⟨⟨_, rfl, .box rfl (.eq rfl)⟩, ⟨_, rfl, .val rfl⟩, ⟨_, rfl, .box rfl (.eq rfl)⟩, ⟨_, rfl, .val rfl⟩, ⟨_, rfl, .val rfl⟩, trivial⟩ rfl)
             refine C.seq (C.seq (U.start ?_))
             refine U.ps 4 T rfl ?_
             refine U.done (C.nx ?_)
             refine C.ite rfl hm (fun hb73 hm => ?_) (fun hb73 hm => ?_)
             ·refine C.skip (C.nx (C.seq (C.block (C.seq ?_))))
              refine C.jn (fun (x74 : List Bool × Int × Int) => [(1, .sl 1 eI r), (2, .i k), (3, .i goal), (4, .p 0 0), (9, .b x5), (10, .o 1), (12, .i s41), (13, .p 2 0), (15, .o 4), (16, .b s69.1), (17, .i s69.2), (18, .p 5 0), (19, .i x74.2.2)]) (fun (x74 : List Bool × Int × Int) => [(0, .box (eApiFloor f)), (1, .val (.os 1 eI x19.1)), (2, .box [.o 3, .i x50.1.Target]), (3, .val (.os 1 eB x50.1.Full)), (4, .val (.os 2 eApiShift x61)), (5, .box [.o 6, .i x74.2.1]), (6, .val (.os 1 eB x74.1))]) 7 hm (fun x74 hm => ?_) (fun J75 hm hJ75 => ?_)
              ·refine C.nx (C.seq (U.start ?_))
               refine U.ps 1 T rfl ?_
               refine U.e (o := _) rfl (.none rfl) (by exact Eff.c [] (v := true) (T_layout_Rank ({ Full := x74.1, Target := x74.2.1 : ApiLayout }) _ hm) en25 rfl rfl rfl (.cons (.agg (.cons (.fz rfl rfl rfl (.os fun _ => .cons (.ro rfl) .nil)) (.eq rfl))) .nil) trivial rfl rfl rfl rfl rfl rfl (fun _ _ => ⟨(.v _), trivial⟩) (.inr ⟨rfl, rfl⟩) (fun _ => rfl) (fun _ => rfl) rfl) (fun x80' hm => ?_)
               obtain ⟨x80⟩ := x80'
               refine U.ps 1 T rfl ?_
               refine U.done (C.nx (C.seq (C.seq ?_)))
               refine C.jn (fun (x81 : Bool) => [(1, .sl 1 eI r), (2, .i k), (3, .i goal), (4, .p 0 0), (9, .b x5), (10, .o 1), (12, .i s41), (13, .p 2 0), (15, .o 4), (16, .b s69.1), (17, .i s69.2), (20, .i x80), (160, .b x81)]) (fun (x81 : Bool) => [(0, .box (eApiFloor f)), (1, .val (.os 1 eI x19.1)), (2, .box [.o 3, .i x50.1.Target]), (3, .val (.os 1 eB x50.1.Full)), (4, .val (.os 2 eApiShift x61))]) 5 hm (fun x81 hm => ?_) (fun J82 hm hJ82 => ?_)
               ·refine C.nx ?_
                refine C.ite rfl hm (fun hb85 hm => ?_) (fun hb85 hm => ?_)
                ·refine C.seq (U.start ?_)
                 refine U.ps 1 T rfl ?_
                 refine U.done (C.nx (C.ret (C.rt (C.brt (C.rt (C.rt (C.brt (C.rt (C.brt (C.rt (C.rt (C.brt (C.rt ?_)))))))))))))
                 exact C.fin T (rs' := [.b false]) (H' := []) (nl' := 0) [] rfl rfl (.eq rfl) trivial rfl rfl rfl rfl hβ ⟨false, hm, rfl, rfl, rfl⟩
                ·refine C.skip (C.nx (C.seq (C.seq ?_)))
                 refine C.jn (fun (x88 : Bool) => [(1, .sl 1 eI r), (2, .i k), (3, .i goal), (4, .p 0 0), (9, .b x5), (10, .o 1), (12, .i s41), (13, .p 2 0), (15, .o 4), (16, .b s69.1), (17, .i s69.2), (20, .i x80), (191, .b x88)]) (fun (x88 : Bool) => [(0, .box (eApiFloor f)), (1, .val (.os 1 eI x19.1)), (2, .box [.o 3, .i x50.1.Target]), (3, .val (.os 1 eB x50.1.Full)), (4, .val (.os 2 eApiShift x61))]) 5 hm (fun x88 hm => ?_) (fun J89 hm hJ89 => ?_)
                 ·refine C.nx ?_
                  refine C.ite rfl hm (fun hb96 hm => ?_) (fun hb96 hm => ?_)
                  ·refine C.seq (U.start ?_)
                   refine U.ps 1 T rfl ?_
                   refine U.done (C.nx (C.ret (C.rt (C.brt (C.rt (C.rt (C.brt (C.rt (C.brt (C.rt (C.rt (C.brt (C.rt ?_)))))))))))))
                   exact C.fin T (rs' := [.b false]) (H' := []) (nl' := 0) [] rfl rfl (.eq rfl) trivial rfl rfl rfl rfl hβ ⟨false, hm, rfl, rfl, rfl⟩
                  ·refine C.skip (C.nx ?_)
                   refine C.jn (fun (x99 : Bool) => [(1, .sl 1 eI r), (2, .i k), (3, .i goal), (4, .p 0 0), (9, .b x5), (10, .o 1), (12, .i s41), (13, .p 2 0), (15, .o 4), (16, .b x99), (17, .i s69.2)]) (fun (x99 : Bool) => [(0, .box (eApiFloor f)), (1, .val (.os 1 eI x19.1)), (2, .box [.o 3, .i x50.1.Target]), (3, .val (.os 1 eB x50.1.Full)), (4, .val (.os 2 eApiShift x61))]) 5 hm (fun x99 hm => ?_) (fun J100 hm hJ100 => ?_)
                   ·refine C.bnx (C.nx (U.start ?_))
                    refine U.ps 3 T rfl ?_
                    refine U.done (C.nx ?_)
                    exact St.wk (C.next hm) (Wk.mk' [some 0, some 1, some 2, some 3, some 4] rfl rfl (.eqs rfl) ⟨⟨_, rfl, .box rfl (.eq rfl)⟩, ⟨_, rfl, .val rfl⟩, ⟨_, rfl, .box rfl (.eq rfl)⟩, ⟨_, rfl, .val rfl⟩, ⟨_, rfl, .val rfl⟩, trivial⟩ rfl)
                   ·refine D.beg 9999 [1] [] mix rfl rfl (by kernel_rfl) (by repeat (first | exact NoPanicQ.body | refine NoPanicQ.th ?_ | refine NoPanicQ.blk ?_)) (fun hQ hS ws M' => ?_)
                    refine D.ps 2 [(0, []), (1, [])] rfl hQ hS T rfl rfl (by kernel_rfl) ?_
                    refine hm.cs (fun hb101 hm => ?_) (fun hb101 hm => ?_)
                    ·refine D.sq (o := _) 2 [] hQ hS rfl (.skip 1 false 193 _ hb101 rfl rfl rfl) rfl rfl (by kernel_rfl) ?_
                     refine D.sq (o := _) 3 [] hQ hS rfl (.skip 1 false 193 _ hb101 rfl rfl rfl) rfl rfl (by kernel_rfl) ?_
                     refine D.sq (o := _) 4 [] hQ hS rfl (.skip 1 false 193 _ hb101 rfl rfl rfl) rfl rfl (by kernel_rfl) ?_
                     refine D.sq (o := _) 5 [] hQ hS rfl (.skip 1 false 193 _ hb101 rfl rfl rfl) rfl rfl (by kernel_rfl) ?_
                     refine D.sq (o := _) 6 [] hQ hS rfl (.skip 1 false 193 _ hb101 rfl rfl rfl) rfl rfl (by kernel_rfl) ?_
                     refine D.sq (o := _) 7 [] hQ hS rfl (.skip 1 false 193 _ hb101 rfl rfl rfl) rfl rfl (by kernel_rfl) ?_
                     refine D.sq (o := _) 8 [] hQ hS rfl (.skip 1 false 193 _ hb101 rfl rfl rfl) rfl rfl (by kernel_rfl) ?_
                     refine D.sq (o := _) 9 [] hQ hS rfl (.skip 1 false 193 _ hb101 rfl rfl rfl) rfl rfl (by kernel_rfl) ?_
                     refine D.sq (o := _) 10 [] hQ hS rfl (.skip 1 false 193 _ hb101 rfl rfl rfl) rfl rfl (by kernel_rfl) ?_
                     refine D.sq (o := _) 11 [] hQ hS rfl (.skip 1 false 193 _ hb101 rfl rfl rfl) rfl rfl (by kernel_rfl) ?_
                     refine D.q (o := _) 12 [] hQ hS rfl (.none rfl) rfl rfl (by exact Rd.pk rfl rfl hb101 rfl) rfl (by kernel_rfl) ?_
                     refine D.ps 1 [(13, [])] rfl hQ hS T rfl rfl (by kernel_rfl) ?_
                     refine D.done (by kernel_rfl) ?_
                     exact St.wk (hJ100 _ hm) (Wk.mk' [some 0, some 1, some 2, some 3, some 4] rfl rfl (.eqs rfl) ⟨⟨_, rfl, .box rfl (.eq rfl)⟩, ⟨_, rfl, .val rfl⟩, ⟨_, rfl, .box rfl (.eq rfl)⟩, ⟨_, rfl, .val rfl⟩, ⟨_, rfl, .val rfl⟩, trivial⟩ rfl)
                    ·refine D.q (o := _) 2 [] hQ hS rfl (.take 1 false 193 _ hb101 rfl rfl rfl) rfl rfl (by exact Rd.p T rfl) rfl (by kernel_rfl) ?_
                     refine D.q (o := _) 3 [] hQ hS rfl (.take 1 false 193 _ hb101 rfl rfl rfl) rfl rfl (by exact Rd.p T rfl) rfl (by kernel_rfl) ?_
                     obtain ⟨x102, hx102, hm⟩ := hm
                     refine D.q (o := _) 4 [] hQ hS rfl (.take 1 false 193 _ hb101 rfl rfl rfl) rfl rfl (by exact Rd.io T rfl rfl rfl rfl rfl rfl rfl hx102) rfl (by kernel_rfl) ?_
                     refine D.q (o := _) 5 [] hQ hS rfl (.take 1 false 193 _ hb101 rfl rfl rfl) rfl rfl (by exact Rd.le T rfl rfl rfl (idx_some hx102).2.2 rfl rfl rfl) rfl (by kernel_rfl) ?_
                     refine D.q (o := _) 6 [] hQ hS rfl (.take 1 false 193 _ hb101 rfl rfl rfl) rfl rfl (by exact Rd.p T rfl) rfl (by kernel_rfl) ?_
                     refine D.q (o := _) 7 [] hQ hS rfl (.take 1 false 193 _ hb101 rfl rfl rfl) rfl rfl (by exact Rd.p T rfl) rfl (by kernel_rfl) ?_
                     obtain ⟨x103, hx103, hm⟩ := hm
                     refine D.q (o := _) 8 [] hQ hS rfl (.take 1 false 193 _ hb101 rfl rfl rfl) rfl rfl (by exact Rd.io T rfl rfl rfl rfl rfl rfl rfl hx103) rfl (by kernel_rfl) ?_
                     refine D.q (o := _) 9 [] hQ hS rfl (.take 1 false 193 _ hb101 rfl rfl rfl) rfl rfl (by exact Rd.le T rfl rfl rfl (idx_some hx103).2.2 rfl rfl rfl) rfl (by kernel_rfl) ?_
                     refine D.q (o := _) 10 [] hQ hS rfl (.take 1 false 193 _ hb101 rfl rfl rfl) rfl rfl (by exact Rd.p T rfl) rfl (by kernel_rfl) ?_
                     refine D.q (o := _) 11 [] hQ hS rfl (.take 1 false 193 _ hb101 rfl rfl rfl) rfl rfl (by exact Rd.p T rfl) rfl (by kernel_rfl) ?_
                     refine D.q (o := _) 12 [] hQ hS rfl (.none rfl) rfl rfl (by exact Rd.pk' rfl rfl hb101 rfl) rfl (by kernel_rfl) ?_
                     refine D.ps 1 [(13, [])] rfl hQ hS T rfl rfl (by kernel_rfl) ?_
                     refine D.done (by kernel_rfl) ?_
                     exact St.wk (hJ100 _ hm) (Wk.mk' [some 0, some 1, some 2, some 3, some 4] rfl rfl (.eqs rfl) ⟨⟨_, rfl, .box rfl (.eq rfl)⟩, ⟨_, rfl, .val rfl⟩, ⟨_, rfl, .box rfl (.eq rfl)⟩, ⟨_, rfl, .val rfl⟩, ⟨_, rfl, .val rfl⟩, trivial⟩ rfl)
                 ·refine D.beg 9999 [1] [] mix rfl rfl (by kernel_rfl) (by repeat (first | exact NoPanicQ.body | refine NoPanicQ.th ?_ | refine NoPanicQ.blk ?_)) (fun hQ hS ws M' => ?_)
                  refine D.ps 2 [(0, []), (1, [])] rfl hQ hS T rfl rfl (by kernel_rfl) ?_
                  obtain ⟨x90, hx90, hm⟩ := hm
                  refine D.q (o := _) 2 [] hQ hS rfl (.none rfl) rfl rfl (by exact Rd.io T rfl rfl rfl rfl rfl rfl rfl hx90) rfl (by kernel_rfl) ?_
                  refine D.q (o := _) 3 [] hQ hS rfl (.none rfl) rfl rfl (by exact Rd.le T rfl rfl rfl (idx_some hx90).2.2 rfl rfl rfl) rfl (by kernel_rfl) ?_
                  refine D.ps 2 [(4, []), (5, [])] rfl hQ hS T rfl rfl (by kernel_rfl) ?_
                  refine hm.cs (fun hb91 hm => ?_) (fun hb91 hm => ?_)
                  ·refine D.q (o := _) 6 [] hQ hS rfl (.take 5 true 166 _ hb91 rfl rfl rfl) rfl rfl (by exact Rd.p T rfl) rfl (by kernel_rfl) ?_
                   refine D.q (o := _) 7 [] hQ hS rfl (.take 5 true 166 _ hb91 rfl rfl rfl) rfl rfl (by exact Rd.p T rfl) rfl (by kernel_rfl) ?_
                   obtain ⟨x92, hx92, hm⟩ := hm
                   refine D.q (o := _) 8 [] hQ hS rfl (.take 5 true 166 _ hb91 rfl rfl rfl) rfl rfl (by exact Rd.io T rfl rfl rfl rfl rfl rfl rfl hx92) rfl (by kernel_rfl) ?_
                   refine D.q (o := _) 9 [] hQ hS rfl (.take 5 true 166 _ hb91 rfl rfl rfl) rfl rfl (by exact Rd.le T rfl rfl rfl (idx_some hx92).2.2 rfl rfl rfl) rfl (by kernel_rfl) ?_
                   refine D.q (o := _) 10 [] hQ hS rfl (.take 5 true 166 _ hb91 rfl rfl rfl) rfl rfl (by exact Rd.p T rfl) rfl (by kernel_rfl) ?_
                   refine D.q (o := _) 11 [] hQ hS rfl (.none rfl) rfl rfl (by exact Rd.pk rfl rfl hb91 rfl) rfl (by kernel_rfl) ?_
                   refine D.ps 1 [(12, [])] rfl hQ hS T rfl rfl (by kernel_rfl) ?_
                   refine hm.cs (fun hb93 hm => ?_) (fun hb93 hm => ?_)
                   ·refine D.sq (o := _) 13 [] hQ hS rfl (.skip 12 false 173 _ hb93 rfl rfl rfl) rfl rfl (by kernel_rfl) ?_
                    refine D.sq (o := _) 14 [] hQ hS rfl (.skip 12 false 173 _ hb93 rfl rfl rfl) rfl rfl (by kernel_rfl) ?_
                    refine D.sq (o := _) 15 [] hQ hS rfl (.skip 12 false 173 _ hb93 rfl rfl rfl) rfl rfl (by kernel_rfl) ?_
                    refine D.sq (o := _) 16 [] hQ hS rfl (.skip 12 false 173 _ hb93 rfl rfl rfl) rfl rfl (by kernel_rfl) ?_
                    refine D.sq (o := _) 17 [] hQ hS rfl (.skip 12 false 173 _ hb93 rfl rfl rfl) rfl rfl (by kernel_rfl) ?_
                    refine D.sq (o := _) 18 [] hQ hS rfl (.skip 12 false 173 _ hb93 rfl rfl rfl) rfl rfl (by kernel_rfl) ?_
                    refine D.sq (o := _) 19 [] hQ hS rfl (.und 18 true 179 rfl rfl rfl) rfl rfl (by kernel_rfl) ?_
                    refine D.sq (o := _) 20 [] hQ hS rfl (.und 18 true 179 rfl rfl rfl) rfl rfl (by kernel_rfl) ?_
                    refine D.sq (o := _) 21 [] hQ hS rfl (.und 18 true 179 rfl rfl rfl) rfl rfl (by kernel_rfl) ?_
                    refine D.sq (o := _) 22 [] hQ hS rfl (.und 18 true 179 rfl rfl rfl) rfl rfl (by kernel_rfl) ?_
                    refine D.sq (o := _) 23 [] hQ hS rfl (.und 18 true 179 rfl rfl rfl) rfl rfl (by kernel_rfl) ?_
                    refine D.sq (o := _) 24 [] hQ hS rfl (.und 18 true 179 rfl rfl rfl) rfl rfl (by kernel_rfl) ?_
                    refine D.sq (o := _) 25 [] hQ hS rfl (.und 18 true 179 rfl rfl rfl) rfl rfl (by kernel_rfl) ?_
                    refine D.sq (o := _) 26 [] hQ hS rfl (.und 18 true 179 rfl rfl rfl) rfl rfl (by kernel_rfl) ?_
                    refine D.sq (o := _) 27 [] hQ hS rfl (.und 18 true 179 rfl rfl rfl) rfl rfl (by kernel_rfl) ?_
                    refine D.sq (o := _) 28 [] hQ hS rfl (.und 18 true 179 rfl rfl rfl) rfl rfl (by kernel_rfl) ?_
                    refine D.sq (o := _) 29 [] hQ hS rfl (.skip 12 false 173 _ hb93 rfl rfl rfl) rfl rfl (by kernel_rfl) ?_
                    refine D.q (o := _) 30 [] hQ hS rfl (.none rfl) rfl rfl (by exact Rd.pk rfl rfl hb93 rfl) rfl (by kernel_rfl) ?_
                    refine D.done (by kernel_rfl) ?_
                    exact St.wk (hJ89 _ hm) (Wk.mk' [some 0, some 1, some 2, some 3, some 4] rfl rfl (.eqs rfl) ⟨⟨_, rfl, .box rfl (.eq rfl)⟩, ⟨_, rfl, .val rfl⟩, ⟨_, rfl, .box rfl (.eq rfl)⟩, ⟨_, rfl, .val rfl⟩, ⟨_, rfl, .val rfl⟩, trivial⟩ rfl)
                   ·refine D.q (o := _) 13 [] hQ hS rfl (.take 12 false 173 _ hb93 rfl rfl rfl) rfl rfl (by exact Rd.p T rfl) rfl (by kernel_rfl) ?_
                    refine D.q (o := _) 14 [] hQ hS rfl (.take 12 false 173 _ hb93 rfl rfl rfl) rfl rfl (by exact Rd.p T rfl) rfl (by kernel_rfl) ?_
                    refine D.q (o := _) 15 [] hQ hS rfl (.take 12 false 173 _ hb93 rfl rfl rfl) rfl rfl (by exact Rd.io T rfl rfl rfl rfl rfl rfl rfl hx92) rfl (by kernel_rfl) ?_
                    refine D.q (o := _) 16 [] hQ hS rfl (.take 12 false 173 _ hb93 rfl rfl rfl) rfl rfl (by exact Rd.le T rfl rfl rfl (idx_some hx92).2.2 rfl rfl rfl) rfl (by kernel_rfl) ?_
                    refine D.q (o := _) 17 [] hQ hS rfl (.take 12 false 173 _ hb93 rfl rfl rfl) rfl rfl (by exact Rd.p T rfl) rfl (by kernel_rfl) ?_
                    refine D.q (o := _) 18 [] hQ hS rfl (.take 12 false 173 _ hb93 rfl rfl rfl) rfl rfl (by exact Rd.p T rfl) rfl (by kernel_rfl) ?_
                    refine D.sq (o := _) 19 [] hQ hS rfl (.skip 18 true 179 _ hb93 rfl rfl rfl) rfl rfl (by kernel_rfl) ?_
                    refine D.sq (o := _) 20 [] hQ hS rfl (.skip 18 true 179 _ hb93 rfl rfl rfl) rfl rfl (by kernel_rfl) ?_
                    refine D.sq (o := _) 21 [] hQ hS rfl (.skip 18 true 179 _ hb93 rfl rfl rfl) rfl rfl (by kernel_rfl) ?_
                    refine D.sq (o := _) 22 [] hQ hS rfl (.skip 18 true 179 _ hb93 rfl rfl rfl) rfl rfl (by kernel_rfl) ?_
                    refine D.sq (o := _) 23 [] hQ hS rfl (.skip 18 true 179 _ hb93 rfl rfl rfl) rfl rfl (by kernel_rfl) ?_
                    refine D.sq (o := _) 24 [] hQ hS rfl (.skip 18 true 179 _ hb93 rfl rfl rfl) rfl rfl (by kernel_rfl) ?_
                    refine D.sq (o := _) 25 [] hQ hS rfl (.skip 18 true 179 _ hb93 rfl rfl rfl) rfl rfl (by kernel_rfl) ?_
                    refine D.sq (o := _) 26 [] hQ hS rfl (.skip 18 true 179 _ hb93 rfl rfl rfl) rfl rfl (by kernel_rfl) ?_
                    refine D.sq (o := _) 27 [] hQ hS rfl (.skip 18 true 179 _ hb93 rfl rfl rfl) rfl rfl (by kernel_rfl) ?_
                    refine D.sq (o := _) 28 [] hQ hS rfl (.skip 18 true 179 _ hb93 rfl rfl rfl) rfl rfl (by kernel_rfl) ?_
                    refine D.q (o := _) 29 [] hQ hS rfl (.take 12 false 173 _ hb93 rfl rfl rfl) rfl rfl (by exact Rd.pk' rfl rfl hb93 rfl) rfl (by kernel_rfl) ?_
                    refine D.q (o := _) 30 [] hQ hS rfl (.none rfl) rfl rfl (by exact Rd.pk' rfl rfl hb93 rfl) rfl (by kernel_rfl) ?_
                    refine D.done (by kernel_rfl) ?_
                    exact St.wk (hJ89 _ hm) (Wk.mk' [some 0, some 1, some 2, some 3, some 4] rfl rfl (.eqs rfl) ⟨⟨_, rfl, .box rfl (.eq rfl)⟩, ⟨_, rfl, .val rfl⟩, ⟨_, rfl, .box rfl (.eq rfl)⟩, ⟨_, rfl, .val rfl⟩, ⟨_, rfl, .val rfl⟩, trivial⟩ rfl)
                  ·refine D.sq (o := _) 6 [] hQ hS rfl (.skip 5 true 166 _ hb91 rfl rfl rfl) rfl rfl (by kernel_rfl) ?_
                   refine D.sq (o := _) 7 [] hQ hS rfl (.skip 5 true 166 _ hb91 rfl rfl rfl) rfl rfl (by kernel_rfl) ?_
                   refine D.sq (o := _) 8 [] hQ hS rfl (.skip 5 true 166 _ hb91 rfl rfl rfl) rfl rfl (by kernel_rfl) ?_
                   refine D.sq (o := _) 9 [] hQ hS rfl (.skip 5 true 166 _ hb91 rfl rfl rfl) rfl rfl (by kernel_rfl) ?_
                   refine D.sq (o := _) 10 [] hQ hS rfl (.skip 5 true 166 _ hb91 rfl rfl rfl) rfl rfl (by kernel_rfl) ?_
                   refine D.q (o := _) 11 [] hQ hS rfl (.none rfl) rfl rfl (by exact Rd.pk' rfl rfl hb91 rfl) rfl (by kernel_rfl) ?_
                   refine D.ps 1 [(12, [])] rfl hQ hS T rfl rfl (by kernel_rfl) ?_
                   refine D.q (o := _) 13 [] hQ hS rfl (.take 12 false 173 _ rfl rfl rfl rfl) rfl rfl (by exact Rd.p T rfl) rfl (by kernel_rfl) ?_
                   refine D.q (o := _) 14 [] hQ hS rfl (.take 12 false 173 _ rfl rfl rfl rfl) rfl rfl (by exact Rd.p T rfl) rfl (by kernel_rfl) ?_
                   obtain ⟨x94, hx94, hm⟩ := hm
                   refine D.q (o := _) 15 [] hQ hS rfl (.take 12 false 173 _ rfl rfl rfl rfl) rfl rfl (by exact Rd.io T rfl rfl rfl rfl rfl rfl rfl hx94) rfl (by kernel_rfl) ?_
                   refine D.q (o := _) 16 [] hQ hS rfl (.take 12 false 173 _ rfl rfl rfl rfl) rfl rfl (by exact Rd.le T rfl rfl rfl (idx_some hx94).2.2 rfl rfl rfl) rfl (by kernel_rfl) ?_
                   refine D.q (o := _) 17 [] hQ hS rfl (.take 12 false 173 _ rfl rfl rfl rfl) rfl rfl (by exact Rd.p T rfl) rfl (by kernel_rfl) ?_
                   refine D.q (o := _) 18 [] hQ hS rfl (.take 12 false 173 _ rfl rfl rfl rfl) rfl rfl (by exact Rd.p T rfl) rfl (by kernel_rfl) ?_
                   refine hm.cs (fun hb95 hm => ?_) (fun hb95 hm => ?_)
                   ·refine D.q (o := _) 19 [] hQ hS rfl (.take 18 true 179 _ hb95 rfl rfl rfl) rfl rfl (by exact Rd.p T rfl) rfl (by kernel_rfl) ?_
                    refine D.q (o := _) 20 [] hQ hS rfl (.take 18 true 179 _ hb95 rfl rfl rfl) rfl rfl (by exact Rd.p T rfl) rfl (by kernel_rfl) ?_
                    refine D.q (o := _) 21 [] hQ hS rfl (.take 18 true 179 _ hb95 rfl rfl rfl) rfl rfl (by exact Rd.io T rfl rfl rfl rfl rfl rfl rfl hx94) rfl (by kernel_rfl) ?_
                    refine D.q (o := _) 22 [] hQ hS rfl (.take 18 true 179 _ hb95 rfl rfl rfl) rfl rfl (by exact Rd.le T rfl rfl rfl (idx_some hx94).2.2 rfl rfl rfl) rfl (by kernel_rfl) ?_
                    refine D.q (o := _) 23 [] hQ hS rfl (.take 18 true 179 _ hb95 rfl rfl rfl) rfl rfl (by exact Rd.p T rfl) rfl (by kernel_rfl) ?_
                    refine D.q (o := _) 24 [] hQ hS rfl (.take 18 true 179 _ hb95 rfl rfl rfl) rfl rfl (by exact Rd.p T rfl) rfl (by kernel_rfl) ?_
                    refine D.q (o := _) 25 [] hQ hS rfl (.take 18 true 179 _ hb95 rfl rfl rfl) rfl rfl (by exact Rd.io T rfl rfl rfl rfl rfl rfl rfl hx90) rfl (by kernel_rfl) ?_
                    refine D.q (o := _) 26 [] hQ hS rfl (.take 18 true 179 _ hb95 rfl rfl rfl) rfl rfl (by exact Rd.le T rfl rfl rfl (idx_some hx90).2.2 rfl rfl rfl) rfl (by kernel_rfl) ?_
                    refine D.q (o := _) 27 [] hQ hS rfl (.take 18 true 179 _ hb95 rfl rfl rfl) rfl rfl (by exact Rd.p T rfl) rfl (by kernel_rfl) ?_
                    refine D.q (o := _) 28 [] hQ hS rfl (.take 18 true 179 _ hb95 rfl rfl rfl) rfl rfl (by exact Rd.p T rfl) rfl (by kernel_rfl) ?_
                    refine D.q (o := _) 29 [] hQ hS rfl (.take 12 false 173 _ rfl rfl rfl rfl) rfl rfl (by exact Rd.pk rfl rfl hb95 rfl) rfl (by kernel_rfl) ?_
                    refine D.q (o := _) 30 [] hQ hS rfl (.none rfl) rfl rfl (by exact Rd.pk' rfl rfl rfl rfl) rfl (by kernel_rfl) ?_
                    refine D.done (by kernel_rfl) ?_
                    exact St.wk (hJ89 _ hm) (Wk.mk' [some 0, some 1, some 2, some 3, some 4] rfl rfl (.eqs rfl) ⟨⟨_, rfl, .box rfl (.eq rfl)⟩, ⟨_, rfl, .val rfl⟩, ⟨_, rfl, .box rfl (.eq rfl)⟩, ⟨_, rfl, .val rfl⟩, ⟨_, rfl, .val rfl⟩, trivial⟩ rfl)
                   ·refine D.sq (o := _) 19 [] hQ hS rfl (.skip 18 true 179 _ hb95 rfl rfl rfl) rfl rfl (by kernel_rfl) ?_
                    refine D.sq (o := _) 20 [] hQ hS rfl (.skip 18 true 179 _ hb95 rfl rfl rfl) rfl rfl (by kernel_rfl) ?_
                    refine D.sq (o := _) 21 [] hQ hS rfl (.skip 18 true 179 _ hb95 rfl rfl rfl) rfl rfl (by kernel_rfl) ?_
                    refine D.sq (o := _) 22 [] hQ hS rfl (.skip 18 true 179 _ hb95 rfl rfl rfl) rfl rfl (by kernel_rfl) ?_
                    refine D.sq (o := _) 23 [] hQ hS rfl (.skip 18 true 179 _ hb95 rfl rfl rfl) rfl rfl (by kernel_rfl) ?_
                    refine D.sq (o := _) 24 [] hQ hS rfl (.skip 18 true 179 _ hb95 rfl rfl rfl) rfl rfl (by kernel_rfl) ?_
                    refine D.sq (o := _) 25 [] hQ hS rfl (.skip 18 true 179 _ hb95 rfl rfl rfl) rfl rfl (by kernel_rfl) ?_
                    refine D.sq (o := _) 26 [] hQ hS rfl (.skip 18 true 179 _ hb95 rfl rfl rfl) rfl rfl (by kernel_rfl) ?_
                    refine D.sq (o := _) 27 [] hQ hS rfl (.skip 18 true 179 _ hb95 rfl rfl rfl) rfl rfl (by kernel_rfl) ?_
                    refine D.sq (o := _) 28 [] hQ hS rfl (.skip 18 true 179 _ hb95 rfl rfl rfl) rfl rfl (by kernel_rfl) ?_
                    refine D.q (o := _) 29 [] hQ hS rfl (.take 12 false 173 _ rfl rfl rfl rfl) rfl rfl (by exact Rd.pk' rfl rfl hb95 rfl) rfl (by kernel_rfl) ?_
                    refine D.q (o := _) 30 [] hQ hS rfl (.none rfl) rfl rfl (by exact Rd.pk' rfl rfl rfl rfl) rfl (by kernel_rfl) ?_
                    refine D.done (by kernel_rfl) ?_
                    exact St.wk (hJ89 _ hm) (Wk.mk' [some 0, some 1, some 2, some 3, some 4] rfl rfl (.eqs rfl) ⟨⟨_, rfl, .box rfl (.eq rfl)⟩, ⟨_, rfl, .val rfl⟩, ⟨_, rfl, .box rfl (.eq rfl)⟩, ⟨_, rfl, .val rfl⟩, ⟨_, rfl, .val rfl⟩, trivial⟩ rfl)
               ·refine U.start ?_
                refine U.ps 3 T rfl ?_
                refine hm.cs (fun hb83 hm => ?_) (fun hb83 hm => ?_)
                ·refine U.sks 2 2 false 151 hb83 rfl rfl rfl ?_
                 refine U.r (o := _) rfl (.none rfl) rfl rfl (by exact Rd.pk rfl rfl hb83 rfl) ?_
                 refine U.ps 1 T rfl ?_
                 refine U.sks 4 6 false 155 rfl rfl rfl rfl ?_
                 refine U.r (o := _) rfl (.none rfl) rfl rfl (by exact Rd.pk rfl rfl rfl rfl) ?_
                 refine U.done ?_
                 exact St.wk (hJ82 _ hm) (Wk.mk' [some 0, some 1, some 2, some 3, some 4] rfl rfl (.eqs rfl) ⟨⟨_, rfl, .box rfl (.eq rfl)⟩, ⟨_, rfl, .val rfl⟩, ⟨_, rfl, .box rfl (.eq rfl)⟩, ⟨_, rfl, .val rfl⟩, ⟨_, rfl, .val rfl⟩, trivial⟩ rfl)
                ·refine U.pg 2 2 false 151 hb83 T rfl rfl rfl rfl ?_
                 refine U.r (o := _) rfl (.none rfl) rfl rfl (by exact Rd.pk' rfl rfl hb83 rfl) ?_
                 refine U.ps 1 T rfl ?_
                 refine hm.cs (fun hb84 hm => ?_) (fun hb84 hm => ?_)
                 ·refine U.sks 4 6 false 155 hb84 rfl rfl rfl ?_
                  refine U.r (o := _) rfl (.none rfl) rfl rfl (by exact Rd.pk rfl rfl hb84 rfl) ?_
                  refine U.done ?_
                  exact St.wk (hJ82 _ hm) (Wk.mk' [some 0, some 1, some 2, some 3, some 4] rfl rfl (.eqs rfl) ⟨⟨_, rfl, .box rfl (.eq rfl)⟩, ⟨_, rfl, .val rfl⟩, ⟨_, rfl, .box rfl (.eq rfl)⟩, ⟨_, rfl, .val rfl⟩, ⟨_, rfl, .val rfl⟩, trivial⟩ rfl)
                 ·refine U.pg 4 6 false 155 hb84 T rfl rfl rfl rfl ?_
                  refine U.r (o := _) rfl (.none rfl) rfl rfl (by exact Rd.pk' rfl rfl hb84 rfl) ?_
                  refine U.done ?_
                  exact St.wk (hJ82 _ hm) (Wk.mk' [some 0, some 1, some 2, some 3, some 4] rfl rfl (.eqs rfl) ⟨⟨_, rfl, .box rfl (.eq rfl)⟩, ⟨_, rfl, .val rfl⟩, ⟨_, rfl, .box rfl (.eq rfl)⟩, ⟨_, rfl, .val rfl⟩, ⟨_, rfl, .val rfl⟩, trivial⟩ rfl)
              ·refine D.beg 9999 [2, 4] [5, 6] mix rfl rfl (by kernel_rfl) (by repeat (first | exact NoPanicQ.body | refine NoPanicQ.th ?_ | refine NoPanicQ.blk ?_)) (fun hQ hS ws M' => ?_)
               refine D.ps 3 [(0, []), (1, []), (2, [])] rfl hQ hS T rfl rfl (by kernel_rfl) ?_
               obtain ⟨x76, hx76, hm⟩ := hm
               refine D.q (o := _) 3 [] hQ hS rfl (.none rfl) rfl rfl (by exact Rd.io T rfl rfl rfl rfl rfl rfl rfl hx76) rfl (by kernel_rfl) ?_
               refine D.q (o := _) 4 [] hQ hS rfl (.none rfl) rfl rfl (by exact Rd.le T rfl rfl rfl (idx_some hx76).2.2 rfl rfl rfl) rfl (by kernel_rfl) ?_
               refine D.two 5 9 (by kernel_rfl) ?_ ?_
               ·refine D.ef (o := _) rfl (.none rfl) (by exact Eff.c [] (v := true) (T_layout_Do x50.1 x76 _ hm) en24 rfl rfl rfl (.cons (.agg (.cons (.fz rfl rfl rfl (.os fun _ => .cons (.ro rfl) .nil)) (.eq rfl))) (.eq rfl)) trivial rfl rfl rfl rfl rfl rfl (fun _ _ => ⟨(.tup (.cons (.agg (.cons (.o _) (.cons (.v _) .nil))) (.cons (.v _) .nil))), ⟨.val (.os _ _ _ fun _ => (.cons (.v _) .nil)), trivial⟩⟩) (.inr ⟨rfl, rfl⟩) (fun _ => rfl) (fun _ => rfl) rfl) rfl rfl (fun x77' hm => ?_)
                obtain ⟨x77⟩ := x77'
                refine D.ps 3 [(6, []), (7, []), (8, [])] rfl hQ hS T rfl rfl (by kernel_rfl) ?_
                refine D.e1 (o := _) 9 rfl (.none rfl) (by exact Eff1.al T rfl rfl rfl rfl) (by kernel_rfl) rfl rfl ?_
                refine D.e1 (o := _) 10 rfl (.none rfl) (by exact Eff1.st T rfl rfl rfl rfl rfl rfl rfl rfl rfl rfl) (by kernel_rfl) rfl rfl ?_
                refine D.ps 1 [(11, [])] rfl hQ hS T rfl rfl (by kernel_rfl) ?_
                refine D.done (by kernel_rfl) ?_
                exact St.wk (hJ75 _ hm) (Wk.mk' [some 0, some 1, some 2, some 3, some 4, some 6, some 5] rfl rfl (.eqs rfl) ⟨⟨_, rfl, .box rfl (.eq rfl)⟩, ⟨_, rfl, .val rfl⟩, ⟨_, rfl, .box rfl (.eq rfl)⟩, ⟨_, rfl, .val rfl⟩, ⟨_, rfl, .val rfl⟩, ⟨_, rfl, .box rfl (.eq rfl)⟩, ⟨_, rfl, .val rfl⟩, trivial⟩ rfl)
               ·refine D.ef1 (o := _) rfl (.none rfl) (by exact Eff1.al T rfl rfl rfl rfl) rfl rfl ?_
                refine D.e (o := _) 5 rfl (.none rfl) (by exact Eff.c [] (v := true) (T_layout_Do x50.1 x76 _ hm) en24 rfl rfl rfl (.cons (.agg (.cons (.fz rfl rfl rfl (.os fun _ => .cons (.ro rfl) .nil)) (.eq rfl))) (.eq rfl)) trivial rfl rfl rfl rfl rfl rfl (fun _ _ => ⟨(.tup (.cons (.agg (.cons (.o _) (.cons (.v _) .nil))) (.cons (.v _) .nil))), ⟨.val (.os _ _ _ fun _ => (.cons (.v _) .nil)), trivial⟩⟩) (.inr ⟨rfl, rfl⟩) (fun _ => rfl) (fun _ => rfl) rfl) (by kernel_rfl) rfl rfl (fun x77' hm => ?_)
                obtain ⟨x77⟩ := x77'
                refine D.ps 3 [(6, []), (7, []), (8, [])] rfl hQ hS T rfl rfl (by kernel_rfl) ?_
                refine D.e1 (o := _) 10 rfl (.none rfl) (by exact Eff1.st T rfl rfl rfl rfl rfl rfl rfl rfl rfl rfl) (by kernel_rfl) rfl rfl ?_
                refine D.ps 1 [(11, [])] rfl hQ hS T rfl rfl (by kernel_rfl) ?_
                refine D.done (by kernel_rfl) ?_
                exact St.wk (hJ75 _ hm) (Wk.mk' [some 0, some 1, some 2, some 3, some 4, some 5, some 6] rfl rfl (.eqs rfl) ⟨⟨_, rfl, .box rfl (.eq rfl)⟩, ⟨_, rfl, .val rfl⟩, ⟨_, rfl, .box rfl (.eq rfl)⟩, ⟨_, rfl, .val rfl⟩, ⟨_, rfl, .val rfl⟩, ⟨_, rfl, .box rfl (.eq rfl)⟩, ⟨_, rfl, .val rfl⟩, trivial⟩ rfl)
             ·refine C.exit (C.ex (C.ex (C.bex ?_)))
              exact St.wk (hJ68 _ hm) (Wk.mk' [some 0, some 1] rfl rfl (.eqs rfl) ⟨⟨_, rfl, .box rfl (.eq rfl)⟩, ⟨_, rfl, .val rfl⟩, trivial⟩ rfl)
          ·refine D.beg 9999 [1, 3] [] mix rfl rfl (by kernel_rfl) (by repeat (first | exact NoPanicQ.body | refine NoPanicQ.th ?_ | refine NoPanicQ.blk ?_)) (fun hQ hS ws M' => ?_)
           refine D.ps 3 [(0, []), (1, []), (2, [])] rfl hQ hS T rfl rfl (by kernel_rfl) ?_
           refine hm.cs (fun hb53 hm => ?_) (fun hb53 hm => ?_)
           ·refine D.q (o := _) 3 [] hQ hS rfl (.take 2 false 104 _ (ntF hb53) rfl rfl rfl) rfl rfl (by exact Rd.p T rfl) rfl (by kernel_rfl) ?_
            refine D.q (o := _) 4 [] hQ hS rfl (.take 2 false 104 _ (ntF hb53) rfl rfl rfl) rfl rfl (by exact Rd.p T rfl) rfl (by kernel_rfl) ?_
            obtain ⟨x54, hx54, hm⟩ := hm
            refine D.q (o := _) 5 [] hQ hS rfl (.take 2 false 104 _ (ntF hb53) rfl rfl rfl) rfl rfl (by exact Rd.io T rfl rfl rfl rfl rfl rfl rfl hx54) rfl (by kernel_rfl) ?_
            refine D.q (o := _) 6 [] hQ hS rfl (.take 2 false 104 _ (ntF hb53) rfl rfl rfl) rfl rfl (by exact Rd.le T rfl rfl rfl (idx_some hx54).2.2 rfl rfl rfl) rfl (by kernel_rfl) ?_
            refine D.q (o := _) 7 [] hQ hS rfl (.take 2 false 104 _ (ntF hb53) rfl rfl rfl) rfl rfl (by exact Rd.p T rfl) rfl (by kernel_rfl) ?_
            refine D.q (o := _) 8 [] hQ hS rfl (.take 2 false 104 _ (ntF hb53) rfl rfl rfl) rfl rfl (by exact Rd.p T rfl) rfl (by kernel_rfl) ?_
            refine D.q (o := _) 9 [] hQ hS rfl (.take 2 false 104 _ (ntF hb53) rfl rfl rfl) rfl rfl (by exact Rd.l T rfl rfl rfl) rfl (by kernel_rfl) ?_
            refine D.q (o := _) 10 [] hQ hS rfl (.take 2 false 104 _ (ntF hb53) rfl rfl rfl) rfl rfl (by exact Rd.p T rfl) rfl (by kernel_rfl) ?_
            refine D.q (o := _) 11 [] hQ hS rfl (.take 2 false 104 _ (ntF hb53) rfl rfl rfl) rfl rfl (by exact Rd.p T rfl) rfl (by kernel_rfl) ?_
            refine D.q (o := _) 12 [] hQ hS rfl (.take 2 false 104 _ (ntF hb53) rfl rfl rfl) rfl rfl (by exact Rd.p T rfl) rfl (by kernel_rfl) ?_
            refine D.q (o := _) 13 [] hQ hS rfl (.none rfl) rfl rfl (by exact Rd.pk' rfl rfl (ntF hb53) rfl) rfl (by kernel_rfl) ?_
            refine D.ps 1 [(14, [])] rfl hQ hS T rfl rfl (by kernel_rfl) ?_
            refine hm.cs (fun hb55 hm => ?_) (fun hb55 hm => ?_)
            ·refine D.q (o := _) 15 [] hQ hS rfl (.take 14 false 116 _ (ntF hb55) rfl rfl rfl) rfl rfl (by exact Rd.p T rfl) rfl (by kernel_rfl) ?_
             refine D.q (o := _) 16 [] hQ hS rfl (.take 14 false 116 _ (ntF hb55) rfl rfl rfl) rfl rfl (by exact Rd.p T rfl) rfl (by kernel_rfl) ?_
             refine D.q (o := _) 17 [] hQ hS rfl (.take 14 false 116 _ (ntF hb55) rfl rfl rfl) rfl rfl (by exact Rd.io T rfl rfl rfl rfl rfl rfl rfl hx54) rfl (by kernel_rfl) ?_
             refine D.q (o := _) 18 [] hQ hS rfl (.take 14 false 116 _ (ntF hb55) rfl rfl rfl) rfl rfl (by exact Rd.le T rfl rfl rfl (idx_some hx54).2.2 rfl rfl rfl) rfl (by kernel_rfl) ?_
             refine D.q (o := _) 19 [] hQ hS rfl (.take 14 false 116 _ (ntF hb55) rfl rfl rfl) rfl rfl (by exact Rd.p T rfl) rfl (by kernel_rfl) ?_
             refine D.q (o := _) 20 [] hQ hS rfl (.none rfl) rfl rfl (by exact Rd.pk' rfl rfl (ntF hb55) rfl) rfl (by kernel_rfl) ?_
             refine D.done (by kernel_rfl) ?_
             exact St.wk (hJ52 _ hm) (Wk.mk' [some 0, some 1, some 3, some 2] rfl rfl (.eqs rfl) ⟨⟨_, rfl, .box rfl (.eq rfl)⟩, ⟨_, rfl, .val rfl⟩, ⟨_, rfl, .box rfl (.eq rfl)⟩, ⟨_, rfl, .val rfl⟩, trivial⟩ rfl)
            ·refine D.sq (o := _) 15 [] hQ hS rfl (.skip 14 false 116 _ (ntT hb55) rfl rfl rfl) rfl rfl (by kernel_rfl) ?_
             refine D.sq (o := _) 16 [] hQ hS rfl (.skip 14 false 116 _ (ntT hb55) rfl rfl rfl) rfl rfl (by kernel_rfl) ?_
             refine D.sq (o := _) 17 [] hQ hS rfl (.skip 14 false 116 _ (ntT hb55) rfl rfl rfl) rfl rfl (by kernel_rfl) ?_
             refine D.sq (o := _) 18 [] hQ hS rfl (.skip 14 false 116 _ (ntT hb55) rfl rfl rfl) rfl rfl (by kernel_rfl) ?_
             refine D.sq (o := _) 19 [] hQ hS rfl (.skip 14 false 116 _ (ntT hb55) rfl rfl rfl) rfl rfl (by kernel_rfl) ?_
             refine D.q (o := _) 20 [] hQ hS rfl (.none rfl) rfl rfl (by exact Rd.pk rfl rfl (ntT hb55) rfl) rfl (by kernel_rfl) ?_
             refine D.done (by kernel_rfl) ?_
             exact St.wk (hJ52 _ hm) (Wk.mk' [some 0, some 1, some 3, some 2] rfl rfl (.eqs rfl) ⟨⟨_, rfl, .box rfl (.eq rfl)⟩, ⟨_, rfl, .val rfl⟩, ⟨_, rfl, .box rfl (.eq rfl)⟩, ⟨_, rfl, .val rfl⟩, trivial⟩ rfl)
           ·refine D.sq (o := _) 3 [] hQ hS rfl (.skip 2 false 104 _ (ntT hb53) rfl rfl rfl) rfl rfl (by kernel_rfl) ?_
            refine D.sq (o := _) 4 [] hQ hS rfl (.skip 2 false 104 _ (ntT hb53) rfl rfl rfl) rfl rfl (by kernel_rfl) ?_
            refine D.sq (o := _) 5 [] hQ hS rfl (.skip 2 false 104 _ (ntT hb53) rfl rfl rfl) rfl rfl (by kernel_rfl) ?_
            refine D.sq (o := _) 6 [] hQ hS rfl (.skip 2 false 104 _ (ntT hb53) rfl rfl rfl) rfl rfl (by kernel_rfl) ?_
            refine D.sq (o := _) 7 [] hQ hS rfl (.skip 2 false 104 _ (ntT hb53) rfl rfl rfl) rfl rfl (by kernel_rfl) ?_
            refine D.sq (o := _) 8 [] hQ hS rfl (.skip 2 false 104 _ (ntT hb53) rfl rfl rfl) rfl rfl (by kernel_rfl) ?_
            refine D.sq (o := _) 9 [] hQ hS rfl (.skip 2 false 104 _ (ntT hb53) rfl rfl rfl) rfl rfl (by kernel_rfl) ?_
            refine D.sq (o := _) 10 [] hQ hS rfl (.skip 2 false 104 _ (ntT hb53) rfl rfl rfl) rfl rfl (by kernel_rfl) ?_
            refine D.sq (o := _) 11 [] hQ hS rfl (.skip 2 false 104 _ (ntT hb53) rfl rfl rfl) rfl rfl (by kernel_rfl) ?_
            refine D.sq (o := _) 12 [] hQ hS rfl (.skip 2 false 104 _ (ntT hb53) rfl rfl rfl) rfl rfl (by kernel_rfl) ?_
            refine D.q (o := _) 13 [] hQ hS rfl (.none rfl) rfl rfl (by exact Rd.pk rfl rfl (ntT hb53) rfl) rfl (by kernel_rfl) ?_
            refine D.ps 1 [(14, [])] rfl hQ hS T rfl rfl (by kernel_rfl) ?_
            refine D.sq (o := _) 15 [] hQ hS rfl (.skip 14 false 116 _ rfl rfl rfl rfl) rfl rfl (by kernel_rfl) ?_
            refine D.sq (o := _) 16 [] hQ hS rfl (.skip 14 false 116 _ rfl rfl rfl rfl) rfl rfl (by kernel_rfl) ?_
            refine D.sq (o := _) 17 [] hQ hS rfl (.skip 14 false 116 _ rfl rfl rfl rfl) rfl rfl (by kernel_rfl) ?_
            refine D.sq (o := _) 18 [] hQ hS rfl (.skip 14 false 116 _ rfl rfl rfl rfl) rfl rfl (by kernel_rfl) ?_
            refine D.sq (o := _) 19 [] hQ hS rfl (.skip 14 false 116 _ rfl rfl rfl rfl) rfl rfl (by kernel_rfl) ?_
            refine D.q (o := _) 20 [] hQ hS rfl (.none rfl) rfl rfl (by exact Rd.pk rfl rfl rfl rfl) rfl (by kernel_rfl) ?_
            refine D.done (by kernel_rfl) ?_
            exact St.wk (hJ52 _ hm) (Wk.mk' [some 0, some 1, some 3, some 2] rfl rfl (.eqs rfl) ⟨⟨_, rfl, .box rfl (.eq rfl)⟩, ⟨_, rfl, .val rfl⟩, ⟨_, rfl, .box rfl (.eq rfl)⟩, ⟨_, rfl, .val rfl⟩, trivial⟩ rfl)
        ·refine C.exit (C.ex (C.ex (C.bex ?_)))
         exact St.wk (hJ40 _ hm) (Wk.mk' [] rfl rfl (.eqs rfl) trivial rfl)
     ·refine U.start ?_
      refine U.ps 3 T rfl ?_
      refine hm.cs (fun hb32 hm => ?_) (fun hb32 hm => ?_)
      ·refine U.sks 7 2 false 79 hb32 rfl rfl rfl ?_
       refine U.r (o := _) rfl (.none rfl) rfl rfl (by exact Rd.pk rfl rfl hb32 rfl) ?_
       refine U.done ?_
       exact St.wk (hJ31 _ hm) (Wk.mk' [some 0, some 1] rfl rfl (.eqs rfl) ⟨⟨_, rfl, .box rfl (.eq rfl)⟩, ⟨_, rfl, .val rfl⟩, trivial⟩ rfl)
      ·refine U.pg 5 2 false 79 hb32 T rfl rfl rfl rfl ?_
       refine U.e (o := _) rfl (.take 2 false 79 _ hb32 rfl rfl rfl) (by exact Eff.c [] (v := true) (T_layout_Count (r.length : Int) k _ hm) en21 rfl rfl rfl (.eq rfl) trivial rfl rfl rfl rfl rfl rfl (fun _ _ => ⟨(.v _), trivial⟩) (.inr ⟨rfl, rfl⟩) (fun _ => rfl) (fun _ => rfl) rfl) (fun x33' hm => ?_)
       obtain ⟨x33⟩ := x33'
       refine U.pg 1 2 false 79 hb32 T rfl rfl rfl rfl ?_
       refine U.r (o := _) rfl (.none rfl) rfl rfl (by exact Rd.pk' rfl rfl hb32 rfl) ?_
       refine U.done ?_
       exact St.wk (hJ31 _ hm) (Wk.mk' [some 0, some 1] rfl rfl (.eqs rfl) ⟨⟨_, rfl, .box rfl (.eq rfl)⟩, ⟨_, rfl, .val rfl⟩, trivial⟩ rfl)
   ·refine U.start ?_
    refine U.ps 3 T rfl ?_
    refine hm.cs (fun hb22 hm => ?_) (fun hb22 hm => ?_)
    ·refine U.sks 4 2 false 51 hb22 rfl rfl rfl ?_
     refine U.r (o := _) rfl (.none rfl) rfl rfl (by exact Rd.pk rfl rfl hb22 rfl) ?_
     refine U.ps 1 T rfl ?_
     refine U.sks 2 8 false 57 rfl rfl rfl rfl ?_
     refine U.r (o := _) rfl (.none rfl) rfl rfl (by exact Rd.pk rfl rfl rfl rfl) ?_
     refine U.ps 1 T rfl ?_
     refine U.sks 4 12 false 61 rfl rfl rfl rfl ?_
     refine U.r (o := _) rfl (.none rfl) rfl rfl (by exact Rd.pk rfl rfl rfl rfl) ?_
     refine U.done ?_
     exact St.wk (hJ21 _ hm) (Wk.mk' [some 0, some 1] rfl rfl (.eqs rfl) ⟨⟨_, rfl, .box rfl (.eq rfl)⟩, ⟨_, rfl, .val rfl⟩, trivial⟩ rfl)
    ·refine U.pg 4 2 false 51 hb22 T rfl rfl rfl rfl ?_
     refine U.r (o := _) rfl (.none rfl) rfl rfl (by exact Rd.pk' rfl rfl hb22 rfl) ?_
     refine U.ps 1 T rfl ?_
     refine hm.cs (fun hb23 hm => ?_) (fun hb23 hm => ?_)
     ·refine U.sks 2 8 false 57 hb23 rfl rfl rfl ?_
      refine U.r (o := _) rfl (.none rfl) rfl rfl (by exact Rd.pk rfl rfl hb23 rfl) ?_
      refine U.ps 1 T rfl ?_
      refine U.sks 4 12 false 61 rfl rfl rfl rfl ?_
      refine U.r (o := _) rfl (.none rfl) rfl rfl (by exact Rd.pk rfl rfl rfl rfl) ?_
      refine U.done ?_
      exact St.wk (hJ21 _ hm) (Wk.mk' [some 0, some 1] rfl rfl (.eqs rfl) ⟨⟨_, rfl, .box rfl (.eq rfl)⟩, ⟨_, rfl, .val rfl⟩, trivial⟩ rfl)
     ·refine U.pg 2 8 false 57 hb23 T rfl rfl rfl rfl ?_
      refine U.r (o := _) rfl (.none rfl) rfl rfl (by exact Rd.pk' rfl rfl hb23 rfl) ?_
      refine U.ps 1 T rfl ?_
      refine hm.cs (fun hb24 hm => ?_) (fun hb24 hm => ?_)
      ·refine U.sks 4 12 false 61 hb24 rfl rfl rfl ?_
       refine U.r (o := _) rfl (.none rfl) rfl rfl (by exact Rd.pk rfl rfl hb24 rfl) ?_
       refine U.done ?_
       exact St.wk (hJ21 _ hm) (Wk.mk' [some 0, some 1] rfl rfl (.eqs rfl) ⟨⟨_, rfl, .box rfl (.eq rfl)⟩, ⟨_, rfl, .val rfl⟩, trivial⟩ rfl)
      ·refine U.pg 4 12 false 61 hb24 T rfl rfl rfl rfl ?_
       refine U.r (o := _) rfl (.none rfl) rfl rfl (by exact Rd.pk' rfl rfl hb24 rfl) ?_
       refine U.done ?_
       exact St.wk (hJ21 _ hm) (Wk.mk' [some 0, some 1] rfl rfl (.eqs rfl) ⟨⟨_, rfl, .box rfl (.eq rfl)⟩, ⟨_, rfl, .val rfl⟩, trivial⟩ rfl)
 ·refine U.start ?_
  refine U.ps 1 T rfl ?_
  refine U.e (o := _) rfl (.none rfl) (by exact Eff.c [] (v := true) (T_taquinref07_Few f 100 _ hm) en18 rfl rfl rfl (.eq rfl) trivial rfl rfl rfl rfl rfl rfl (fun _ _ => ⟨(.v _), trivial⟩) (.inr ⟨rfl, rfl⟩) (fun _ => rfl) (fun _ => rfl) rfl) (fun x8' hm => ?_)
  obtain ⟨x8⟩ := x8'
  refine U.ps 2 T rfl ?_
  refine hm.cs (fun hb9 hm => ?_) (fun hb9 hm => ?_)
  ·refine U.pg 1 3 false 25 (ntF hb9) T rfl rfl rfl rfl ?_
   refine U.e (o := _) rfl (.take 3 false 25 _ (ntF hb9) rfl rfl rfl) (by exact Eff.c [] (v := true) (T_taquinref07_Right f _ hm) en19 rfl rfl rfl (.eq rfl) trivial rfl rfl rfl rfl rfl rfl (fun _ _ => ⟨(.v _), trivial⟩) (.inr ⟨rfl, rfl⟩) (fun _ => rfl) (fun _ => rfl) rfl) (fun x10' hm => ?_)
   obtain ⟨x10⟩ := x10'
   refine U.pg 1 3 false 25 (ntF hb9) T rfl rfl rfl rfl ?_
   refine U.r (o := _) rfl (.none rfl) rfl rfl (by exact Rd.pk' rfl rfl (ntF hb9) rfl) ?_
   refine U.ps 1 T rfl ?_
   refine hm.cs (fun hb11 hm => ?_) (fun hb11 hm => ?_)
   ·refine U.pg 3 8 false 30 (ntF hb11) T rfl rfl rfl rfl ?_
    refine U.r (o := _) rfl (.none rfl) rfl rfl (by exact Rd.pk' rfl rfl (ntF hb11) rfl) ?_
    refine U.ps 1 T rfl ?_
    refine hm.cs (fun hb12 hm => ?_) (fun hb12 hm => ?_)
    ·refine U.sks 3 13 false 35 hb12 rfl rfl rfl ?_
     refine U.r (o := _) rfl (.none rfl) rfl rfl (by exact Rd.pk rfl rfl hb12 rfl) ?_
     refine U.done ?_
     exact St.wk (hJ7 _ hm) (Wk.mk' [some 0] rfl rfl (.eqs rfl) ⟨⟨_, rfl, .box rfl (.eq rfl)⟩, trivial⟩ rfl)
    ·refine U.pg 1 13 false 35 hb12 T rfl rfl rfl rfl ?_
     refine U.e (o := _) rfl (.take 13 false 35 _ hb12 rfl rfl rfl) (by exact Eff.c [] (v := true) (T_taquinref08_Right r _ hm) en20 rfl rfl rfl (.eq rfl) trivial rfl rfl rfl rfl rfl rfl (fun _ _ => ⟨(.v _), trivial⟩) (.inr ⟨rfl, rfl⟩) (fun _ => rfl) (fun _ => rfl) rfl) (fun x13' hm => ?_)
     obtain ⟨x13⟩ := x13'
     refine U.pg 1 13 false 35 hb12 T rfl rfl rfl rfl ?_
     refine U.r (o := _) rfl (.none rfl) rfl rfl (by exact Rd.pk' rfl rfl hb12 rfl) ?_
     refine U.done ?_
     exact St.wk (hJ7 _ hm) (Wk.mk' [some 0] rfl rfl (.eqs rfl) ⟨⟨_, rfl, .box rfl (.eq rfl)⟩, trivial⟩ rfl)
   ·refine U.sks 3 8 false 30 (ntT hb11) rfl rfl rfl ?_
    refine U.r (o := _) rfl (.none rfl) rfl rfl (by exact Rd.pk rfl rfl (ntT hb11) rfl) ?_
    refine U.ps 1 T rfl ?_
    refine U.sks 3 13 false 35 rfl rfl rfl rfl ?_
    refine U.r (o := _) rfl (.none rfl) rfl rfl (by exact Rd.pk rfl rfl rfl rfl) ?_
    refine U.done ?_
    exact St.wk (hJ7 _ hm) (Wk.mk' [some 0] rfl rfl (.eqs rfl) ⟨⟨_, rfl, .box rfl (.eq rfl)⟩, trivial⟩ rfl)
  ·refine U.sks 3 3 false 25 (ntT hb9) rfl rfl rfl ?_
   refine U.r (o := _) rfl (.none rfl) rfl rfl (by exact Rd.pk rfl rfl (ntT hb9) rfl) ?_
   refine U.ps 1 T rfl ?_
   refine U.sks 3 8 false 30 rfl rfl rfl rfl ?_
   refine U.r (o := _) rfl (.none rfl) rfl rfl (by exact Rd.pk rfl rfl rfl rfl) ?_
   refine U.ps 1 T rfl ?_
   refine U.sks 3 13 false 35 rfl rfl rfl rfl ?_
   refine U.r (o := _) rfl (.none rfl) rfl rfl (by exact Rd.pk rfl rfl rfl rfl) ?_
   refine U.done ?_
   exact St.wk (hJ7 _ hm) (Wk.mk' [some 0] rfl rfl (.eqs rfl) ⟨⟨_, rfl, .box rfl (.eq rfl)⟩, trivial⟩ rfl)
end Go.Proofs.Ytenplejkcfhplaa
