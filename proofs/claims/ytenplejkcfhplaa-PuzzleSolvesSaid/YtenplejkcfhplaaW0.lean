/- The walks: each Go function does what its verification condition says (written by a program of the prover). -/
import Derived.Test.YtenplejkcfhplaaEnc
import Derived.KernelRfl
set_option maxRecDepth 100000
set_option maxHeartbeats 8000000
set_option linter.unusedVariables false
namespace Go.Proofs.Ytenplejkcfhplaa
open Go Go.Taq
theorem T_taquinlaw26_deck (w : Int) (h : Int) (post : ApiFloor → Prop) (hm : V_taquinlaw26_deck w h post) :
    Tr Try.prog 28 [.i w, .i h] [] 0 (fun A H' k => ∃ y, post y ∧ A = (.agg [.i y.W, .i y.H, .i y.D, .o 0, .o 1]) ∧ H' = [(0, .val (.os 1 eI y.Kind)), (1, .val (.os 1 eI y.Out))] ∧ k = 2) := by
 refine Tr.intro (n := 28) Try.func28 rfl Try.ntmps28 rfl (fun w0 ok F β hβ => ?_)
 unfold V_taquinlaw26_deck at hm
 refine C.seq (U.start ?_)
 refine U.e1 (o := _) rfl (.none rfl) (by exact Eff1.al T rfl rfl rfl rfl) ?_
 refine U.done (C.nx (C.seq (U.start ?_)))
 refine U.ps 3 T rfl ?_
 refine U.e1 (o := _) rfl (.none rfl) (by exact Eff1.al T rfl rfl rfl rfl) ?_
 refine U.e1 (o := _) rfl (.none rfl) (by exact Eff1.st T rfl rfl rfl rfl rfl rfl rfl rfl rfl rfl) ?_
 refine U.done (C.nx (C.seq (C.seq (U.start ?_))))
 refine U.ps 1 T rfl ?_
 refine U.done (C.nx ?_)
 refine C.jn (fun (x7 : List Int × List Int) => [(4, .p 0 0), (5, .p 1 0)]) (fun (x7 : List Int × List Int) => [(0, .box [.i 0, .i 0, .i 0, .v (.slice none 0 0), .v (.slice none 0 0)]), (1, .box [.i w, .i h, .i 1, .o 2, .o 3]), (2, .val (.os 1 eI x7.1)), (3, .val (.os 1 eI x7.2))]) 4 hm (fun x7 hm => ?_) (fun J8 hm hJ8 => ?_)
 ·refine C.nx (C.seq (U.start ?_))
  refine U.ps 1 T rfl ?_
  refine U.e1 (o := _) rfl (.none rfl) (by exact Eff1.st T rfl rfl rfl rfl rfl rfl rfl rfl rfl rfl) ?_
  refine U.done (C.nx (C.ret ?_))
  exact C.fin T (rs' := [.agg [.i (({ W := w, H := h, D := 1, Kind := x7.1, Out := x7.2 : ApiFloor }).W), .i (({ W := w, H := h, D := 1, Kind := x7.1, Out := x7.2 : ApiFloor }).H), .i (({ W := w, H := h, D := 1, Kind := x7.1, Out := x7.2 : ApiFloor }).D), .o 0, .o 1]]) (H' := [(0, .val (.os 1 eI (({ W := w, H := h, D := 1, Kind := x7.1, Out := x7.2 : ApiFloor }).Kind))), (1, .val (.os 1 eI (({ W := w, H := h, D := 1, Kind := x7.1, Out := x7.2 : ApiFloor }).Out)))]) (nl' := 2) [some 2, some 3] rfl rfl (.eq rfl) ⟨⟨_, rfl, .val rfl⟩, ⟨_, rfl, .val rfl⟩, trivial⟩ rfl rfl rfl rfl hβ ⟨({ W := w, H := h, D := 1, Kind := x7.1, Out := x7.2 : ApiFloor }), hm, rfl, rfl, rfl⟩
 ·refine C.block ?_
  refine St.wk (C.loop (fun (s9 : List Int × List Int × Int) => [(0, .i w), (1, .i h), (4, .p 0 0), (5, .p 1 0), (6, .i s9.2.2)]) (fun (s9 : List Int × List Int × Int) => [(0, .box [.i 0, .i 0, .i 0, .v (.slice none 0 0), .v (.slice none 0 0)]), (1, .box [.i w, .i h, .i 1, .o 2, .o 3]), (2, .val (.os 1 eI s9.1)), (3, .val (.os 1 eI s9.2.1))]) hm (fun s9 Y10 hm => ?_)) (Wk.mk' [some 0, some 1, none, none] rfl rfl (.eqs rfl) ⟨⟨_, rfl, .box rfl (.eq rfl)⟩, ⟨_, rfl, .box rfl (.cons (.eq rfl) (.cons (.eq rfl) (.cons (.eq rfl) (.cons (.nilO _ _ ⟨rfl, rfl⟩ rfl) (.cons (.nilO _ _ ⟨rfl, rfl⟩ rfl) .nil)))))⟩, ⟨_, rfl, .nil _ _⟩, ⟨_, rfl, .nil _ _⟩, trivial⟩ rfl)
  refine C.seq (C.seq (U.start ?_))
  refine U.ps 5 T rfl ?_
  refine U.done (C.nx ?_)
  refine C.ite rfl hm (fun hb13 hm => ?_) (fun hb13 hm => ?_)
  ·refine C.skip (C.nx (C.seq (C.block (C.seq (U.start ?_)))))
   refine U.ps 2 T rfl ?_
   refine U.e1 (o := _) rfl (.none rfl) (by exact Eff1.bs T (enc := eI) (xs := ([1] : List Int)) rfl rfl rfl rfl rfl rfl rfl rfl rfl rfl (fun _ _ => rfl) rfl rfl) ?_
   obtain ⟨hx16, hm⟩ := hm
   refine U.e1 (o := _) rfl (.none rfl) (by exact Eff1.ap T rfl rfl rfl rfl rfl rfl (.inr ⟨_, rfl, rfl⟩) rfl rfl rfl (fun _ => rfl) rfl hx16) ?_
   refine U.ps 1 T rfl ?_
   refine U.e1 (o := _) rfl (.none rfl) (by exact Eff1.st T rfl rfl rfl rfl rfl rfl rfl rfl rfl rfl) ?_
   refine U.done (C.nx (U.start ?_))
   refine U.ps 2 T rfl ?_
   refine U.e1 (o := _) rfl (.none rfl) (by exact Eff1.bs T (enc := eI) (xs := ([63] : List Int)) rfl rfl rfl rfl rfl rfl rfl rfl rfl rfl (fun _ _ => rfl) rfl rfl) ?_
   obtain ⟨hx19, hm⟩ := hm
   refine U.e1 (o := _) rfl (.none rfl) (by exact Eff1.ap T rfl rfl rfl rfl rfl rfl (.inr ⟨_, rfl, rfl⟩) rfl rfl rfl (fun _ => rfl) rfl hx19) ?_
   refine U.ps 1 T rfl ?_
   refine U.e1 (o := _) rfl (.none rfl) (by exact Eff1.st T rfl rfl rfl rfl rfl rfl rfl rfl rfl rfl) ?_
   refine U.done (C.bnx (C.nx (U.start ?_)))
   refine U.ps 3 T rfl ?_
   refine U.done (C.nx ?_)
   exact St.wk (C.next hm) (Wk.mk' [some 0, some 1, some 5, some 7] rfl rfl (.eqs rfl) ⟨⟨_, rfl, .box rfl (.eq rfl)⟩, ⟨_, rfl, .box rfl (.eq rfl)⟩, ⟨_, rfl, .val rfl⟩, ⟨_, rfl, .val rfl⟩, trivial⟩ rfl)
  ·refine C.exit (C.ex (C.ex (C.bex ?_)))
   exact St.wk (hJ8 _ hm) (Wk.mk' [some 0, some 1, some 2, some 3] rfl rfl (.eqs rfl) ⟨⟨_, rfl, .box rfl (.eq rfl)⟩, ⟨_, rfl, .box rfl (.eq rfl)⟩, ⟨_, rfl, .val rfl⟩, ⟨_, rfl, .val rfl⟩, trivial⟩ rfl)
theorem T_layout_Shelves (l : ApiLayout) (post : Int → Prop) (hm : V_layout_Shelves l post) :
    Tr Try.prog 26 [.agg [.sl 1 eB l.Full, .i l.Target]] [] 0 (fun A H' k => ∃ y, post y ∧ A = (.i y) ∧ H' = [] ∧ k = 0) := by
 refine Tr.intro (n := 18) Try.func26 rfl Try.ntmps26 rfl (fun w0 ok F β hβ => ?_)
 unfold V_layout_Shelves at hm
 refine C.seq (U.start ?_)
 refine U.e1 (o := _) rfl (.none rfl) (by exact Eff1.box rfl rfl rfl rfl rfl) ?_
 refine U.ps 1 T rfl ?_
 refine U.done (C.nx (C.seq (U.start ?_)))
 refine U.ps 1 T rfl ?_
 refine U.done (C.nx (C.seq (C.seq (U.start ?_))))
 refine U.ps 4 T rfl ?_
 refine U.done (C.nx ?_)
 refine C.jn (fun (x7 : Int) => [(3, .i x7)]) (fun (x7 : Int) => []) 0 hm (fun x7 hm => ?_) (fun J8 hm hJ8 => ?_)
 ·refine C.nx (C.seq (U.start ?_))
  refine U.ps 2 T rfl ?_
  refine U.done (C.nx (C.ret ?_))
  exact C.fin T (rs' := [.i x7]) (H' := []) (nl' := 0) [] rfl rfl (.eq rfl) trivial rfl rfl rfl rfl hβ ⟨x7, hm, rfl, rfl, rfl⟩
 ·refine C.block ?_
  refine St.wk (C.loop (fun (s9 : Int × Int) => [(3, .i s9.1), (7, .sl 1 eB l.Full), (8, .i (l.Full.length : Int)), (9, .i s9.2)]) (fun (s9 : Int × Int) => []) hm (fun s9 Y10 hm => ?_)) (Wk.mk' [] rfl rfl (.eqs rfl) trivial rfl)
  refine C.seq (U.start ?_)
  refine U.ps 1 T rfl ?_
  refine U.done (C.nx (C.seq ?_))
  refine C.ite rfl hm (fun hb13 hm => ?_) (fun hb13 hm => ?_)
  ·refine C.skip (C.nx (C.seq (C.block (C.seq (U.start ?_)))))
   obtain ⟨x16, hx16, hm⟩ := hm
   refine U.r (o := _) rfl (.none rfl) rfl rfl (by exact Rd.ix T rfl rfl rfl rfl rfl rfl hx16) ?_
   refine U.ps 2 T rfl ?_
   refine U.done (C.nx (C.seq (U.start ?_)))
   refine U.ps 1 T rfl ?_
   refine U.done (C.nx ?_)
   refine C.jn (fun (x19 : Int) => [(3, .i x19), (7, .sl 1 eB l.Full), (8, .i (l.Full.length : Int)), (9, .i s9.2)]) (fun (x19 : Int) => []) 0 hm (fun x19 hm => ?_) (fun J20 hm hJ20 => ?_)
   ·refine C.bnx (C.nx (U.start ?_))
    refine U.ps 2 T rfl ?_
    refine U.done (C.nx ?_)
    exact St.wk (C.next hm) (Wk.mk' [] rfl rfl (.eqs rfl) trivial rfl)
   ·refine C.ite rfl hm (fun hb21 hm => ?_) (fun hb21 hm => ?_)
    ·refine U.start ?_
     refine U.ps 3 T rfl ?_
     refine U.done ?_
     exact St.wk (hJ20 _ hm) (Wk.mk' [] rfl rfl (.eqs rfl) trivial rfl)
    ·refine C.skip ?_
     exact St.wk (hJ20 _ hm) (Wk.mk' [] rfl rfl (.eqs rfl) trivial rfl)
  ·refine C.exit (C.ex (C.ex (C.bex ?_)))
   exact St.wk (hJ8 _ hm) (Wk.mk' [] rfl rfl (.eqs rfl) trivial rfl)
theorem T_layout_choose (post : (List Int) → Prop) (hm : V_layout_choose post) :
    Tr Try.prog 40 [] [] 0 (fun A H' k => ∃ y, post y ∧ A = (.p 0 0) ∧ H' = [(0, .val (.arr 1 eI y))] ∧ k = 1) := by
 refine Tr.intro (n := 46) Try.func40 rfl Try.ntmps40 rfl (fun w0 ok F β hβ => ?_)
 unfold V_layout_choose at hm
 refine C.seq (U.start ?_)
 refine U.ps 1 T rfl ?_
 refine U.done (C.nx (C.seq (U.start ?_)))
 refine U.ps 1 T rfl ?_
 refine U.e1 (o := _) rfl (.none rfl) (by exact Eff1.bxa (n := 1) (enc := eI) (xs := (List.replicate 625 0)) rfl rfl (by kernel_rfl) (fun _ => rfl) (fun _ => rfl) rfl rfl) ?_
 refine U.ps 1 T rfl ?_
 refine U.done (C.nx (C.seq (C.seq (U.start ?_))))
 refine U.ps 1 T rfl ?_
 refine U.done (C.nx ?_)
 refine C.jn (fun (x7 : List Int) => [(1, .p 0 0)]) (fun (x7 : List Int) => [(0, .val (.arr 1 eI x7))]) 1 hm (fun x7 hm => ?_) (fun J8 hm hJ8 => ?_)
 ·refine C.nx (C.seq (U.start ?_))
  refine U.ps 2 T rfl ?_
  refine U.done (C.nx (C.ret ?_))
  exact C.fin T (rs' := [.p 0 0]) (H' := [(0, .val (.arr 1 eI x7))]) (nl' := 1) [some 0] rfl rfl (.eq rfl) ⟨⟨_, rfl, .val rfl⟩, trivial⟩ rfl rfl rfl rfl hβ ⟨x7, hm, rfl, rfl, rfl⟩
 ·refine C.block ?_
  refine St.wk (C.loop (fun (s9 : List Int × Int) => [(1, .p 0 0), (6, .i s9.2)]) (fun (s9 : List Int × Int) => [(0, .val (.arr 1 eI s9.1))]) hm (fun s9 Y10 hm => ?_)) (Wk.mk' [some 0] rfl rfl (.eqs rfl) ⟨⟨_, rfl, .val rfl⟩, trivial⟩ rfl)
  refine C.seq (U.start ?_)
  refine U.ps 1 T rfl ?_
  refine U.done (C.nx (C.seq ?_))
  refine C.ite rfl hm (fun hb13 hm => ?_) (fun hb13 hm => ?_)
  ·refine C.skip (C.nx (C.seq ?_))
   refine C.jn (fun (x14 : List Int) => [(1, .p 0 0), (6, .i s9.2)]) (fun (x14 : List Int) => [(0, .val (.arr 1 eI x14))]) 1 hm (fun x14 hm => ?_) (fun J15 hm hJ15 => ?_)
   ·refine C.nx (U.start ?_)
    refine U.ps 2 T rfl ?_
    refine U.done (C.nx ?_)
    exact St.wk (C.next hm) (Wk.mk' [some 0] rfl rfl (.eqs rfl) ⟨⟨_, rfl, .val rfl⟩, trivial⟩ rfl)
   ·refine C.block (C.seq (U.start ?_))
    refine U.ps 2 T rfl ?_
    refine U.done (C.nx (C.seq (U.start ?_)))
    refine U.ps 3 T rfl ?_
    obtain ⟨hx20, hm⟩ := hm
    refine U.r (o := _) rfl (.none rfl) rfl rfl (by exact Rd.pi T rfl rfl rfl rfl rfl rfl hx20) ?_
    obtain ⟨hx21, hm⟩ := hm
    refine U.r (o := _) rfl (.none rfl) rfl rfl (by exact Rd.pi T rfl rfl rfl rfl rfl rfl hx21) ?_
    obtain ⟨x22, hx22, hm⟩ := hm
    refine U.e1 (o := _) rfl (.none rfl) (by exact Eff1.sa T (z' := 1) rfl rfl rfl hx22 rfl rfl rfl rfl rfl rfl rfl) ?_
    refine U.done (C.nx (C.seq (U.start ?_)))
    refine U.ps 2 T rfl ?_
    refine U.done (C.nx ?_)
    refine C.jn (fun (x25 : List Int) => [(1, .p 0 0), (6, .i s9.2)]) (fun (x25 : List Int) => [(0, .val (.arr 1 eI x25))]) 1 hm (fun x25 hm => ?_) (fun J26 hm hJ26 => ?_)
    ·refine C.bnx ?_
     exact St.wk (hJ15 _ hm) (Wk.mk' [some 0] rfl rfl (.eqs rfl) ⟨⟨_, rfl, .val rfl⟩, trivial⟩ rfl)
    ·refine C.block ?_
     refine St.wk (C.loop (fun (s27 : List Int × Int) => [(1, .p 0 0), (2, .i s9.2), (6, .i s9.2), (14, .i s9.2), (15, .i s27.2)]) (fun (s27 : List Int × Int) => [(0, .val (.arr 1 eI s27.1))]) hm (fun s27 Y28 hm => ?_)) (Wk.mk' [some 0] rfl rfl (.eqs rfl) ⟨⟨_, rfl, .val rfl⟩, trivial⟩ rfl)
     refine C.seq (U.start ?_)
     refine U.ps 1 T rfl ?_
     refine U.done (C.nx (C.seq ?_))
     refine C.ite rfl hm (fun hb31 hm => ?_) (fun hb31 hm => ?_)
     ·refine C.skip (C.nx (C.seq (C.block (C.seq (U.start ?_)))))
      refine U.ps 2 T rfl ?_
      refine U.done (C.nx ?_)
      refine D.beg 25 [0] [] mix rfl rfl (by kernel_rfl) (by repeat (first | exact NoPanicQ.body | refine NoPanicQ.th ?_ | refine NoPanicQ.blk ?_)) (fun hQ hS ws M' => ?_)
      refine D.ps 9 [(0, []), (1, []), (2, []), (3, []), (4, []), (5, []), (6, []), (7, []), (8, [])] rfl hQ hS T rfl rfl (by kernel_rfl) ?_
      obtain ⟨hx36, hm⟩ := hm
      refine D.q (o := _) 9 [] hQ hS rfl (.none rfl) rfl rfl (by exact Rd.pi T rfl rfl rfl rfl rfl rfl hx36) rfl (by kernel_rfl) ?_
      obtain ⟨hx37, hm⟩ := hm
      refine D.q (o := _) 10 [] hQ hS rfl (.none rfl) rfl rfl (by exact Rd.pi T rfl rfl rfl rfl rfl rfl hx37) rfl (by kernel_rfl) ?_
      obtain ⟨x38, hx38, hm⟩ := hm
      refine D.q (o := _) 11 [] hQ hS rfl (.none rfl) rfl rfl (by exact Rd.la T rfl rfl rfl hx38 rfl rfl rfl) rfl (by kernel_rfl) ?_
      refine D.ps 6 [(12, []), (13, []), (14, []), (15, []), (16, []), (17, [])] rfl hQ hS T rfl rfl (by kernel_rfl) ?_
      obtain ⟨hx39, hm⟩ := hm
      refine D.q (o := _) 18 [] hQ hS rfl (.none rfl) rfl rfl (by exact Rd.pi T rfl rfl rfl rfl rfl rfl hx39) rfl (by kernel_rfl) ?_
      obtain ⟨hx40, hm⟩ := hm
      refine D.q (o := _) 19 [] hQ hS rfl (.none rfl) rfl rfl (by exact Rd.pi T rfl rfl rfl rfl rfl rfl hx40) rfl (by kernel_rfl) ?_
      obtain ⟨x41, hx41, hm⟩ := hm
      refine D.q (o := _) 20 [] hQ hS rfl (.none rfl) rfl rfl (by exact Rd.la T rfl rfl rfl hx41 rfl rfl rfl) rfl (by kernel_rfl) ?_
      refine D.ps 2 [(21, []), (22, [24, 23])] rfl hQ hS T rfl rfl (by kernel_rfl) ?_
      obtain ⟨hx42, hm⟩ := hm
      refine D.q (o := _) 23 [24] hQ hS rfl (.none rfl) rfl rfl (by exact Rd.pi T rfl rfl rfl rfl rfl rfl hx42) rfl (by kernel_rfl) ?_
      obtain ⟨hx43, hm⟩ := hm
      refine D.q (o := _) 24 [] hQ hS rfl (.none rfl) rfl rfl (by exact Rd.pi T rfl rfl rfl rfl rfl rfl hx43) rfl (by kernel_rfl) ?_
      obtain ⟨x44, hx44, hm⟩ := hm
      refine D.ze1 (o := _) rfl (.none rfl) (by exact Eff1.sa T (z' := w64 (x38 + x41)) rfl rfl rfl hx44 rfl rfl rfl rfl rfl rfl rfl) (by kernel_rfl) (by kernel_rfl) ?_
      refine C.bnx (C.nx (U.start ?_))
      refine U.ps 2 T rfl ?_
      refine U.done (C.nx ?_)
      exact St.wk (C.next hm) (Wk.mk' [some 0] rfl rfl (.eqs rfl) ⟨⟨_, rfl, .val rfl⟩, trivial⟩ rfl)
     ·refine C.exit (C.ex (C.ex (C.bex ?_)))
      exact St.wk (hJ26 _ hm) (Wk.mk' [some 0] rfl rfl (.eqs rfl) ⟨⟨_, rfl, .val rfl⟩, trivial⟩ rfl)
  ·refine C.exit (C.ex (C.ex (C.bex ?_)))
   exact St.wk (hJ8 _ hm) (Wk.mk' [some 0] rfl rfl (.eqs rfl) ⟨⟨_, rfl, .val rfl⟩, trivial⟩ rfl)
theorem T_layout_Count (n : Int) (k : Int) (post : Int → Prop) (hm : V_layout_Count n k post) :
    Tr Try.prog 21 [.i n, .i k] [] 0 (fun A H' k => ∃ y, post y ∧ A = (.i y) ∧ H' = [] ∧ k = 0) := by
 refine Tr.intro (n := 31) Try.func21 rfl Try.ntmps21 rfl (fun w0 ok F β hβ => ?_)
 unfold V_layout_Count at hm
 refine C.seq (U.start ?_)
 refine U.ps 1 T rfl ?_
 refine U.done (C.nx (C.seq (C.seq ?_)))
 refine C.jn (fun (x3 : Bool) => [(0, .i n), (1, .i k), (19, .b x3)]) (fun (x3 : Bool) => []) 0 hm (fun x3 hm => ?_) (fun J4 hm hJ4 => ?_)
 ·refine C.nx ?_
  refine C.ite rfl hm (fun hb8 hm => ?_) (fun hb8 hm => ?_)
  ·refine C.seq (U.start ?_)
   refine U.ps 1 T rfl ?_
   refine U.done (C.nx (C.ret (C.rt ?_)))
   exact C.fin T (rs' := [.i 0]) (H' := []) (nl' := 0) [] rfl rfl (.eq rfl) trivial rfl rfl rfl rfl hβ ⟨0, hm, rfl, rfl, rfl⟩
  ·refine C.skip (C.nx (C.seq (U.start ?_)))
   refine U.ps 1 T rfl ?_
   refine U.e (o := _) rfl (.none rfl) (by exact Eff.c [] (v := true) (T_layout_choose _ hm) en40 rfl rfl rfl (.eq rfl) trivial rfl rfl rfl rfl rfl rfl (fun _ _ => ⟨(.p _ _), ⟨.val (.arr _ _ _ fun _ => (.cons (.v _) .nil)), trivial⟩⟩) (.inr ⟨rfl, rfl⟩) (fun _ => rfl) (fun _ => rfl) rfl) (fun x13' hm => ?_)
   obtain ⟨x13⟩ := x13'
   refine U.ps 5 T rfl ?_
   obtain ⟨hx14, hm⟩ := hm
   refine U.r (o := _) rfl (.none rfl) rfl rfl (by exact Rd.pi T rfl rfl rfl rfl rfl rfl hx14) ?_
   obtain ⟨hx15, hm⟩ := hm
   refine U.r (o := _) rfl (.none rfl) rfl rfl (by exact Rd.pi T rfl rfl rfl rfl rfl rfl hx15) ?_
   obtain ⟨x16, hx16, hm⟩ := hm
   refine U.r (o := _) rfl (.none rfl) rfl rfl (by exact Rd.la T rfl rfl rfl hx16 rfl rfl rfl) ?_
   refine U.ps 2 T rfl ?_
   refine U.done (C.nx (C.ret ?_))
   exact C.fin T (rs' := [.i (w64 (n * x16))]) (H' := []) (nl' := 0) [] rfl rfl (.eq rfl) trivial rfl rfl rfl rfl hβ ⟨w64 (n * x16), hm, rfl, rfl, rfl⟩
 ·refine U.start ?_
  refine U.ps 3 T rfl ?_
  refine hm.cs (fun hb5 hm => ?_) (fun hb5 hm => ?_)
  ·refine U.sks 2 2 false 7 hb5 rfl rfl rfl ?_
   refine U.r (o := _) rfl (.none rfl) rfl rfl (by exact Rd.pk rfl rfl hb5 rfl) ?_
   refine U.ps 1 T rfl ?_
   refine U.sks 2 6 false 11 rfl rfl rfl rfl ?_
   refine U.r (o := _) rfl (.none rfl) rfl rfl (by exact Rd.pk rfl rfl rfl rfl) ?_
   refine U.ps 1 T rfl ?_
   refine U.sks 3 10 false 15 rfl rfl rfl rfl ?_
   refine U.r (o := _) rfl (.none rfl) rfl rfl (by exact Rd.pk rfl rfl rfl rfl) ?_
   refine U.done ?_
   exact St.wk (hJ4 _ hm) (Wk.mk' [] rfl rfl (.eqs rfl) trivial rfl)
  ·refine U.pg 2 2 false 7 hb5 T rfl rfl rfl rfl ?_
   refine U.r (o := _) rfl (.none rfl) rfl rfl (by exact Rd.pk' rfl rfl hb5 rfl) ?_
   refine U.ps 1 T rfl ?_
   refine hm.cs (fun hb6 hm => ?_) (fun hb6 hm => ?_)
   ·refine U.sks 2 6 false 11 hb6 rfl rfl rfl ?_
    refine U.r (o := _) rfl (.none rfl) rfl rfl (by exact Rd.pk rfl rfl hb6 rfl) ?_
    refine U.ps 1 T rfl ?_
    refine U.sks 3 10 false 15 rfl rfl rfl rfl ?_
    refine U.r (o := _) rfl (.none rfl) rfl rfl (by exact Rd.pk rfl rfl rfl rfl) ?_
    refine U.done ?_
    exact St.wk (hJ4 _ hm) (Wk.mk' [] rfl rfl (.eqs rfl) trivial rfl)
   ·refine U.pg 2 6 false 11 hb6 T rfl rfl rfl rfl ?_
    refine U.r (o := _) rfl (.none rfl) rfl rfl (by exact Rd.pk' rfl rfl hb6 rfl) ?_
    refine U.ps 1 T rfl ?_
    refine hm.cs (fun hb7 hm => ?_) (fun hb7 hm => ?_)
    ·refine U.sks 3 10 false 15 hb7 rfl rfl rfl ?_
     refine U.r (o := _) rfl (.none rfl) rfl rfl (by exact Rd.pk rfl rfl hb7 rfl) ?_
     refine U.done ?_
     exact St.wk (hJ4 _ hm) (Wk.mk' [] rfl rfl (.eqs rfl) trivial rfl)
    ·refine U.pg 3 10 false 15 hb7 T rfl rfl rfl rfl ?_
     refine U.r (o := _) rfl (.none rfl) rfl rfl (by exact Rd.pk' rfl rfl hb7 rfl) ?_
     refine U.done ?_
     exact St.wk (hJ4 _ hm) (Wk.mk' [] rfl rfl (.eqs rfl) trivial rfl)
theorem T_layout_Unrank (n : Int) (k : Int) (rank : Int) (post : (ApiLayout × Bool) → Prop) (hm : V_layout_Unrank n k rank post) :
    Tr Try.prog 22 [.i n, .i k, .i rank] [] 0 (fun A H' k => ∃ y, post y ∧ A = (.tup [.agg [.o 0, .i y.1.Target], .b y.2]) ∧ H' = [(0, .val (.os 1 eB y.1.Full))] ∧ k = 1) := by
 refine Tr.intro (n := 97) Try.func22 rfl Try.ntmps22 rfl (fun w0 ok F β hβ => ?_)
 unfold V_layout_Unrank at hm
 refine C.seq (U.start ?_)
 refine U.e1 (o := _) rfl (.none rfl) (by exact Eff1.al T rfl rfl rfl rfl) ?_
 refine U.ps 1 T rfl ?_
 refine U.done (C.nx (C.seq (C.seq ?_)))
 refine C.jn (fun (x3 : Bool) => [(0, .i n), (1, .i k), (2, .i rank), (6, .p 0 0), (21, .b x3)]) (fun (x3 : Bool) => [(0, .box [.v (.slice none 0 0), .i 0])]) 1 hm (fun x3 hm => ?_) (fun J4 hm hJ4 => ?_)
 ·refine C.nx ?_
  refine C.ite rfl hm (fun hb7 hm => ?_) (fun hb7 hm => ?_)
  ·refine C.seq (U.start ?_)
   refine U.ps 1 T rfl ?_
   refine U.e1 (o := _) rfl (.none rfl) (by exact Eff1.st T rfl rfl rfl rfl rfl rfl rfl rfl rfl rfl) ?_
   refine U.ps 1 T rfl ?_
   refine U.done (C.nx (C.ret (C.rt ?_)))
   exact C.fin T (rs' := [.agg [.o 0, .i (((({ Full := [], Target := 0 : ApiLayout }), false).1).Target)], .b ((({ Full := [], Target := 0 : ApiLayout }), false).2)]) (H' := [(0, .val (.os 1 eB (((({ Full := [], Target := 0 : ApiLayout }), false).1).Full)))]) (nl' := 1) [none] rfl rfl (.cons (.agg (.cons (.nilO _ _ ⟨rfl, rfl⟩ rfl) (.eq rfl))) (.eq rfl)) ⟨⟨_, rfl, .nil _ _⟩, trivial⟩ rfl rfl rfl rfl hβ ⟨(({ Full := [], Target := 0 : ApiLayout }), false), hm, rfl, rfl, rfl⟩
  ·refine C.skip (C.nx (C.seq (U.start ?_)))
   refine U.e (o := _) rfl (.none rfl) (by exact Eff.c [] (v := true) (T_layout_choose _ hm) en40 rfl rfl rfl (.eq rfl) trivial rfl rfl rfl rfl rfl rfl (fun _ _ => ⟨(.p _ _), ⟨.val (.arr _ _ _ fun _ => (.cons (.v _) .nil)), trivial⟩⟩) (.inr ⟨rfl, rfl⟩) (fun _ => rfl) (fun _ => rfl) rfl) (fun x12' hm => ?_)
   obtain ⟨x12⟩ := x12'
   refine U.ps 1 T rfl ?_
   refine U.done (C.nx (C.seq ?_))
   refine D.beg 15 [1] [2, 3] mix rfl rfl (by kernel_rfl) (by repeat (first | exact NoPanicQ.body | refine NoPanicQ.th ?_ | refine NoPanicQ.blk ?_)) (fun hQ hS ws M' => ?_)
   refine D.ps 8 [(0, []), (2, []), (3, []), (4, []), (5, []), (6, []), (7, []), (8, [])] rfl hQ hS T rfl rfl (by kernel_rfl) ?_
   obtain ⟨hx15, hm⟩ := hm
   refine D.q (o := _) 9 [] hQ hS rfl (.none rfl) rfl rfl (by exact Rd.pi T rfl rfl rfl rfl rfl rfl hx15) rfl (by kernel_rfl) ?_
   obtain ⟨hx16, hm⟩ := hm
   refine D.q (o := _) 10 [] hQ hS rfl (.none rfl) rfl rfl (by exact Rd.pi T rfl rfl rfl rfl rfl rfl hx16) rfl (by kernel_rfl) ?_
   obtain ⟨x17, hx17, hm⟩ := hm
   refine D.q (o := _) 11 [] hQ hS rfl (.none rfl) rfl rfl (by exact Rd.la T rfl rfl rfl hx17 rfl rfl rfl) rfl (by kernel_rfl) ?_
   obtain ⟨hx18, hm⟩ := hm
   refine D.q (o := _) 12 [] hQ hS rfl (.none rfl) rfl rfl (by exact Rd.dv rfl rfl rfl rfl hx18) rfl (by kernel_rfl) ?_
   obtain ⟨hx19, hm⟩ := hm
   refine D.have false [(0, .i n), (1, .i k), (2, .i rank), (6, .p 0 0), (8, .p 1 0), (9, .p 2 0), (21, .b x3), (23, .p 1 0), (24, .i n), (25, .o 3), (26, .i rank), (27, .p 1 0), (28, .i n), (29, .i (w64 (n - 1))), (30, .i k), (31, .i (w64 (k - 1))), (32, .p 1 0), (33, .p 1 (0 + Int.toNat (w64 (n - 1)) * 25)), (34, .p 1 ((0 + Int.toNat (w64 (n - 1)) * 25) + Int.toNat (w64 (k - 1)) * 1)), (35, .i x17), (36, .i (w64 (rank.tdiv x17))), (37, .agg [.o 3, .i (w64 (rank.tdiv x17))])] [(0, .box [.v (.slice none 0 0), .i 0]), (1, .val (.arr 1 eI x12)), (2, .box [.v (.slice none 0 0), .i 0]), (3, .val (.os 1 eB (List.replicate (Int.toNat n) false)))] 4 1 #[true, true, true, true, true, true, true, true, true, true, true, true, true, true, true, false] ?_ (fun hd18_3 => ?_)
   ·refine D.ze1 (o := _) rfl (.none rfl) (by exact Eff1.st T rfl rfl rfl rfl rfl rfl rfl rfl rfl rfl) (by kernel_rfl) (by kernel_rfl) ?_
    refine C.nx (C.seq (U.start ?_))
    refine U.ps 7 T rfl ?_
    obtain ⟨hx22, hm⟩ := hm
    refine U.r (o := _) rfl (.none rfl) rfl rfl (by exact Rd.pi T rfl rfl rfl rfl rfl rfl hx22) ?_
    obtain ⟨hx23, hm⟩ := hm
    refine U.r (o := _) rfl (.none rfl) rfl rfl (by exact Rd.pi T rfl rfl rfl rfl rfl rfl hx23) ?_
    refine U.r (o := _) rfl (.none rfl) rfl rfl (by exact Rd.la T rfl rfl rfl hx17 rfl rfl rfl) ?_
    obtain ⟨hx24, hm⟩ := hm
    refine U.r (o := _) rfl (.none rfl) rfl rfl (by exact Rd.rm rfl rfl rfl rfl hx24) ?_
    refine U.ps 1 T rfl ?_
    refine U.done (C.nx (C.seq (U.start ?_)))
    refine U.ps 6 T rfl ?_
    refine U.done (C.nx (C.seq (C.seq (U.start ?_))))
    refine U.ps 2 T rfl ?_
    refine U.done (C.nx ?_)
    refine C.jn (fun (x29 : List Bool) => [(6, .p 0 0), (9, .p 1 0)]) (fun (x29 : List Bool) => [(0, .box [.v (.slice none 0 0), .i 0]), (1, .box [.o 2, .i (w64 (rank.tdiv x17))]), (2, .val (.os 1 eB x29))]) 3 hm (fun x29 hm => ?_) (fun J30 hm hJ30 => ?_)
    ·refine C.nx (C.seq (U.start ?_))
     refine U.ps 1 T rfl ?_
     refine U.e1 (o := _) rfl (.none rfl) (by exact Eff1.st T rfl rfl rfl rfl rfl rfl rfl rfl rfl rfl) ?_
     refine U.ps 1 T rfl ?_
     refine U.done (C.nx (C.ret ?_))
     exact C.fin T (rs' := [.agg [.o 0, .i (((({ Full := x29, Target := w64 (rank.tdiv x17) : ApiLayout }), true).1).Target)], .b ((({ Full := x29, Target := w64 (rank.tdiv x17) : ApiLayout }), true).2)]) (H' := [(0, .val (.os 1 eB (((({ Full := x29, Target := w64 (rank.tdiv x17) : ApiLayout }), true).1).Full)))]) (nl' := 1) [some 2] rfl rfl (.eq rfl) ⟨⟨_, rfl, .val rfl⟩, trivial⟩ rfl rfl rfl rfl hβ ⟨(({ Full := x29, Target := w64 (rank.tdiv x17) : ApiLayout }), true), hm, rfl, rfl, rfl⟩
    ·refine C.block ?_
     refine St.wk (C.loop (fun (s31 : Int × List Bool × Int × Int × Int) => [(2, .i s31.1), (6, .p 0 0), (8, .p 1 0), (9, .p 2 0), (10, .i s31.2.2.1), (11, .i s31.2.2.2.1), (53, .i n), (54, .i s31.2.2.2.2)]) (fun (s31 : Int × List Bool × Int × Int × Int) => [(0, .box [.v (.slice none 0 0), .i 0]), (1, .val (.arr 1 eI x12)), (2, .box [.o 3, .i (w64 (rank.tdiv x17))]), (3, .val (.os 1 eB s31.2.1))]) hm (fun s31 Y32 hm => ?_)) (Wk.mk' [some 0, some 1, some 2, some 3] rfl rfl (.eqs rfl) ⟨⟨_, rfl, .box rfl (.eq rfl)⟩, ⟨_, rfl, .val rfl⟩, ⟨_, rfl, .box rfl (.eq rfl)⟩, ⟨_, rfl, .val rfl⟩, trivial⟩ rfl)
     refine C.seq (U.start ?_)
     refine U.ps 1 T rfl ?_
     refine U.done (C.nx (C.seq ?_))
     refine C.ite rfl hm (fun hb35 hm => ?_) (fun hb35 hm => ?_)
     ·refine C.skip (C.nx (C.seq ?_))
      refine C.jn (fun (x36 : Int × List Bool × Int × Int) => [(2, .i x36.1), (6, .p 0 0), (8, .p 1 0), (9, .p 2 0), (10, .i x36.2.2.1), (11, .i x36.2.2.2), (53, .i n), (54, .i s31.2.2.2.2)]) (fun (x36 : Int × List Bool × Int × Int) => [(0, .box [.v (.slice none 0 0), .i 0]), (1, .val (.arr 1 eI x12)), (2, .box [.o 3, .i (w64 (rank.tdiv x17))]), (3, .val (.os 1 eB x36.2.1))]) 4 hm (fun x36 hm => ?_) (fun J37 hm hJ37 => ?_)
      ·refine C.nx (U.start ?_)
       refine U.ps 2 T rfl ?_
       refine U.done (C.nx ?_)
       exact St.wk (C.next hm) (Wk.mk' [some 0, some 1, some 2, some 3] rfl rfl (.eqs rfl) ⟨⟨_, rfl, .box rfl (.eq rfl)⟩, ⟨_, rfl, .val rfl⟩, ⟨_, rfl, .box rfl (.eq rfl)⟩, ⟨_, rfl, .val rfl⟩, trivial⟩ rfl)
      ·refine C.block (C.seq (U.start ?_))
       refine U.ps 2 T rfl ?_
       refine U.done (C.nx (C.seq (C.seq (U.start ?_))))
       refine U.ps 4 T rfl ?_
       refine U.done (C.nx ?_)
       refine C.ite rfl hm (fun hb42 hm => ?_) (fun hb42 hm => ?_)
       ·refine C.seq (U.start ?_)
        refine U.ps 3 T rfl ?_
        obtain ⟨x45, hx45, hm⟩ := hm
        refine U.r (o := _) rfl (.none rfl) rfl rfl (by exact Rd.io T rfl rfl rfl rfl rfl rfl rfl hx45) ?_
        refine U.e1 (o := _) rfl (.none rfl) (by exact Eff1.se T (z' := true) rfl rfl rfl (idx_some hx45).2.2 rfl rfl rfl rfl rfl rfl rfl rfl (fun _ => rfl) rfl) ?_
        refine U.done (C.nx (C.exit (C.ex (C.bex ?_))))
        exact St.wk (hJ37 _ hm) (Wk.mk' [some 0, some 1, some 2, some 3] rfl rfl (.eqs rfl) ⟨⟨_, rfl, .box rfl (.eq rfl)⟩, ⟨_, rfl, .val rfl⟩, ⟨_, rfl, .box rfl (.eq rfl)⟩, ⟨_, rfl, .val rfl⟩, trivial⟩ rfl)
       ·refine C.skip (C.nx (C.seq (U.start ?_)))
        refine U.ps 3 T rfl ?_
        refine U.done (C.nx (C.seq (C.seq (U.start ?_))))
        refine U.ps 2 T rfl ?_
        refine U.done (C.nx ?_)
        refine C.ite rfl hm (fun hb50 hm => ?_) (fun hb50 hm => ?_)
        ·refine C.exit (C.ex (C.bex ?_))
         exact St.wk (hJ37 _ hm) (Wk.mk' [some 0, some 1, some 2, some 3] rfl rfl (.eqs rfl) ⟨⟨_, rfl, .box rfl (.eq rfl)⟩, ⟨_, rfl, .val rfl⟩, ⟨_, rfl, .box rfl (.eq rfl)⟩, ⟨_, rfl, .val rfl⟩, trivial⟩ rfl)
        ·refine C.skip (C.nx (C.seq (U.start ?_)))
         refine U.ps 6 T rfl ?_
         obtain ⟨hx53, hm⟩ := hm
         refine U.r (o := _) rfl (.none rfl) rfl rfl (by exact Rd.pi T rfl rfl rfl rfl rfl rfl hx53) ?_
         obtain ⟨hx54, hm⟩ := hm
         refine U.r (o := _) rfl (.none rfl) rfl rfl (by exact Rd.pi T rfl rfl rfl rfl rfl rfl hx54) ?_
         obtain ⟨x55, hx55, hm⟩ := hm
         refine U.r (o := _) rfl (.none rfl) rfl rfl (by exact Rd.la T rfl rfl rfl hx55 rfl rfl rfl) ?_
         refine U.ps 1 T rfl ?_
         refine U.done (C.nx ?_)
         refine C.jn (fun (x56 : Int × List Bool × Int) => [(2, .i x56.1), (6, .p 0 0), (8, .p 1 0), (9, .p 2 0), (10, .i (w64 (s31.2.2.1 - 1))), (11, .i x56.2.2), (53, .i n), (54, .i s31.2.2.2.2)]) (fun (x56 : Int × List Bool × Int) => [(0, .box [.v (.slice none 0 0), .i 0]), (1, .val (.arr 1 eI x12)), (2, .box [.o 3, .i (w64 (rank.tdiv x17))]), (3, .val (.os 1 eB x56.2.1))]) 4 hm (fun x56 hm => ?_) (fun J57 hm hJ57 => ?_)
         ·refine C.bnx ?_
          exact St.wk (hJ37 _ hm) (Wk.mk' [some 0, some 1, some 2, some 3] rfl rfl (.eqs rfl) ⟨⟨_, rfl, .box rfl (.eq rfl)⟩, ⟨_, rfl, .val rfl⟩, ⟨_, rfl, .box rfl (.eq rfl)⟩, ⟨_, rfl, .val rfl⟩, trivial⟩ rfl)
         ·refine C.ite rfl hm (fun hb58 hm => ?_) (fun hb58 hm => ?_)
          ·refine C.seq (U.start ?_)
           refine U.ps 3 T rfl ?_
           obtain ⟨x61, hx61, hm⟩ := hm
           refine U.r (o := _) rfl (.none rfl) rfl rfl (by exact Rd.io T rfl rfl rfl rfl rfl rfl rfl hx61) ?_
           refine U.e1 (o := _) rfl (.none rfl) (by exact Eff1.se T (z' := true) rfl rfl rfl (idx_some hx61).2.2 rfl rfl rfl rfl rfl rfl rfl rfl (fun _ => rfl) rfl) ?_
           refine U.done (C.nx (U.start ?_))
           refine U.ps 3 T rfl ?_
           refine U.done ?_
           exact St.wk (hJ57 _ hm) (Wk.mk' [some 0, some 1, some 2, some 3] rfl rfl (.eqs rfl) ⟨⟨_, rfl, .box rfl (.eq rfl)⟩, ⟨_, rfl, .val rfl⟩, ⟨_, rfl, .box rfl (.eq rfl)⟩, ⟨_, rfl, .val rfl⟩, trivial⟩ rfl)
          ·refine U.start ?_
           refine U.ps 6 T rfl ?_
           obtain ⟨hx66, hm⟩ := hm
           refine U.r (o := _) rfl (.none rfl) rfl rfl (by exact Rd.pi T rfl rfl rfl rfl rfl rfl hx66) ?_
           obtain ⟨hx67, hm⟩ := hm
           refine U.r (o := _) rfl (.none rfl) rfl rfl (by exact Rd.pi T rfl rfl rfl rfl rfl rfl hx67) ?_
           refine U.r (o := _) rfl (.none rfl) rfl rfl (by exact Rd.la T rfl rfl rfl hx55 rfl rfl rfl) ?_
           refine U.ps 2 T rfl ?_
           refine U.done ?_
           exact St.wk (hJ57 _ hm) (Wk.mk' [some 0, some 1, some 2, some 3] rfl rfl (.eqs rfl) ⟨⟨_, rfl, .box rfl (.eq rfl)⟩, ⟨_, rfl, .val rfl⟩, ⟨_, rfl, .box rfl (.eq rfl)⟩, ⟨_, rfl, .val rfl⟩, trivial⟩ rfl)
     ·refine C.exit (C.ex (C.ex (C.bex ?_)))
      exact St.wk (hJ30 _ hm) (Wk.mk' [some 0, some 2, some 3] rfl rfl (.eqs rfl) ⟨⟨_, rfl, .box rfl (.eq rfl)⟩, ⟨_, rfl, .box rfl (.eq rfl)⟩, ⟨_, rfl, .val rfl⟩, trivial⟩ rfl)
   refine D.have false [(0, .i n), (1, .i k), (2, .i rank), (6, .p 0 0), (8, .p 1 0), (21, .b x3), (23, .p 1 0), (24, .i n), (25, .o 2), (26, .i rank), (27, .p 1 0), (28, .i n), (29, .i (w64 (n - 1))), (30, .i k), (31, .i (w64 (k - 1))), (32, .p 1 0), (33, .p 1 (0 + Int.toNat (w64 (n - 1)) * 25)), (34, .p 1 ((0 + Int.toNat (w64 (n - 1)) * 25) + Int.toNat (w64 (k - 1)) * 1)), (35, .i x17), (36, .i (w64 (rank.tdiv x17))), (37, .agg [.o 2, .i (w64 (rank.tdiv x17))])] [(0, .box [.v (.slice none 0 0), .i 0]), (1, .val (.arr 1 eI x12)), (2, .val (.os 1 eB (List.replicate (Int.toNat n) false)))] 3 2 #[true, true, true, true, true, true, true, true, true, true, true, true, true, true, false, false] ?_ (fun hd18_2 => ?_)
   ·refine D.all 14 [] (by kernel_rfl) ⟨?_, trivial⟩
    ·refine D.ef1 (o := _) rfl (.none rfl) (by exact Eff1.al T rfl rfl rfl rfl) rfl rfl ?_
     exact D.to [some 0, some 1, some 3, some 2] hd18_3 (by kernel_rfl) rfl rfl (.eqs rfl) ⟨⟨_, rfl, .box rfl (.eq rfl)⟩, ⟨_, rfl, .val rfl⟩, ⟨_, rfl, .box rfl (.eq rfl)⟩, ⟨_, rfl, .val rfl⟩, trivial⟩ rfl rfl rfl
   refine D.have false [(0, .i n), (1, .i k), (2, .i rank), (6, .p 0 0), (8, .p 1 0), (9, .p 2 0), (21, .b x3), (23, .p 1 0), (24, .i n), (26, .i rank), (27, .p 1 0), (28, .i n), (29, .i (w64 (n - 1))), (30, .i k), (31, .i (w64 (k - 1))), (32, .p 1 0), (33, .p 1 (0 + Int.toNat (w64 (n - 1)) * 25)), (34, .p 1 ((0 + Int.toNat (w64 (n - 1)) * 25) + Int.toNat (w64 (k - 1)) * 1)), (35, .i x17), (36, .i (w64 (rank.tdiv x17)))] [(0, .box [.v (.slice none 0 0), .i 0]), (1, .val (.arr 1 eI x12)), (2, .box [.v (.slice none 0 0), .i 0])] 3 3 #[true, false, true, true, true, true, true, true, true, true, true, true, true, false, true, false] ?_ (fun hd18_1 => ?_)
   ·refine D.all 1 [] (by kernel_rfl) ⟨?_, trivial⟩
    ·refine D.ef1 (o := _) rfl (.none rfl) (by exact Eff1.mk T (enc := eB) (z0 := false) rfl rfl rfl rfl rfl rfl rfl rfl rfl rfl hx19) rfl rfl ?_
     refine D.ps 1 [(13, [])] rfl hQ hS T rfl rfl (by kernel_rfl) ?_
     exact D.to [some 0, some 1, some 2, some 3] hd18_3 (by kernel_rfl) rfl rfl (.eqs rfl) ⟨⟨_, rfl, .box rfl (.eq rfl)⟩, ⟨_, rfl, .val rfl⟩, ⟨_, rfl, .box rfl (.eq rfl)⟩, ⟨_, rfl, .val rfl⟩, trivial⟩ rfl rfl rfl
   refine D.all 1 [14] (by kernel_rfl) ⟨?_, ?_, trivial⟩
   ·refine D.ef1 (o := _) rfl (.none rfl) (by exact Eff1.mk T (enc := eB) (z0 := false) rfl rfl rfl rfl rfl rfl rfl rfl rfl rfl hx19) rfl rfl ?_
    refine D.ps 1 [(13, [])] rfl hQ hS T rfl rfl (by kernel_rfl) ?_
    exact D.to [some 0, some 1, some 2] hd18_2 (by kernel_rfl) rfl rfl (.eqs rfl) ⟨⟨_, rfl, .box rfl (.eq rfl)⟩, ⟨_, rfl, .val rfl⟩, ⟨_, rfl, .val rfl⟩, trivial⟩ rfl rfl rfl
   ·refine D.ef1 (o := _) rfl (.none rfl) (by exact Eff1.al T rfl rfl rfl rfl) rfl rfl ?_
    exact D.to [some 0, some 1, some 2] hd18_1 (by kernel_rfl) rfl rfl (.eqs rfl) ⟨⟨_, rfl, .box rfl (.eq rfl)⟩, ⟨_, rfl, .val rfl⟩, ⟨_, rfl, .box rfl (.eq rfl)⟩, trivial⟩ rfl rfl rfl
 ·refine U.start ?_
  refine U.ps 3 T rfl ?_
  refine hm.cs (fun hb5 hm => ?_) (fun hb5 hm => ?_)
  ·refine U.sks 5 2 false 15 hb5 rfl rfl rfl ?_
   refine U.r (o := _) rfl (.none rfl) rfl rfl (by exact Rd.pk rfl rfl hb5 rfl) ?_
   refine U.done ?_
   exact St.wk (hJ4 _ hm) (Wk.mk' [some 0] rfl rfl (.eqs rfl) ⟨⟨_, rfl, .box rfl (.eq rfl)⟩, trivial⟩ rfl)
  ·refine U.pg 3 2 false 15 hb5 T rfl rfl rfl rfl ?_
   refine U.e (o := _) rfl (.take 2 false 15 _ hb5 rfl rfl rfl) (by exact Eff.c [] (v := true) (T_layout_Count n k _ hm) en21 rfl rfl rfl (.eq rfl) trivial rfl rfl rfl rfl rfl rfl (fun _ _ => ⟨(.v _), trivial⟩) (.inr ⟨rfl, rfl⟩) (fun _ => rfl) (fun _ => rfl) rfl) (fun x6' hm => ?_)
   obtain ⟨x6⟩ := x6'
   refine U.pg 1 2 false 15 hb5 T rfl rfl rfl rfl ?_
   refine U.r (o := _) rfl (.none rfl) rfl rfl (by exact Rd.pk' rfl rfl hb5 rfl) ?_
   refine U.done ?_
   exact St.wk (hJ4 _ hm) (Wk.mk' [some 0] rfl rfl (.eqs rfl) ⟨⟨_, rfl, .box rfl (.eq rfl)⟩, trivial⟩ rfl)
theorem T_puzzle_Table_1__p0_p2 (rank : Int) (n : Int) (c0 : List Int) (c1 : List Int) (post : (List Int × List Int) → Prop) (hm : V_puzzle_Table_1__p0_p2 rank n c0 c1 post) :
    Tr Try.prog 30 [.i rank, .i n, .p 0 0, .p 2 0] [(0, .box [.o 1]), (1, .val (.os 1 eI c0)), (2, .box [.o 3]), (3, .val (.os 1 eI c1))] 4 (fun A H' k => ∃ y, post y ∧ A = (.tup []) ∧ H' = [(0, .box [.o 4]), (2, .box [.o 5]), (4, .val (.os 1 eI y.1)), (5, .val (.os 1 eI y.2))] ∧ k = 6) := by
 refine Tr.intro (n := 19) Try.func30 rfl Try.ntmps30 rfl (fun w0 ok F β hβ => ?_)
 unfold V_puzzle_Table_1__p0_p2 at hm
 refine C.seq (U.start ?_)
 refine U.ps 2 T rfl ?_
 obtain ⟨x3, hx3, hm⟩ := hm
 refine U.r (o := _) rfl (.none rfl) rfl rfl (by exact Rd.io T rfl rfl rfl rfl rfl rfl rfl hx3) ?_
 refine U.r (o := _) rfl (.none rfl) rfl rfl (by exact Rd.le T rfl rfl rfl (idx_some hx3).2.2 rfl rfl rfl) ?_
 refine U.ps 1 T rfl ?_
 refine U.done (C.nx ?_)
 refine C.jn (fun (x4 : List Int × List Int) => []) (fun (x4 : List Int × List Int) => [(0, .box [.o 1]), (1, .val (.os 1 eI x4.1)), (2, .box [.o 4]), (4, .val (.os 1 eI x4.2))]) 5 hm (fun x4 hm => ?_) (fun J5 hm hJ5 => ?_)
 ·exact C.fin T (rs' := []) (H' := [(0, .box [.o 4]), (2, .box [.o 5]), (4, .val (.os 1 eI ((x4.1, x4.2).1))), (5, .val (.os 1 eI ((x4.1, x4.2).2)))]) (nl' := 6) [some 0, some 1, some 2, some 3, some 1, some 4] rfl rfl (.eq rfl) ⟨⟨_, rfl, .box rfl (.eq rfl)⟩, ⟨_, rfl, .box rfl (.eq rfl)⟩, ⟨_, rfl, .val rfl⟩, ⟨_, rfl, .val rfl⟩, trivial⟩ rfl rfl rfl rfl hβ ⟨(x4.1, x4.2), hm, rfl, rfl, rfl⟩
 ·refine C.ite rfl hm (fun hb6 hm => ?_) (fun hb6 hm => ?_)
  ·refine C.seq (U.start ?_)
   refine U.ps 3 T rfl ?_
   refine U.r (o := _) rfl (.none rfl) rfl rfl (by exact Rd.io T rfl rfl rfl rfl rfl rfl rfl hx3) ?_
   refine U.e1 (o := _) rfl (.none rfl) (by exact Eff1.se T (z' := n) rfl rfl rfl (idx_some hx3).2.2 rfl rfl rfl rfl rfl rfl rfl rfl (fun _ => rfl) rfl) ?_
   refine U.done (C.nx (U.start ?_))
   refine U.ps 2 T rfl ?_
   refine U.e1 (o := _) rfl (.none rfl) (by exact Eff1.bs T (enc := eI) (xs := ([rank] : List Int)) rfl rfl rfl rfl rfl rfl rfl rfl rfl rfl (fun _ _ => rfl) rfl rfl) ?_
   obtain ⟨hx11, hm⟩ := hm
   refine U.e1 (o := _) rfl (.none rfl) (by exact Eff1.ap T rfl rfl rfl rfl rfl rfl (.inr ⟨_, rfl, rfl⟩) rfl rfl rfl (fun _ => rfl) rfl hx11) ?_
   refine U.e1 (o := _) rfl (.none rfl) (by exact Eff1.st T rfl rfl rfl rfl rfl rfl rfl rfl rfl rfl) ?_
   refine U.done ?_
   exact St.wk (hJ5 _ hm) (Wk.mk' [some 0, some 1, some 2, some 3, some 5] rfl rfl trivial ⟨⟨_, rfl, .box rfl (.eq rfl)⟩, ⟨_, rfl, .val rfl⟩, ⟨_, rfl, .box rfl (.eq rfl)⟩, ⟨_, rfl, .val rfl⟩, trivial⟩ rfl)
  ·refine C.skip ?_
   exact St.wk (hJ5 _ hm) (Wk.mk' [some 0, some 1, some 2, some 3, some 3] rfl rfl trivial ⟨⟨_, rfl, .box rfl (.eq rfl)⟩, ⟨_, rfl, .val rfl⟩, ⟨_, rfl, .box rfl (.eq rfl)⟩, ⟨_, rfl, .val rfl⟩, trivial⟩ rfl)
theorem T_floor_size (f : ApiFloor) (post : Int → Prop) (hm : V_floor_size f post) :
    Tr Try.prog 76 [.agg (eApiFloor f)] [] 0 (fun A H' k => ∃ y, post y ∧ A = (.i y) ∧ H' = [] ∧ k = 0) := by
 refine Tr.intro (n := 11) Try.func76 rfl Try.ntmps76 rfl (fun w0 ok F β hβ => ?_)
 unfold V_floor_size at hm
 refine C.seq (U.start ?_)
 refine U.e1 (o := _) rfl (.none rfl) (by exact Eff1.box rfl rfl rfl rfl rfl) ?_
 refine U.ps 1 T rfl ?_
 refine U.done (C.nx (C.seq (U.start ?_)))
 refine U.ps 9 T rfl ?_
 refine U.done (C.nx (C.ret ?_))
 exact C.fin T (rs' := [.i (w64 ((w64 (f.W * f.H)) * f.D))]) (H' := []) (nl' := 0) [] rfl rfl (.eq rfl) trivial rfl rfl rfl rfl hβ ⟨w64 ((w64 (f.W * f.H)) * f.D), hm, rfl, rfl, rfl⟩
theorem T_floor_is (f : ApiFloor) (c : Int) (post : Bool → Prop) (hm : V_floor_is f c post) :
    Tr Try.prog 58 [.agg (eApiFloor f), .i c] [] 0 (fun A H' k => ∃ y, post y ∧ A = (.b y) ∧ H' = [] ∧ k = 0) := by
 refine Tr.intro (n := 13) Try.func58 rfl Try.ntmps58 rfl (fun w0 ok F β hβ => ?_)
 unfold V_floor_is at hm
 refine C.seq (U.start ?_)
 refine U.e1 (o := _) rfl (.none rfl) (by exact Eff1.box rfl rfl rfl rfl rfl) ?_
 refine U.ps 1 T rfl ?_
 refine U.done (C.nx (C.seq ?_))
 refine C.jn (fun (x3 : Bool) => [(4, .b x3)]) (fun (x3 : Bool) => []) 0 hm (fun x3 hm => ?_) (fun J4 hm hJ4 => ?_)
 ·refine C.nx (C.ret ?_)
  exact C.fin T (rs' := [.b x3]) (H' := []) (nl' := 0) [] rfl rfl (.eq rfl) trivial rfl rfl rfl rfl hβ ⟨x3, hm, rfl, rfl, rfl⟩
 ·refine U.start ?_
  refine U.ps 3 T rfl ?_
  refine hm.cs (fun hb5 hm => ?_) (fun hb5 hm => ?_)
  ·refine U.pg 2 2 true 7 hb5 T rfl rfl rfl rfl ?_
   refine U.e (o := _) rfl (.take 2 true 7 _ hb5 rfl rfl rfl) (by exact Eff.c [] (v := true) (T_floor_size f _ hm) en76 rfl rfl rfl (.eq rfl) trivial rfl rfl rfl rfl rfl rfl (fun _ _ => ⟨(.v _), trivial⟩) (.inr ⟨rfl, rfl⟩) (fun _ => rfl) (fun _ => rfl) rfl) (fun x6' hm => ?_)
   obtain ⟨x6⟩ := x6'
   refine U.pg 1 2 true 7 hb5 T rfl rfl rfl rfl ?_
   refine U.r (o := _) rfl (.none rfl) rfl rfl (by exact Rd.pk rfl rfl hb5 rfl) ?_
   refine U.ps 1 T rfl ?_
   refine U.done ?_
   exact St.wk (hJ4 _ hm) (Wk.mk' [] rfl rfl (.eqs rfl) trivial rfl)
  ·refine U.sks 4 2 true 7 hb5 rfl rfl rfl ?_
   refine U.r (o := _) rfl (.none rfl) rfl rfl (by exact Rd.pk' rfl rfl hb5 rfl) ?_
   refine U.ps 1 T rfl ?_
   refine U.done ?_
   exact St.wk (hJ4 _ hm) (Wk.mk' [] rfl rfl (.eqs rfl) trivial rfl)
theorem T_floor_At (f : ApiFloor) (c : Int) (post : (Int × Int × Int) → Prop) (hm : V_floor_At f c post) :
    Tr Try.prog 59 [.agg (eApiFloor f), .i c] [] 0 (fun A H' k => ∃ y, post y ∧ A = (.tup [.i y.1, .i y.2.1, .i y.2.2]) ∧ H' = [] ∧ k = 0) := by
 refine Tr.intro (n := 29) Try.func59 rfl Try.ntmps59 rfl (fun w0 ok F β hβ => ?_)
 unfold V_floor_At at hm
 refine C.seq (U.start ?_)
 refine U.e1 (o := _) rfl (.none rfl) (by exact Eff1.box rfl rfl rfl rfl rfl) ?_
 refine U.ps 3 T rfl ?_
 refine U.done (C.nx (C.seq (C.seq (U.start ?_))))
 refine U.ps 2 T rfl ?_
 refine U.e (o := _) rfl (.none rfl) (by exact Eff.c [] (v := true) (T_floor_is f c _ hm) en58 rfl rfl rfl (.eq rfl) trivial rfl rfl rfl rfl rfl rfl (fun _ _ => ⟨(.v _), trivial⟩) (.inr ⟨rfl, rfl⟩) (fun _ => rfl) (fun _ => rfl) rfl) (fun x5' hm => ?_)
 obtain ⟨x5⟩ := x5'
 refine U.ps 1 T rfl ?_
 refine U.done (C.nx ?_)
 refine C.ite rfl hm (fun hb6 hm => ?_) (fun hb6 hm => ?_)
 ·refine C.seq (U.start ?_)
  refine U.ps 3 T rfl ?_
  refine U.done (C.nx (C.ret (C.rt ?_)))
  exact C.fin T (rs' := [.i ((0, 0, 0).1), .i ((0, 0, 0).2.1), .i ((0, 0, 0).2.2)]) (H' := []) (nl' := 0) [] rfl rfl (.eq rfl) trivial rfl rfl rfl rfl hβ ⟨(0, 0, 0), hm, rfl, rfl, rfl⟩
 ·refine C.skip (C.nx (C.seq ?_))
  refine D.beg 9999 [0] [] mix rfl rfl (by kernel_rfl) (by repeat (first | exact NoPanicQ.body | refine NoPanicQ.th ?_ | refine NoPanicQ.blk ?_)) (fun hQ hS ws M' => ?_)
  refine D.ps 3 [(0, []), (1, []), (2, [])] rfl hQ hS T rfl rfl (by kernel_rfl) ?_
  obtain ⟨hx11, hm⟩ := hm
  refine D.q (o := _) 3 [] hQ hS rfl (.none rfl) rfl rfl (by exact Rd.rm rfl rfl rfl rfl hx11) rfl (by kernel_rfl) ?_
  refine D.ps 3 [(4, []), (5, []), (6, [])] rfl hQ hS T rfl rfl (by kernel_rfl) ?_
  obtain ⟨hx12, hm⟩ := hm
  refine D.q (o := _) 7 [] hQ hS rfl (.none rfl) rfl rfl (by exact Rd.dv rfl rfl rfl rfl hx12) rfl (by kernel_rfl) ?_
  refine D.ps 2 [(8, []), (9, [])] rfl hQ hS T rfl rfl (by kernel_rfl) ?_
  obtain ⟨hx13, hm⟩ := hm
  refine D.q (o := _) 10 [] hQ hS rfl (.none rfl) rfl rfl (by exact Rd.rm rfl rfl rfl rfl hx13) rfl (by kernel_rfl) ?_
  refine D.ps 6 [(11, []), (12, []), (13, []), (14, []), (15, []), (16, [])] rfl hQ hS T rfl rfl (by kernel_rfl) ?_
  obtain ⟨hx14, hm⟩ := hm
  refine D.q (o := _) 17 [] hQ hS rfl (.none rfl) rfl rfl (by exact Rd.dv rfl rfl rfl rfl hx14) rfl (by kernel_rfl) ?_
  refine D.ps 3 [(18, []), (19, []), (20, [])] rfl hQ hS T rfl rfl (by kernel_rfl) ?_
  refine D.done (by kernel_rfl) ?_
  refine C.nx (C.ret ?_)
  exact C.fin T (rs' := [.i ((c.tmod f.W, (w64 (c.tdiv f.W)).tmod f.H, w64 (c.tdiv (w64 (f.W * f.H)))).1), .i ((c.tmod f.W, (w64 (c.tdiv f.W)).tmod f.H, w64 (c.tdiv (w64 (f.W * f.H)))).2.1), .i ((c.tmod f.W, (w64 (c.tdiv f.W)).tmod f.H, w64 (c.tdiv (w64 (f.W * f.H)))).2.2)]) (H' := []) (nl' := 0) [] rfl rfl (.eq rfl) trivial rfl rfl rfl rfl hβ ⟨(c.tmod f.W, (w64 (c.tdiv f.W)).tmod f.H, w64 (c.tdiv (w64 (f.W * f.H)))), hm, rfl, rfl, rfl⟩
theorem T_floor_steps (post : Arr6FloorStep → Prop) (hm : V_floor_steps post) :
    Tr Try.prog 60 [] [] 0 (fun A H' k => ∃ y, post y ∧ A = (.agg [.i y.e0.x, .i y.e0.y, .i y.e0.z, .i y.e1.x, .i y.e1.y, .i y.e1.z, .i y.e2.x, .i y.e2.y, .i y.e2.z, .i y.e3.x, .i y.e3.y, .i y.e3.z, .i y.e4.x, .i y.e4.y, .i y.e4.z, .i y.e5.x, .i y.e5.y, .i y.e5.z]) ∧ H' = [] ∧ k = 0) := by
 refine Tr.intro (n := 8) Try.func60 rfl Try.ntmps60 rfl (fun w0 ok F β hβ => ?_)
 unfold V_floor_steps at hm
 refine C.seq (U.start ?_)
 refine U.e1 (o := _) rfl (.none rfl) (by exact Eff1.al T rfl rfl rfl rfl) ?_
 refine U.done (C.nx (C.seq (U.start ?_)))
 refine U.ps 7 T rfl ?_
 refine U.e1 (o := _) rfl (.none rfl) (by exact Eff1.st T rfl rfl rfl rfl rfl rfl rfl rfl rfl rfl) ?_
 refine U.done (C.nx (C.ret ?_))
 exact C.fin T (rs' := [.agg [.i (({ e0 := ({ x := 1, y := 0, z := 0 : FloorStep }), e1 := ({ x := 0, y := 1, z := 0 : FloorStep }), e2 := ({ x := (-1), y := 0, z := 0 : FloorStep }), e3 := ({ x := 0, y := (-1), z := 0 : FloorStep }), e4 := ({ x := 0, y := 0, z := 1 : FloorStep }), e5 := ({ x := 0, y := 0, z := (-1) : FloorStep }) : Arr6FloorStep }).e0.x), .i (({ e0 := ({ x := 1, y := 0, z := 0 : FloorStep }), e1 := ({ x := 0, y := 1, z := 0 : FloorStep }), e2 := ({ x := (-1), y := 0, z := 0 : FloorStep }), e3 := ({ x := 0, y := (-1), z := 0 : FloorStep }), e4 := ({ x := 0, y := 0, z := 1 : FloorStep }), e5 := ({ x := 0, y := 0, z := (-1) : FloorStep }) : Arr6FloorStep }).e0.y), .i (({ e0 := ({ x := 1, y := 0, z := 0 : FloorStep }), e1 := ({ x := 0, y := 1, z := 0 : FloorStep }), e2 := ({ x := (-1), y := 0, z := 0 : FloorStep }), e3 := ({ x := 0, y := (-1), z := 0 : FloorStep }), e4 := ({ x := 0, y := 0, z := 1 : FloorStep }), e5 := ({ x := 0, y := 0, z := (-1) : FloorStep }) : Arr6FloorStep }).e0.z), .i (({ e0 := ({ x := 1, y := 0, z := 0 : FloorStep }), e1 := ({ x := 0, y := 1, z := 0 : FloorStep }), e2 := ({ x := (-1), y := 0, z := 0 : FloorStep }), e3 := ({ x := 0, y := (-1), z := 0 : FloorStep }), e4 := ({ x := 0, y := 0, z := 1 : FloorStep }), e5 := ({ x := 0, y := 0, z := (-1) : FloorStep }) : Arr6FloorStep }).e1.x), .i (({ e0 := ({ x := 1, y := 0, z := 0 : FloorStep }), e1 := ({ x := 0, y := 1, z := 0 : FloorStep }), e2 := ({ x := (-1), y := 0, z := 0 : FloorStep }), e3 := ({ x := 0, y := (-1), z := 0 : FloorStep }), e4 := ({ x := 0, y := 0, z := 1 : FloorStep }), e5 := ({ x := 0, y := 0, z := (-1) : FloorStep }) : Arr6FloorStep }).e1.y), .i (({ e0 := ({ x := 1, y := 0, z := 0 : FloorStep }), e1 := ({ x := 0, y := 1, z := 0 : FloorStep }), e2 := ({ x := (-1), y := 0, z := 0 : FloorStep }), e3 := ({ x := 0, y := (-1), z := 0 : FloorStep }), e4 := ({ x := 0, y := 0, z := 1 : FloorStep }), e5 := ({ x := 0, y := 0, z := (-1) : FloorStep }) : Arr6FloorStep }).e1.z), .i (({ e0 := ({ x := 1, y := 0, z := 0 : FloorStep }), e1 := ({ x := 0, y := 1, z := 0 : FloorStep }), e2 := ({ x := (-1), y := 0, z := 0 : FloorStep }), e3 := ({ x := 0, y := (-1), z := 0 : FloorStep }), e4 := ({ x := 0, y := 0, z := 1 : FloorStep }), e5 := ({ x := 0, y := 0, z := (-1) : FloorStep }) : Arr6FloorStep }).e2.x), .i (({ e0 := ({ x := 1, y := 0, z := 0 : FloorStep }), e1 := ({ x := 0, y := 1, z := 0 : FloorStep }), e2 := ({ x := (-1), y := 0, z := 0 : FloorStep }), e3 := ({ x := 0, y := (-1), z := 0 : FloorStep }), e4 := ({ x := 0, y := 0, z := 1 : FloorStep }), e5 := ({ x := 0, y := 0, z := (-1) : FloorStep }) : Arr6FloorStep }).e2.y), .i (({ e0 := ({ x := 1, y := 0, z := 0 : FloorStep }), e1 := ({ x := 0, y := 1, z := 0 : FloorStep }), e2 := ({ x := (-1), y := 0, z := 0 : FloorStep }), e3 := ({ x := 0, y := (-1), z := 0 : FloorStep }), e4 := ({ x := 0, y := 0, z := 1 : FloorStep }), e5 := ({ x := 0, y := 0, z := (-1) : FloorStep }) : Arr6FloorStep }).e2.z), .i (({ e0 := ({ x := 1, y := 0, z := 0 : FloorStep }), e1 := ({ x := 0, y := 1, z := 0 : FloorStep }), e2 := ({ x := (-1), y := 0, z := 0 : FloorStep }), e3 := ({ x := 0, y := (-1), z := 0 : FloorStep }), e4 := ({ x := 0, y := 0, z := 1 : FloorStep }), e5 := ({ x := 0, y := 0, z := (-1) : FloorStep }) : Arr6FloorStep }).e3.x), .i (({ e0 := ({ x := 1, y := 0, z := 0 : FloorStep }), e1 := ({ x := 0, y := 1, z := 0 : FloorStep }), e2 := ({ x := (-1), y := 0, z := 0 : FloorStep }), e3 := ({ x := 0, y := (-1), z := 0 : FloorStep }), e4 := ({ x := 0, y := 0, z := 1 : FloorStep }), e5 := ({ x := 0, y := 0, z := (-1) : FloorStep }) : Arr6FloorStep }).e3.y), .i (({ e0 := ({ x := 1, y := 0, z := 0 : FloorStep }), e1 := ({ x := 0, y := 1, z := 0 : FloorStep }), e2 := ({ x := (-1), y := 0, z := 0 : FloorStep }), e3 := ({ x := 0, y := (-1), z := 0 : FloorStep }), e4 := ({ x := 0, y := 0, z := 1 : FloorStep }), e5 := ({ x := 0, y := 0, z := (-1) : FloorStep }) : Arr6FloorStep }).e3.z), .i (({ e0 := ({ x := 1, y := 0, z := 0 : FloorStep }), e1 := ({ x := 0, y := 1, z := 0 : FloorStep }), e2 := ({ x := (-1), y := 0, z := 0 : FloorStep }), e3 := ({ x := 0, y := (-1), z := 0 : FloorStep }), e4 := ({ x := 0, y := 0, z := 1 : FloorStep }), e5 := ({ x := 0, y := 0, z := (-1) : FloorStep }) : Arr6FloorStep }).e4.x), .i (({ e0 := ({ x := 1, y := 0, z := 0 : FloorStep }), e1 := ({ x := 0, y := 1, z := 0 : FloorStep }), e2 := ({ x := (-1), y := 0, z := 0 : FloorStep }), e3 := ({ x := 0, y := (-1), z := 0 : FloorStep }), e4 := ({ x := 0, y := 0, z := 1 : FloorStep }), e5 := ({ x := 0, y := 0, z := (-1) : FloorStep }) : Arr6FloorStep }).e4.y), .i (({ e0 := ({ x := 1, y := 0, z := 0 : FloorStep }), e1 := ({ x := 0, y := 1, z := 0 : FloorStep }), e2 := ({ x := (-1), y := 0, z := 0 : FloorStep }), e3 := ({ x := 0, y := (-1), z := 0 : FloorStep }), e4 := ({ x := 0, y := 0, z := 1 : FloorStep }), e5 := ({ x := 0, y := 0, z := (-1) : FloorStep }) : Arr6FloorStep }).e4.z), .i (({ e0 := ({ x := 1, y := 0, z := 0 : FloorStep }), e1 := ({ x := 0, y := 1, z := 0 : FloorStep }), e2 := ({ x := (-1), y := 0, z := 0 : FloorStep }), e3 := ({ x := 0, y := (-1), z := 0 : FloorStep }), e4 := ({ x := 0, y := 0, z := 1 : FloorStep }), e5 := ({ x := 0, y := 0, z := (-1) : FloorStep }) : Arr6FloorStep }).e5.x), .i (({ e0 := ({ x := 1, y := 0, z := 0 : FloorStep }), e1 := ({ x := 0, y := 1, z := 0 : FloorStep }), e2 := ({ x := (-1), y := 0, z := 0 : FloorStep }), e3 := ({ x := 0, y := (-1), z := 0 : FloorStep }), e4 := ({ x := 0, y := 0, z := 1 : FloorStep }), e5 := ({ x := 0, y := 0, z := (-1) : FloorStep }) : Arr6FloorStep }).e5.y), .i (({ e0 := ({ x := 1, y := 0, z := 0 : FloorStep }), e1 := ({ x := 0, y := 1, z := 0 : FloorStep }), e2 := ({ x := (-1), y := 0, z := 0 : FloorStep }), e3 := ({ x := 0, y := (-1), z := 0 : FloorStep }), e4 := ({ x := 0, y := 0, z := 1 : FloorStep }), e5 := ({ x := 0, y := 0, z := (-1) : FloorStep }) : Arr6FloorStep }).e5.z)]]) (H' := []) (nl' := 0) [] rfl rfl (.eq rfl) trivial rfl rfl rfl rfl hβ ⟨({ e0 := ({ x := 1, y := 0, z := 0 : FloorStep }), e1 := ({ x := 0, y := 1, z := 0 : FloorStep }), e2 := ({ x := (-1), y := 0, z := 0 : FloorStep }), e3 := ({ x := 0, y := (-1), z := 0 : FloorStep }), e4 := ({ x := 0, y := 0, z := 1 : FloorStep }), e5 := ({ x := 0, y := 0, z := (-1) : FloorStep }) : Arr6FloorStep }), hm, rfl, rfl, rfl⟩
theorem T_floor_Cell (f : ApiFloor) (x_1 : Int) (y_1 : Int) (z : Int) (post : Int → Prop) (hm : V_floor_Cell f x_1 y_1 z post) :
    Tr Try.prog 61 [.agg (eApiFloor f), .i x_1, .i y_1, .i z] [] 0 (fun A H' k => ∃ y, post y ∧ A = (.i y) ∧ H' = [] ∧ k = 0) := by
 refine Tr.intro (n := 43) Try.func61 rfl Try.ntmps61 rfl (fun w0 ok F β hβ => ?_)
 unfold V_floor_Cell at hm
 refine C.seq (U.start ?_)
 refine U.e1 (o := _) rfl (.none rfl) (by exact Eff1.box rfl rfl rfl rfl rfl) ?_
 refine U.ps 1 T rfl ?_
 refine U.done (C.nx (C.seq (C.seq ?_)))
 refine C.jn (fun (x3 : Bool) => [(1, .i x_1), (2, .i y_1), (3, .i z), (4, .p 0 0), (31, .b x3)]) (fun (x3 : Bool) => [(0, .box (eApiFloor f))]) 1 hm (fun x3 hm => ?_) (fun J4 hm hJ4 => ?_)
 ·refine C.nx ?_
  refine C.ite rfl hm (fun hb8 hm => ?_) (fun hb8 hm => ?_)
  ·refine C.seq (U.start ?_)
   refine U.ps 1 T rfl ?_
   refine U.done (C.nx (C.ret (C.rt ?_)))
   exact C.fin T (rs' := [.i (-1)]) (H' := []) (nl' := 0) [] rfl rfl (.eq rfl) trivial rfl rfl rfl rfl hβ ⟨(-1), hm, rfl, rfl, rfl⟩
  ·refine C.skip (C.nx (C.seq (U.start ?_)))
   refine U.ps 12 T rfl ?_
   refine U.done (C.nx (C.ret ?_))
   exact C.fin T (rs' := [.i (w64 ((w64 ((w64 ((w64 (z * f.H)) + y_1)) * f.W)) + x_1))]) (H' := []) (nl' := 0) [] rfl rfl (.eq rfl) trivial rfl rfl rfl rfl hβ ⟨w64 ((w64 ((w64 ((w64 (z * f.H)) + y_1)) * f.W)) + x_1), hm, rfl, rfl, rfl⟩
 ·refine U.start ?_
  refine U.ps 6 T rfl ?_
  refine hm.cs (fun hb5 hm => ?_) (fun hb5 hm => ?_)
  ·refine U.sks 4 5 false 14 hb5 rfl rfl rfl ?_
   refine U.r (o := _) rfl (.none rfl) rfl rfl (by exact Rd.pk rfl rfl hb5 rfl) ?_
   refine U.ps 1 T rfl ?_
   refine U.sks 4 11 false 20 rfl rfl rfl rfl ?_
   refine U.r (o := _) rfl (.none rfl) rfl rfl (by exact Rd.pk rfl rfl rfl rfl) ?_
   refine U.ps 1 T rfl ?_
   refine U.sks 4 17 false 26 rfl rfl rfl rfl ?_
   refine U.r (o := _) rfl (.none rfl) rfl rfl (by exact Rd.pk rfl rfl rfl rfl) ?_
   refine U.done ?_
   exact St.wk (hJ4 _ hm) (Wk.mk' [some 0] rfl rfl (.eqs rfl) ⟨⟨_, rfl, .box rfl (.eq rfl)⟩, trivial⟩ rfl)
  ·refine U.pg 4 5 false 14 hb5 T rfl rfl rfl rfl ?_
   refine U.r (o := _) rfl (.none rfl) rfl rfl (by exact Rd.pk' rfl rfl hb5 rfl) ?_
   refine U.ps 1 T rfl ?_
   refine hm.cs (fun hb6 hm => ?_) (fun hb6 hm => ?_)
   ·refine U.sks 4 11 false 20 hb6 rfl rfl rfl ?_
    refine U.r (o := _) rfl (.none rfl) rfl rfl (by exact Rd.pk rfl rfl hb6 rfl) ?_
    refine U.ps 1 T rfl ?_
    refine U.sks 4 17 false 26 rfl rfl rfl rfl ?_
    refine U.r (o := _) rfl (.none rfl) rfl rfl (by exact Rd.pk rfl rfl rfl rfl) ?_
    refine U.done ?_
    exact St.wk (hJ4 _ hm) (Wk.mk' [some 0] rfl rfl (.eqs rfl) ⟨⟨_, rfl, .box rfl (.eq rfl)⟩, trivial⟩ rfl)
   ·refine U.pg 4 11 false 20 hb6 T rfl rfl rfl rfl ?_
    refine U.r (o := _) rfl (.none rfl) rfl rfl (by exact Rd.pk' rfl rfl hb6 rfl) ?_
    refine U.ps 1 T rfl ?_
    refine hm.cs (fun hb7 hm => ?_) (fun hb7 hm => ?_)
    ·refine U.sks 4 17 false 26 hb7 rfl rfl rfl ?_
     refine U.r (o := _) rfl (.none rfl) rfl rfl (by exact Rd.pk rfl rfl hb7 rfl) ?_
     refine U.done ?_
     exact St.wk (hJ4 _ hm) (Wk.mk' [some 0] rfl rfl (.eqs rfl) ⟨⟨_, rfl, .box rfl (.eq rfl)⟩, trivial⟩ rfl)
    ·refine U.pg 4 17 false 26 hb7 T rfl rfl rfl rfl ?_
     refine U.r (o := _) rfl (.none rfl) rfl rfl (by exact Rd.pk' rfl rfl hb7 rfl) ?_
     refine U.done ?_
     exact St.wk (hJ4 _ hm) (Wk.mk' [some 0] rfl rfl (.eqs rfl) ⟨⟨_, rfl, .box rfl (.eq rfl)⟩, trivial⟩ rfl)
theorem T_floor_beside (f : ApiFloor) (c : Int) (d : Int) (post : Int → Prop) (hm : V_floor_beside f c d post) :
    Tr Try.prog 52 [.agg (eApiFloor f), .i c, .i d] [] 0 (fun A H' k => ∃ y, post y ∧ A = (.i y) ∧ H' = [] ∧ k = 0) := by
 refine Tr.intro (n := 47) Try.func52 rfl Try.ntmps52 rfl (fun w0 ok F β hβ => ?_)
 unfold V_floor_beside at hm
 refine C.seq (U.start ?_)
 refine U.e1 (o := _) rfl (.none rfl) (by exact Eff1.box rfl rfl rfl rfl rfl) ?_
 refine U.ps 1 T rfl ?_
 refine U.done (C.nx (C.seq (C.seq ?_)))
 refine C.jn (fun (x3 : Bool) => [(1, .i c), (2, .i d), (3, .p 0 0), (22, .b x3)]) (fun (x3 : Bool) => [(0, .box (eApiFloor f))]) 1 hm (fun x3 hm => ?_) (fun J4 hm hJ4 => ?_)
 ·refine C.nx ?_
  refine C.ite rfl hm (fun hb8 hm => ?_) (fun hb8 hm => ?_)
  ·refine C.seq (U.start ?_)
   refine U.ps 1 T rfl ?_
   refine U.done (C.nx (C.ret (C.rt ?_)))
   exact C.fin T (rs' := [.i (-1)]) (H' := []) (nl' := 0) [] rfl rfl (.eq rfl) trivial rfl rfl rfl rfl hβ ⟨(-1), hm, rfl, rfl, rfl⟩
  ·refine C.skip (C.nx (C.seq (U.start ?_)))
   refine U.ps 2 T rfl ?_
   refine U.e (o := _) rfl (.none rfl) (by exact Eff.c [] (v := true) (T_floor_At f c _ hm) en59 rfl rfl rfl (.eq rfl) trivial rfl rfl rfl rfl rfl rfl (fun _ _ => ⟨(.tup (.cons (.v _) (.cons (.v _) (.cons (.v _) .nil)))), trivial⟩) (.inr ⟨rfl, rfl⟩) (fun _ => rfl) (fun _ => rfl) rfl) (fun x13' hm => ?_)
   obtain ⟨x13⟩ := x13'
   refine U.ps 7 T rfl ?_
   refine U.done (C.nx (C.seq (U.start ?_)))
   refine U.e (o := _) rfl (.none rfl) (by exact Eff.c [] (v := true) (T_floor_steps _ hm) en60 rfl rfl rfl (.eq rfl) trivial rfl rfl rfl rfl rfl rfl (fun _ _ => ⟨(.agg (.cons (.v _) (.cons (.v _) (.cons (.v _) (.cons (.v _) (.cons (.v _) (.cons (.v _) (.cons (.v _) (.cons (.v _) (.cons (.v _) (.cons (.v _) (.cons (.v _) (.cons (.v _) (.cons (.v _) (.cons (.v _) (.cons (.v _) (.cons (.v _) (.cons (.v _) (.cons (.v _) .nil))))))))))))))))))), trivial⟩) (.inr ⟨rfl, rfl⟩) (fun _ => rfl) (fun _ => rfl) rfl) (fun x16' hm => ?_)
   obtain ⟨x16⟩ := x16'
   refine U.ps 1 T rfl ?_
   obtain ⟨x17, hx17, hm⟩ := hm
   refine U.r (o := _) rfl (.none rfl) rfl rfl (by exact Rd.ia T (enc := eFloorStep) rfl rfl rfl rfl rfl rfl rfl rfl rfl (fun _ _ => rfl) hx17) ?_
   refine U.e1 (o := _) rfl (.none rfl) (by exact Eff1.al T rfl rfl rfl rfl) ?_
   refine U.e1 (o := _) rfl (.none rfl) (by exact Eff1.st T rfl rfl rfl rfl rfl rfl rfl rfl rfl rfl) ?_
   refine U.done (C.nx (C.seq (U.start ?_)))
   refine U.ps 13 T rfl ?_
   refine U.e (o := _) rfl (.none rfl) (by exact Eff.c [] (v := true) (T_floor_Cell f (w64 (x13.1 + x17.x)) (w64 (x13.2.1 + x17.y)) (w64 (x13.2.2 + x17.z)) _ hm) en61 rfl rfl rfl (.eq rfl) trivial rfl rfl rfl rfl rfl rfl (fun _ _ => ⟨(.v _), trivial⟩) (.inr ⟨rfl, rfl⟩) (fun _ => rfl) (fun _ => rfl) rfl) (fun x20' hm => ?_)
   obtain ⟨x20⟩ := x20'
   refine U.ps 1 T rfl ?_
   refine U.done (C.nx (C.ret ?_))
   exact C.fin T (rs' := [.i x20]) (H' := []) (nl' := 0) [] rfl rfl (.eq rfl) trivial rfl rfl rfl rfl hβ ⟨x20, hm, rfl, rfl, rfl⟩
 ·refine U.start ?_
  refine U.ps 2 T rfl ?_
  refine U.e (o := _) rfl (.none rfl) (by exact Eff.c [] (v := true) (T_floor_is f c _ hm) en58 rfl rfl rfl (.eq rfl) trivial rfl rfl rfl rfl rfl rfl (fun _ _ => ⟨(.v _), trivial⟩) (.inr ⟨rfl, rfl⟩) (fun _ => rfl) (fun _ => rfl) rfl) (fun x5' hm => ?_)
  obtain ⟨x5⟩ := x5'
  refine U.ps 2 T rfl ?_
  refine hm.cs (fun hb6 hm => ?_) (fun hb6 hm => ?_)
  ·refine U.pg 2 4 false 15 (ntF hb6) T rfl rfl rfl rfl ?_
   refine U.r (o := _) rfl (.none rfl) rfl rfl (by exact Rd.pk' rfl rfl (ntF hb6) rfl) ?_
   refine U.ps 1 T rfl ?_
   refine hm.cs (fun hb7 hm => ?_) (fun hb7 hm => ?_)
   ·refine U.sks 2 8 false 19 hb7 rfl rfl rfl ?_
    refine U.r (o := _) rfl (.none rfl) rfl rfl (by exact Rd.pk rfl rfl hb7 rfl) ?_
    refine U.done ?_
    exact St.wk (hJ4 _ hm) (Wk.mk' [some 0] rfl rfl (.eqs rfl) ⟨⟨_, rfl, .box rfl (.eq rfl)⟩, trivial⟩ rfl)
   ·refine U.pg 2 8 false 19 hb7 T rfl rfl rfl rfl ?_
    refine U.r (o := _) rfl (.none rfl) rfl rfl (by exact Rd.pk' rfl rfl hb7 rfl) ?_
    refine U.done ?_
    exact St.wk (hJ4 _ hm) (Wk.mk' [some 0] rfl rfl (.eqs rfl) ⟨⟨_, rfl, .box rfl (.eq rfl)⟩, trivial⟩ rfl)
  ·refine U.sks 2 4 false 15 (ntT hb6) rfl rfl rfl ?_
   refine U.r (o := _) rfl (.none rfl) rfl rfl (by exact Rd.pk rfl rfl (ntT hb6) rfl) ?_
   refine U.ps 1 T rfl ?_
   refine U.sks 2 8 false 19 rfl rfl rfl rfl ?_
   refine U.r (o := _) rfl (.none rfl) rfl rfl (by exact Rd.pk rfl rfl rfl rfl) ?_
   refine U.done ?_
   exact St.wk (hJ4 _ hm) (Wk.mk' [some 0] rfl rfl (.eqs rfl) ⟨⟨_, rfl, .box rfl (.eq rfl)⟩, trivial⟩ rfl)
theorem T_floor_Next (f : ApiFloor) (c : Int) (d : Int) (post : (Int × Bool) → Prop) (hm : V_floor_Next f c d post) :
    Tr Try.prog 46 [.agg (eApiFloor f), .i c, .i d] [] 0 (fun A H' k => ∃ y, post y ∧ A = (.tup [.i y.1, .b y.2]) ∧ H' = [] ∧ k = 0) := by
 refine Tr.intro (n := 65) Try.func46 rfl Try.ntmps46 rfl (fun w0 ok F β hβ => ?_)
 unfold V_floor_Next at hm
 refine C.seq (U.start ?_)
 refine U.e1 (o := _) rfl (.none rfl) (by exact Eff1.box rfl rfl rfl rfl rfl) ?_
 refine U.ps 2 T rfl ?_
 refine U.done (C.nx (C.seq (U.start ?_)))
 refine U.ps 3 T rfl ?_
 refine U.e (o := _) rfl (.none rfl) (by exact Eff.c [] (v := true) (T_floor_beside f c d _ hm) en52 rfl rfl rfl (.eq rfl) trivial rfl rfl rfl rfl rfl rfl (fun _ _ => ⟨(.v _), trivial⟩) (.inr ⟨rfl, rfl⟩) (fun _ => rfl) (fun _ => rfl) rfl) (fun x5' hm => ?_)
 obtain ⟨x5⟩ := x5'
 refine U.ps 1 T rfl ?_
 refine U.done (C.nx (C.seq (C.seq ?_)))
 refine C.jn (fun (x6 : Bool) => [(1, .i c), (2, .i d), (3, .p 0 0), (8, .i x5), (41, .b x6)]) (fun (x6 : Bool) => [(0, .box (eApiFloor f))]) 1 hm (fun x6 hm => ?_) (fun J7 hm hJ7 => ?_)
 ·refine C.nx ?_
  refine C.ite rfl hm (fun hb15 hm => ?_) (fun hb15 hm => ?_)
  ·refine C.seq (U.start ?_)
   refine U.ps 2 T rfl ?_
   refine U.done (C.nx (C.ret (C.rt ?_)))
   exact C.fin T (rs' := [.i ((0, false).1), .b ((0, false).2)]) (H' := []) (nl' := 0) [] rfl rfl (.eq rfl) trivial rfl rfl rfl rfl hβ ⟨(0, false), hm, rfl, rfl, rfl⟩
  ·refine C.skip (C.nx (C.seq (C.seq ?_)))
   refine C.jn (fun (x18 : Bool) => [(8, .i x5), (63, .b x18)]) (fun (x18 : Bool) => []) 0 hm (fun x18 hm => ?_) (fun J19 hm hJ19 => ?_)
   ·refine C.nx ?_
    refine C.ite rfl hm (fun hb28 hm => ?_) (fun hb28 hm => ?_)
    ·refine C.seq (U.start ?_)
     refine U.ps 2 T rfl ?_
     refine U.done (C.nx (C.ret (C.rt ?_)))
     exact C.fin T (rs' := [.i ((0, false).1), .b ((0, false).2)]) (H' := []) (nl' := 0) [] rfl rfl (.eq rfl) trivial rfl rfl rfl rfl hβ ⟨(0, false), hm, rfl, rfl, rfl⟩
    ·refine C.skip (C.nx (C.seq (U.start ?_)))
     refine U.ps 3 T rfl ?_
     refine U.done (C.nx (C.ret ?_))
     exact C.fin T (rs' := [.i ((x5, true).1), .b ((x5, true).2)]) (H' := []) (nl' := 0) [] rfl rfl (.eq rfl) trivial rfl rfl rfl rfl hβ ⟨(x5, true), hm, rfl, rfl, rfl⟩
   ·refine U.start ?_
    refine U.ps 3 T rfl ?_
    refine hm.cs (fun hb20 hm => ?_) (fun hb20 hm => ?_)
    ·refine U.sks 2 2 false 44 hb20 rfl rfl rfl ?_
     refine U.r (o := _) rfl (.none rfl) rfl rfl (by exact Rd.pk rfl rfl hb20 rfl) ?_
     refine U.ps 1 T rfl ?_
     refine U.pg 3 6 true 48 rfl T rfl rfl rfl rfl ?_
     obtain ⟨x21, hx21, hm⟩ := hm
     refine U.r (o := _) rfl (.take 6 true 48 _ rfl rfl rfl rfl) rfl rfl (by exact Rd.ix T rfl rfl rfl rfl rfl rfl hx21) ?_
     refine U.pg 3 6 true 48 rfl T rfl rfl rfl rfl ?_
     refine hm.cs (fun hb22 hm => ?_) (fun hb22 hm => ?_)
     ·refine U.sks 6 13 false 55 hb22 rfl rfl rfl ?_
      refine U.r (o := _) rfl (.take 6 true 48 _ rfl rfl rfl rfl) rfl rfl (by exact Rd.pk rfl rfl hb22 rfl) ?_
      refine U.r (o := _) rfl (.none rfl) rfl rfl (by exact Rd.pk rfl rfl rfl rfl) ?_
      refine U.done ?_
      exact St.wk (hJ19 _ hm) (Wk.mk' [] rfl rfl (.eqs rfl) trivial rfl)
     ·refine U.pg 3 13 false 55 hb22 T rfl rfl rfl rfl ?_
      obtain ⟨x23, hx23, hm⟩ := hm
      refine U.r (o := _) rfl (.take 13 false 55 _ hb22 rfl rfl rfl) rfl rfl (by exact Rd.ix T rfl rfl rfl rfl rfl rfl hx23) ?_
      refine U.pg 2 13 false 55 hb22 T rfl rfl rfl rfl ?_
      refine U.r (o := _) rfl (.take 6 true 48 _ rfl rfl rfl rfl) rfl rfl (by exact Rd.pk' rfl rfl hb22 rfl) ?_
      refine U.r (o := _) rfl (.none rfl) rfl rfl (by exact Rd.pk rfl rfl rfl rfl) ?_
      refine U.done ?_
      exact St.wk (hJ19 _ hm) (Wk.mk' [] rfl rfl (.eqs rfl) trivial rfl)
    ·refine U.pg 2 2 false 44 hb20 T rfl rfl rfl rfl ?_
     refine U.r (o := _) rfl (.none rfl) rfl rfl (by exact Rd.pk' rfl rfl hb20 rfl) ?_
     refine U.ps 1 T rfl ?_
     refine hm.cs (fun hb24 hm => ?_) (fun hb24 hm => ?_)
     ·refine U.pg 3 6 true 48 hb24 T rfl rfl rfl rfl ?_
      obtain ⟨x25, hx25, hm⟩ := hm
      refine U.r (o := _) rfl (.take 6 true 48 _ hb24 rfl rfl rfl) rfl rfl (by exact Rd.ix T rfl rfl rfl rfl rfl rfl hx25) ?_
      refine U.pg 3 6 true 48 hb24 T rfl rfl rfl rfl ?_
      refine hm.cs (fun hb26 hm => ?_) (fun hb26 hm => ?_)
      ·refine U.sks 6 13 false 55 hb26 rfl rfl rfl ?_
       refine U.r (o := _) rfl (.take 6 true 48 _ hb24 rfl rfl rfl) rfl rfl (by exact Rd.pk rfl rfl hb26 rfl) ?_
       refine U.r (o := _) rfl (.none rfl) rfl rfl (by exact Rd.pk rfl rfl hb24 rfl) ?_
       refine U.done ?_
       exact St.wk (hJ19 _ hm) (Wk.mk' [] rfl rfl (.eqs rfl) trivial rfl)
      ·refine U.pg 3 13 false 55 hb26 T rfl rfl rfl rfl ?_
       obtain ⟨x27, hx27, hm⟩ := hm
       refine U.r (o := _) rfl (.take 13 false 55 _ hb26 rfl rfl rfl) rfl rfl (by exact Rd.ix T rfl rfl rfl rfl rfl rfl hx27) ?_
       refine U.pg 2 13 false 55 hb26 T rfl rfl rfl rfl ?_
       refine U.r (o := _) rfl (.take 6 true 48 _ hb24 rfl rfl rfl) rfl rfl (by exact Rd.pk' rfl rfl hb26 rfl) ?_
       refine U.r (o := _) rfl (.none rfl) rfl rfl (by exact Rd.pk rfl rfl hb24 rfl) ?_
       refine U.done ?_
       exact St.wk (hJ19 _ hm) (Wk.mk' [] rfl rfl (.eqs rfl) trivial rfl)
     ·refine U.sks 7 6 true 48 hb24 rfl rfl rfl ?_
      refine U.sku 6 13 false 55 rfl rfl rfl ?_
      refine U.sks 1 6 true 48 hb24 rfl rfl rfl ?_
      refine U.r (o := _) rfl (.none rfl) rfl rfl (by exact Rd.pk' rfl rfl hb24 rfl) ?_
      refine U.done ?_
      exact St.wk (hJ19 _ hm) (Wk.mk' [] rfl rfl (.eqs rfl) trivial rfl)
 ·refine U.start ?_
  refine U.ps 3 T rfl ?_
  refine hm.cs (fun hb8 hm => ?_) (fun hb8 hm => ?_)
  ·refine U.sks 6 2 false 15 hb8 rfl rfl rfl ?_
   refine U.r (o := _) rfl (.none rfl) rfl rfl (by exact Rd.pk rfl rfl hb8 rfl) ?_
   refine U.ps 1 T rfl ?_
   refine U.sks 6 10 false 23 rfl rfl rfl rfl ?_
   refine U.r (o := _) rfl (.none rfl) rfl rfl (by exact Rd.pk rfl rfl rfl rfl) ?_
   refine U.ps 1 T rfl ?_
   refine U.sks 9 18 false 31 rfl rfl rfl rfl ?_
   refine U.r (o := _) rfl (.none rfl) rfl rfl (by exact Rd.pk rfl rfl rfl rfl) ?_
   refine U.done ?_
   exact St.wk (hJ7 _ hm) (Wk.mk' [some 0] rfl rfl (.eqs rfl) ⟨⟨_, rfl, .box rfl (.eq rfl)⟩, trivial⟩ rfl)
  ·refine U.pg 3 2 false 15 hb8 T rfl rfl rfl rfl ?_
   obtain ⟨x9, hx9, hm⟩ := hm
   refine U.r (o := _) rfl (.take 2 false 15 _ hb8 rfl rfl rfl) rfl rfl (by exact Rd.ix T rfl rfl rfl rfl rfl rfl hx9) ?_
   refine U.pg 2 2 false 15 hb8 T rfl rfl rfl rfl ?_
   refine U.r (o := _) rfl (.none rfl) rfl rfl (by exact Rd.pk' rfl rfl hb8 rfl) ?_
   refine U.ps 1 T rfl ?_
   refine hm.cs (fun hb10 hm => ?_) (fun hb10 hm => ?_)
   ·refine U.sks 6 10 false 23 hb10 rfl rfl rfl ?_
    refine U.r (o := _) rfl (.none rfl) rfl rfl (by exact Rd.pk rfl rfl hb10 rfl) ?_
    refine U.ps 1 T rfl ?_
    refine U.sks 9 18 false 31 rfl rfl rfl rfl ?_
    refine U.r (o := _) rfl (.none rfl) rfl rfl (by exact Rd.pk rfl rfl rfl rfl) ?_
    refine U.done ?_
    exact St.wk (hJ7 _ hm) (Wk.mk' [some 0] rfl rfl (.eqs rfl) ⟨⟨_, rfl, .box rfl (.eq rfl)⟩, trivial⟩ rfl)
   ·refine U.pg 3 10 false 23 hb10 T rfl rfl rfl rfl ?_
    obtain ⟨x11, hx11, hm⟩ := hm
    refine U.r (o := _) rfl (.take 10 false 23 _ hb10 rfl rfl rfl) rfl rfl (by exact Rd.ix T rfl rfl rfl rfl rfl rfl hx11) ?_
    refine U.pg 2 10 false 23 hb10 T rfl rfl rfl rfl ?_
    refine U.r (o := _) rfl (.none rfl) rfl rfl (by exact Rd.pk' rfl rfl hb10 rfl) ?_
    refine U.ps 1 T rfl ?_
    refine hm.cs (fun hb12 hm => ?_) (fun hb12 hm => ?_)
    ·refine U.sks 9 18 false 31 hb12 rfl rfl rfl ?_
     refine U.r (o := _) rfl (.none rfl) rfl rfl (by exact Rd.pk rfl rfl hb12 rfl) ?_
     refine U.done ?_
     exact St.wk (hJ7 _ hm) (Wk.mk' [some 0] rfl rfl (.eqs rfl) ⟨⟨_, rfl, .box rfl (.eq rfl)⟩, trivial⟩ rfl)
    ·refine U.pg 3 18 false 31 hb12 T rfl rfl rfl rfl ?_
     obtain ⟨x13, hx13, hm⟩ := hm
     refine U.r (o := _) rfl (.take 18 false 31 _ hb12 rfl rfl rfl) rfl rfl (by exact Rd.ix T rfl rfl rfl rfl rfl rfl hx13) ?_
     refine U.pg 2 18 false 31 hb12 T rfl rfl rfl rfl ?_
     obtain ⟨hx14, hm⟩ := hm
     refine U.r (o := _) rfl (.take 18 false 31 _ hb12 rfl rfl rfl) rfl rfl (by exact Rd.sh rfl rfl rfl rfl hx14) ?_
     refine U.pg 2 18 false 31 hb12 T rfl rfl rfl rfl ?_
     refine U.r (o := _) rfl (.none rfl) rfl rfl (by exact Rd.pk' rfl rfl hb12 rfl) ?_
     refine U.done ?_
     exact St.wk (hJ7 _ hm) (Wk.mk' [some 0] rfl rfl (.eqs rfl) ⟨⟨_, rfl, .box rfl (.eq rfl)⟩, trivial⟩ rfl)
theorem T_cmp_isNaN_int (x_1 : Int) (post : Bool → Prop) (hm : V_cmp_isNaN_int x_1 post) :
    Tr Try.prog 62 [.i x_1] [] 0 (fun A H' k => ∃ y, post y ∧ A = (.b y) ∧ H' = [] ∧ k = 0) := by
 refine Tr.intro (n := 6) Try.func62 rfl Try.ntmps62 rfl (fun w0 ok F β hβ => ?_)
 unfold V_cmp_isNaN_int at hm
 refine C.seq (U.start ?_)
 refine U.ps 1 T rfl ?_
 refine U.done (C.nx (C.seq (U.start ?_)))
 refine U.ps 4 T rfl ?_
 refine U.done (C.nx (C.ret ?_))
 exact C.fin T (rs' := [.b (x_1 != x_1)]) (H' := []) (nl' := 0) [] rfl rfl (.eq rfl) trivial rfl rfl rfl rfl hβ ⟨(x_1 != x_1), hm, rfl, rfl, rfl⟩
theorem T_cmp_Less_int (x_1 : Int) (y_1 : Int) (post : Bool → Prop) (hm : V_cmp_Less_int x_1 y_1 post) :
    Tr Try.prog 53 [.i x_1, .i y_1] [] 0 (fun A H' k => ∃ y, post y ∧ A = (.b y) ∧ H' = [] ∧ k = 0) := by
 refine Tr.intro (n := 17) Try.func53 rfl Try.ntmps53 rfl (fun w0 ok F β hβ => ?_)
 unfold V_cmp_Less_int at hm
 refine C.seq (U.start ?_)
 refine U.ps 1 T rfl ?_
 refine U.done (C.nx (C.seq ?_))
 refine C.jn (fun (x3 : Bool) => [(4, .b x3)]) (fun (x3 : Bool) => []) 0 hm (fun x3 hm => ?_) (fun J4 hm hJ4 => ?_)
 ·refine C.nx (C.ret ?_)
  exact C.fin T (rs' := [.b x3]) (H' := []) (nl' := 0) [] rfl rfl (.eq rfl) trivial rfl rfl rfl rfl hβ ⟨x3, hm, rfl, rfl, rfl⟩
 ·refine U.start ?_
  refine U.ps 1 T rfl ?_
  refine U.e (o := _) rfl (.none rfl) (by exact Eff.c [] (v := true) (T_cmp_isNaN_int x_1 _ hm) en62 rfl rfl rfl (.eq rfl) trivial rfl rfl rfl rfl rfl rfl (fun _ _ => ⟨(.v _), trivial⟩) (.inr ⟨rfl, rfl⟩) (fun _ => rfl) (fun _ => rfl) rfl) (fun x5' hm => ?_)
  obtain ⟨x5⟩ := x5'
  refine U.ps 1 T rfl ?_
  refine hm.cs (fun hb6 hm => ?_) (fun hb6 hm => ?_)
  ·refine U.pg 1 2 true 7 hb6 T rfl rfl rfl rfl ?_
   refine U.e (o := _) rfl (.take 2 true 7 _ hb6 rfl rfl rfl) (by exact Eff.c [] (v := true) (T_cmp_isNaN_int y_1 _ hm) en62 rfl rfl rfl (.eq rfl) trivial rfl rfl rfl rfl rfl rfl (fun _ _ => ⟨(.v _), trivial⟩) (.inr ⟨rfl, rfl⟩) (fun _ => rfl) (fun _ => rfl) rfl) (fun x7' hm => ?_)
   obtain ⟨x7⟩ := x7'
   refine U.pg 1 2 true 7 hb6 T rfl rfl rfl rfl ?_
   refine U.r (o := _) rfl (.none rfl) rfl rfl (by exact Rd.pk rfl rfl hb6 rfl) ?_
   refine U.ps 1 T rfl ?_
   refine hm.cs (fun hb8 hm => ?_) (fun hb8 hm => ?_)
   ·refine U.pg 3 7 false 12 (ntF hb8) T rfl rfl rfl rfl ?_
    refine U.r (o := _) rfl (.none rfl) rfl rfl (by exact Rd.pk' rfl rfl (ntF hb8) rfl) ?_
    refine U.ps 1 T rfl ?_
    refine U.done ?_
    exact St.wk (hJ4 _ hm) (Wk.mk' [] rfl rfl (.eqs rfl) trivial rfl)
   ·refine U.sks 3 7 false 12 (ntT hb8) rfl rfl rfl ?_
    refine U.r (o := _) rfl (.none rfl) rfl rfl (by exact Rd.pk rfl rfl (ntT hb8) rfl) ?_
    refine U.ps 1 T rfl ?_
    refine U.done ?_
    exact St.wk (hJ4 _ hm) (Wk.mk' [] rfl rfl (.eqs rfl) trivial rfl)
  ·refine U.sks 3 2 true 7 hb6 rfl rfl rfl ?_
   refine U.r (o := _) rfl (.none rfl) rfl rfl (by exact Rd.pk' rfl rfl hb6 rfl) ?_
   refine U.ps 1 T rfl ?_
   refine U.pg 3 7 false 12 rfl T rfl rfl rfl rfl ?_
   refine U.r (o := _) rfl (.none rfl) rfl rfl (by exact Rd.pk' rfl rfl rfl rfl) ?_
   refine U.ps 1 T rfl ?_
   refine U.done ?_
   exact St.wk (hJ4 _ hm) (Wk.mk' [] rfl rfl (.eqs rfl) trivial rfl)
theorem T_slices_isNaN_int (x_1 : Int) (post : Bool → Prop) (hm : V_slices_isNaN_int x_1 post) :
    Tr Try.prog 54 [.i x_1] [] 0 (fun A H' k => ∃ y, post y ∧ A = (.b y) ∧ H' = [] ∧ k = 0) := by
 refine Tr.intro (n := 6) Try.func54 rfl Try.ntmps54 rfl (fun w0 ok F β hβ => ?_)
 unfold V_slices_isNaN_int at hm
 refine C.seq (U.start ?_)
 refine U.ps 1 T rfl ?_
 refine U.done (C.nx (C.seq (U.start ?_)))
 refine U.ps 4 T rfl ?_
 refine U.done (C.nx (C.ret ?_))
 exact C.fin T (rs' := [.b (x_1 != x_1)]) (H' := []) (nl' := 0) [] rfl rfl (.eq rfl) trivial rfl rfl rfl rfl hβ ⟨(x_1 != x_1), hm, rfl, rfl, rfl⟩
theorem T_slices_BinarySearch_int_int (x_1 : List Int) (target : Int) (post : (Int × Bool) → Prop) (hm : V_slices_BinarySearch_int_int x_1 target post) :
    Tr Try.prog 47 [.sl 1 eI x_1, .i target] [] 0 (fun A H' k => ∃ y, post y ∧ A = (.tup [.i y.1, .b y.2]) ∧ H' = [] ∧ k = 0) := by
 refine Tr.intro (n := 54) Try.func47 rfl Try.ntmps47 rfl (fun w0 ok F β hβ => ?_)
 unfold V_slices_BinarySearch_int_int at hm
 refine C.seq (U.start ?_)
 refine U.ps 2 T rfl ?_
 refine U.done (C.nx (C.seq (U.start ?_)))
 refine U.ps 3 T rfl ?_
 refine U.done (C.nx (C.seq (U.start ?_)))
 refine U.ps 3 T rfl ?_
 refine U.done (C.nx (C.seq ?_))
 refine C.jn (fun (x7 : Int) => [(0, .sl 1 eI x_1), (1, .i target), (6, .i (x_1.length : Int)), (7, .i x7)]) (fun (x7 : Int) => []) 0 hm (fun x7 hm => ?_) (fun J8 hm hJ8 => ?_)
 ·refine C.nx (C.seq ?_)
  refine C.jn (fun (x28 : Bool) => [(4, .i x7), (5, .b x28)]) (fun (x28 : Bool) => []) 0 hm (fun x28 hm => ?_) (fun J29 hm hJ29 => ?_)
  ·refine C.nx (C.ret ?_)
   exact C.fin T (rs' := [.i ((x7, x28).1), .b ((x7, x28).2)]) (H' := []) (nl' := 0) [] rfl rfl (.eq rfl) trivial rfl rfl rfl rfl hβ ⟨(x7, x28), hm, rfl, rfl, rfl⟩
  ·refine U.start ?_
   refine U.ps 5 T rfl ?_
   refine hm.cs (fun hb30 hm => ?_) (fun hb30 hm => ?_)
   ·refine U.pg 2 4 true 35 hb30 T rfl rfl rfl rfl ?_
    obtain ⟨x31, hx31, hm⟩ := hm
    refine U.r (o := _) rfl (.take 4 true 35 _ hb30 rfl rfl rfl) rfl rfl (by exact Rd.ix T rfl rfl rfl rfl rfl rfl hx31) ?_
    refine U.pg 4 4 true 35 hb30 T rfl rfl rfl rfl ?_
    refine hm.cs (fun hb32 hm => ?_) (fun hb32 hm => ?_)
    ·refine U.sks 6 11 false 42 hb32 rfl rfl rfl ?_
     refine U.sku 2 17 true 48 rfl rfl rfl ?_
     refine U.sks 1 11 false 42 hb32 rfl rfl rfl ?_
     refine U.r (o := _) rfl (.take 4 true 35 _ hb30 rfl rfl rfl) rfl rfl (by exact Rd.pk rfl rfl hb32 rfl) ?_
     refine U.r (o := _) rfl (.none rfl) rfl rfl (by exact Rd.pk rfl rfl hb30 rfl) ?_
     refine U.ps 2 T rfl ?_
     refine U.done ?_
     exact St.wk (hJ29 _ hm) (Wk.mk' [] rfl rfl (.eqs rfl) trivial rfl)
    ·refine U.pg 2 11 false 42 hb32 T rfl rfl rfl rfl ?_
     refine U.r (o := _) rfl (.take 11 false 42 _ hb32 rfl rfl rfl) rfl rfl (by exact Rd.ix T rfl rfl rfl rfl rfl rfl hx31) ?_
     refine U.pg 1 11 false 42 hb32 T rfl rfl rfl rfl ?_
     refine U.e (o := _) rfl (.take 11 false 42 _ hb32 rfl rfl rfl) (by exact Eff.c [] (v := true) (T_slices_isNaN_int x31 _ hm) en54 rfl rfl rfl (.eq rfl) trivial rfl rfl rfl rfl rfl rfl (fun _ _ => ⟨(.v _), trivial⟩) (.inr ⟨rfl, rfl⟩) (fun _ => rfl) (fun _ => rfl) rfl) (fun x33' hm => ?_)
     obtain ⟨x33⟩ := x33'
     refine U.pg 1 11 false 42 hb32 T rfl rfl rfl rfl ?_
     refine hm.cs (fun hb34 hm => ?_) (fun hb34 hm => ?_)
     ·refine U.pg 1 17 true 48 hb34 T rfl rfl rfl rfl ?_
      refine U.e (o := _) rfl (.take 17 true 48 _ hb34 rfl rfl rfl) (by exact Eff.c [] (v := true) (T_slices_isNaN_int target _ hm) en54 rfl rfl rfl (.eq rfl) trivial rfl rfl rfl rfl rfl rfl (fun _ _ => ⟨(.v _), trivial⟩) (.inr ⟨rfl, rfl⟩) (fun _ => rfl) (fun _ => rfl) rfl) (fun x35' hm => ?_)
      obtain ⟨x35⟩ := x35'
      refine U.r (o := _) rfl (.take 11 false 42 _ hb32 rfl rfl rfl) rfl rfl (by exact Rd.pk rfl rfl hb34 rfl) ?_
      refine U.r (o := _) rfl (.take 4 true 35 _ hb30 rfl rfl rfl) rfl rfl (by exact Rd.pk' rfl rfl hb32 rfl) ?_
      refine U.r (o := _) rfl (.none rfl) rfl rfl (by exact Rd.pk rfl rfl hb30 rfl) ?_
      refine U.ps 2 T rfl ?_
      refine U.done ?_
      exact St.wk (hJ29 _ hm) (Wk.mk' [] rfl rfl (.eqs rfl) trivial rfl)
     ·refine U.sks 2 17 true 48 hb34 rfl rfl rfl ?_
      refine U.r (o := _) rfl (.take 11 false 42 _ hb32 rfl rfl rfl) rfl rfl (by exact Rd.pk' rfl rfl hb34 rfl) ?_
      refine U.r (o := _) rfl (.take 4 true 35 _ hb30 rfl rfl rfl) rfl rfl (by exact Rd.pk' rfl rfl hb32 rfl) ?_
      refine U.r (o := _) rfl (.none rfl) rfl rfl (by exact Rd.pk rfl rfl hb30 rfl) ?_
      refine U.ps 2 T rfl ?_
      refine U.done ?_
      exact St.wk (hJ29 _ hm) (Wk.mk' [] rfl rfl (.eqs rfl) trivial rfl)
   ·refine U.sks 7 4 true 35 hb30 rfl rfl rfl ?_
    refine U.sku 6 11 false 42 rfl rfl rfl ?_
    refine U.sku 2 17 true 48 rfl rfl rfl ?_
    refine U.sku 1 11 false 42 rfl rfl rfl ?_
    refine U.sks 1 4 true 35 hb30 rfl rfl rfl ?_
    refine U.r (o := _) rfl (.none rfl) rfl rfl (by exact Rd.pk' rfl rfl hb30 rfl) ?_
    refine U.ps 2 T rfl ?_
    refine U.done ?_
    exact St.wk (hJ29 _ hm) (Wk.mk' [] rfl rfl (.eqs rfl) trivial rfl)
 ·refine C.block ?_
  refine St.wk (C.loop (fun (s9 : Int × Int) => [(0, .sl 1 eI x_1), (1, .i target), (6, .i (x_1.length : Int)), (7, .i s9.1), (8, .i s9.2)]) (fun (s9 : Int × Int) => []) hm (fun s9 Y10 hm => ?_)) (Wk.mk' [] rfl rfl (.eqs rfl) trivial rfl)
  refine C.seq (C.seq (U.start ?_))
  refine U.ps 3 T rfl ?_
  refine U.done (C.nx ?_)
  refine C.ite rfl hm (fun hb13 hm => ?_) (fun hb13 hm => ?_)
  ·refine C.skip (C.nx (C.block (C.seq (U.start ?_))))
   refine U.ps 4 T rfl ?_
   refine U.r (o := _) rfl (.none rfl) rfl rfl (by exact Rd.sh rfl rfl rfl rfl (by decide)) ?_
   refine U.ps 2 T rfl ?_
   refine U.done (C.nx (C.seq (U.start ?_)))
   refine U.ps 2 T rfl ?_
   obtain ⟨x19, hx19, hm⟩ := hm
   refine U.r (o := _) rfl (.none rfl) rfl rfl (by exact Rd.ix T rfl rfl rfl rfl rfl rfl hx19) ?_
   refine U.ps 2 T rfl ?_
   refine U.e (o := _) rfl (.none rfl) (by exact Eff.c [] (v := true) (T_cmp_Less_int x19 target _ hm) en53 rfl rfl rfl (.eq rfl) trivial rfl rfl rfl rfl rfl rfl (fun _ _ => ⟨(.v _), trivial⟩) (.inr ⟨rfl, rfl⟩) (fun _ => rfl) (fun _ => rfl) rfl) (fun x20' hm => ?_)
   obtain ⟨x20⟩ := x20'
   refine U.done (C.nx ?_)
   refine C.jn (fun (x21 : Int × Int) => [(0, .sl 1 eI x_1), (1, .i target), (6, .i (x_1.length : Int)), (7, .i x21.1), (8, .i x21.2)]) (fun (x21 : Int × Int) => []) 0 hm (fun x21 hm => ?_) (fun J22 hm hJ22 => ?_)
   ·refine C.bnx (C.nx ?_)
    exact St.wk (C.next hm) (Wk.mk' [] rfl rfl (.eqs rfl) trivial rfl)
   ·refine C.ite rfl hm (fun hb23 hm => ?_) (fun hb23 hm => ?_)
    ·refine U.start ?_
     refine U.ps 3 T rfl ?_
     refine U.done ?_
     exact St.wk (hJ22 _ hm) (Wk.mk' [] rfl rfl (.eqs rfl) trivial rfl)
    ·refine U.start ?_
     refine U.ps 2 T rfl ?_
     refine U.done ?_
     exact St.wk (hJ22 _ hm) (Wk.mk' [] rfl rfl (.eqs rfl) trivial rfl)
  ·refine C.exit (C.ex (C.ex (C.bex ?_)))
   exact St.wk (hJ8 _ hm) (Wk.mk' [] rfl rfl (.eqs rfl) trivial rfl)
theorem T_layout_shifts_1 (a : ApiShift) (b : ApiShift) (post : Int → Prop) (hm : V_layout_shifts_1 a b post) :
    Tr Try.prog 49 [.agg [.i a.From, .i a.To], .agg [.i b.From, .i b.To]] [] 0 (fun A H' k => ∃ y, post y ∧ A = (.i y) ∧ H' = [] ∧ k = 0) := by
 refine Tr.intro (n := 20) Try.func49 rfl Try.ntmps49 rfl (fun w0 ok F β hβ => ?_)
 unfold V_layout_shifts_1 at hm
 refine C.seq (U.start ?_)
 refine U.e1 (o := _) rfl (.none rfl) (by exact Eff1.box rfl rfl rfl rfl rfl) ?_
 refine U.e1 (o := _) rfl (.none rfl) (by exact Eff1.box rfl rfl rfl rfl rfl) ?_
 refine U.ps 1 T rfl ?_
 refine U.done (C.nx (C.seq (C.seq (U.start ?_))))
 refine U.ps 5 T rfl ?_
 refine U.done (C.nx ?_)
 refine C.ite rfl hm (fun hb5 hm => ?_) (fun hb5 hm => ?_)
 ·refine C.seq (U.start ?_)
  refine U.ps 6 T rfl ?_
  refine U.done (C.nx (C.ret (C.rt ?_)))
  exact C.fin T (rs' := [.i (w64 (a.From - b.From))]) (H' := []) (nl' := 0) [] rfl rfl (.eq rfl) trivial rfl rfl rfl rfl hβ ⟨w64 (a.From - b.From), hm, rfl, rfl, rfl⟩
 ·refine C.skip (C.nx (C.seq (U.start ?_)))
  refine U.ps 6 T rfl ?_
  refine U.done (C.nx (C.ret ?_))
  exact C.fin T (rs' := [.i (w64 (a.To - b.To))]) (H' := []) (nl' := 0) [] rfl rfl (.eq rfl) trivial rfl rfl rfl rfl hβ ⟨w64 (a.To - b.To), hm, rfl, rfl, rfl⟩
def slR48 : Go.Shelf.Ren := ⟨fun | 6 => 48 | 14 => 55 | 15 => 56 | 20 => 63 | 21 => 64 | 22 => 65 | 23 => 66 | 24 => 67 | 25 => 68 | 26 => 69 | 27 => 70 | 28 => 71 | 29 => 72 | 46 => 77 | 47 => 78 | 48 => 79 | 49 => 80 | 50 => 81 | 57 => 83 | n => n, fun | 0 => 0 | 3 => 3 | 4 => 4 | 5 => 5 | 9 => 9 | 22 => 35 | 24 => 51 | 25 => 74 | 39 => 77 | 45 => 90 | 46 => 91 | 50 => 70 | 53 => 97 | 55 => 99 | 66 => 101 | 70 => 105 | 76 => 107 | 77 => 108 | n => n, fun n => n⟩
theorem slL48 : SlLaysF0.n6 Try.prog slR48 where
  mixed := by kernel_rfl
  f6 := ⟨Try.f48.name, by decide, Try.func48.trans (congrArg some (by kernel_rfl))⟩
  f14 := ⟨Try.f55.name, by decide, Try.func55.trans (congrArg some (by kernel_rfl))⟩
  f15 := Try.func56.trans (congrArg some (by kernel_rfl))
  f20 := ⟨Try.f63.name, by decide, Try.func63.trans (congrArg some (by kernel_rfl))⟩
  f21 := ⟨Try.f64.name, by decide, Try.func64.trans (congrArg some (by kernel_rfl))⟩
  f22 := ⟨Try.f65.name, by decide, Try.func65.trans (congrArg some (by kernel_rfl))⟩
  f23 := ⟨Try.f66.name, by decide, Try.func66.trans (congrArg some (by kernel_rfl))⟩
  f24 := ⟨Try.f67.name, by decide, Try.func67.trans (congrArg some (by kernel_rfl))⟩
  f25 := ⟨Try.f68.name, by decide, Try.func68.trans (congrArg some (by kernel_rfl))⟩
  f26 := ⟨Try.f69.name, by decide, Try.func69.trans (congrArg some (by kernel_rfl))⟩
  f27 := ⟨Try.f70.name, by decide, Try.func70.trans (congrArg some (by kernel_rfl))⟩
  f28 := Try.func71.trans (congrArg some (by kernel_rfl))
  f29 := Try.func72.trans (congrArg some (by kernel_rfl))
  f46 := ⟨Try.f77.name, by decide, Try.func77.trans (congrArg some (by kernel_rfl))⟩
  f47 := Try.func78.trans (congrArg some (by kernel_rfl))
  f48 := Try.func79.trans (congrArg some (by kernel_rfl))
  f49 := ⟨Try.f80.name, by decide, Try.func80.trans (congrArg some (by kernel_rfl))⟩
  f50 := ⟨Try.f81.name, by decide, Try.func81.trans (congrArg some (by kernel_rfl))⟩
  f57 := ⟨Try.f83.name, by decide, Try.func83.trans (congrArg some (by kernel_rfl))⟩
  t0 := Try.underlying0
  a0 := Try.isAgg0
  z0 := Try.sizeOf0
  v0 := Try.zeroValue0
  t3 := Try.underlying3
  a3 := Try.isAgg3
  z3 := Try.sizeOf3
  v3 := Try.zeroValue3
  t4 := Try.underlying4
  a4 := Try.isAgg4
  z4 := Try.sizeOf4
  v4 := Try.zeroValue4
  t5 := Try.underlying5
  a5 := Try.isAgg5
  z5 := Try.sizeOf5
  v5 := Try.zeroValue5
  t9 := Try.underlying9
  a9 := Try.isAgg9
  z9 := Try.sizeOf9
  v9 := Try.zeroValue9
  t22 := Try.underlying35
  a22 := Try.isAgg35
  z22 := Try.sizeOf35
  v22 := Try.zeroValue35
  t25 := Try.underlying74
  a25 := Try.isAgg74
  z25 := Try.sizeOf74
  v25 := Try.zeroValue74
  t39 := Try.underlying77
  a39 := Try.isAgg77
  z39 := Try.sizeOf77
  v39 := Try.zeroValue77
  t45 := Try.underlying90
  a45 := Try.isAgg90
  z45 := Try.sizeOf90
  v45 := Try.zeroValue90
  t46 := Try.underlying91
  a46 := Try.isAgg91
  z46 := Try.sizeOf91
  v46 := Try.zeroValue91
  t50 := Try.underlying70
  a50 := Try.isAgg70
  z50 := Try.sizeOf70
  v50 := Try.zeroValue70
  t53 := Try.underlying97
  a53 := Try.isAgg97
  z53 := Try.sizeOf97
  v53 := Try.zeroValue97
  t55 := Try.underlying99
  a55 := Try.isAgg99
  z55 := Try.sizeOf99
  v55 := Try.zeroValue99
  t66 := Try.underlying101
  a66 := Try.isAgg101
  z66 := Try.sizeOf101
  v66 := Try.zeroValue101
  t70 := Try.underlying105
  a70 := Try.isAgg105
  z70 := Try.sizeOf105
  v70 := Try.zeroValue105
  t76 := Try.underlying107
  a76 := Try.isAgg107
  z76 := Try.sizeOf107
  v76 := Try.zeroValue107
  t77 := Try.underlying108
  a77 := Try.isAgg108
  z77 := Try.sizeOf108
  v77 := Try.zeroValue108
theorem T_slices_SortFunc_api_Shift_api_Shift__o0_layout_shifts_1 (p0 : List ApiShift) (post : List ApiShift → Prop) (hm : V_slices_SortFunc_api_Shift_api_Shift__o0_layout_shifts_1 p0 post) :
    Tr Try.prog 48 [.o 0, .fn (.func 49) [] []] [(0, .val (.os 2 eApiShift p0))] 1 (fun A H' k => ∃ y, post y ∧ A = (.tup []) ∧ H' = [(0, .val (.os 2 eApiShift y))] ∧ k = 1) := by
 unfold V_slices_SortFunc_api_Shift_api_Shift__o0_layout_shifts_1 at hm
 obtain ⟨p, cf, h0, hO, hp, hcmp, hsz, hpost⟩ := hm
 exact Tr.sortFuncP (k := 2) slL48 Try.isAgg51 Try.sizeOf51 (fun _ => rfl) (fun _ => rfl) en49 h0 hO p0 hp (fun x y hx hy => T_layout_shifts_1 x y _ (hcmp x y hx hy)) hsz hpost
theorem T_slices_Compact_api_Shift_api_Shift__o0 (s_1 : List ApiShift) (post : (List ApiShift) → Prop) (hm : V_slices_Compact_api_Shift_api_Shift__o0 s_1 post) :
    Tr Try.prog 50 [.o 0] [(0, .val (.os 2 eApiShift s_1))] 1 (fun A H' k => ∃ y, post y ∧ A = (.o 1) ∧ H' = [(1, .val (.os 2 eApiShift y))] ∧ k = 2) := by
 refine Tr.intro (n := 61) Try.func50 rfl Try.ntmps50 rfl (fun w0 ok F β hβ => ?_)
 unfold V_slices_Compact_api_Shift_api_Shift__o0 at hm
 refine C.seq (U.start ?_)
 refine U.ps 1 T rfl ?_
 refine U.done (C.nx (C.seq (C.seq (U.start ?_))))
 refine U.ps 3 T rfl ?_
 refine U.done (C.nx ?_)
 refine C.ite rfl hm (fun hb5 hm => ?_) (fun hb5 hm => ?_)
 ·refine C.seq (U.start ?_)
  refine U.ps 2 T rfl ?_
  refine U.done (C.nx (C.ret (C.rt ?_)))
  exact C.fin T (rs' := [.o 1]) (H' := [(1, .val (.os 2 eApiShift s_1))]) (nl' := 2) [some 0, some 0] rfl rfl (.eq rfl) ⟨⟨_, rfl, .val rfl⟩, trivial⟩ rfl rfl rfl rfl hβ ⟨s_1, hm, rfl, rfl, rfl⟩
 ·refine C.skip (C.nx (C.seq (C.seq (U.start ?_))))
  refine U.ps 1 T rfl ?_
  refine U.done (C.nx ?_)
  refine C.jn (fun (x10 : Unit) => [(0, .o 0)]) (fun (x10 : Unit) => [(0, .val (.os 2 eApiShift s_1))]) 1 hm (fun x10 hm => ?_) (fun J11 hm hJ11 => ?_)
  ·refine C.nx (C.seq (U.start ?_))
   refine U.ps 2 T rfl ?_
   refine U.done (C.nx (C.ret ?_))
   exact C.fin T (rs' := [.o 1]) (H' := [(1, .val (.os 2 eApiShift s_1))]) (nl' := 2) [some 0, some 0] rfl rfl (.eq rfl) ⟨⟨_, rfl, .val rfl⟩, trivial⟩ rfl rfl rfl rfl hβ ⟨s_1, hm, rfl, rfl, rfl⟩
  ·refine C.block ?_
   refine St.wk (C.loop (fun (s12 : Int) => [(0, .o 0), (3, .i s12)]) (fun (s12 : Int) => [(0, .val (.os 2 eApiShift s_1))]) hm (fun s12 Y13 hm => ?_)) (Wk.mk' [some 0] rfl rfl (.eqs rfl) ⟨⟨_, rfl, .val rfl⟩, trivial⟩ rfl)
   refine C.seq (C.seq (U.start ?_))
   refine U.ps 4 T rfl ?_
   refine U.done (C.nx ?_)
   refine C.ite rfl hm (fun hb16 hm => ?_) (fun hb16 hm => ?_)
   ·refine C.skip (C.nx (C.seq ?_))
    refine C.jn (fun (x17 : Unit) => [(0, .o 0), (3, .i s12)]) (fun (x17 : Unit) => [(0, .val (.os 2 eApiShift s_1))]) 1 hm (fun x17 hm => ?_) (fun J18 hm hJ18 => ?_)
    ·refine C.nx (U.start ?_)
     refine U.ps 3 T rfl ?_
     refine U.done (C.nx ?_)
     exact St.wk (C.next hm) (Wk.mk' [some 0] rfl rfl (.eqs rfl) ⟨⟨_, rfl, .val rfl⟩, trivial⟩ rfl)
    ·refine C.block (C.seq ?_)
     refine D.beg 9999 [0] [] mix rfl rfl (by kernel_rfl) (by repeat (first | exact NoPanicQ.body | refine NoPanicQ.th ?_ | refine NoPanicQ.blk ?_)) (fun hQ hS ws M' => ?_)
     refine D.ps 2 [(0, []), (1, [])] rfl hQ hS T rfl rfl (by kernel_rfl) ?_
     obtain ⟨x21, hx21, hm⟩ := hm
     refine D.q (o := _) 2 [] hQ hS rfl (.none rfl) rfl rfl (by exact Rd.io T rfl rfl rfl rfl rfl rfl rfl hx21) rfl (by kernel_rfl) ?_
     refine D.q (o := _) 3 [] hQ hS rfl (.none rfl) rfl rfl (by exact Rd.le T rfl rfl rfl (idx_some hx21).2.2 rfl rfl rfl) rfl (by kernel_rfl) ?_
     refine D.ps 3 [(4, []), (5, []), (6, [])] rfl hQ hS T rfl rfl (by kernel_rfl) ?_
     obtain ⟨x22, hx22, hm⟩ := hm
     refine D.q (o := _) 7 [] hQ hS rfl (.none rfl) rfl rfl (by exact Rd.io T rfl rfl rfl rfl rfl rfl rfl hx22) rfl (by kernel_rfl) ?_
     refine D.q (o := _) 8 [] hQ hS rfl (.none rfl) rfl rfl (by exact Rd.le T rfl rfl rfl (idx_some hx22).2.2 rfl rfl rfl) rfl (by kernel_rfl) ?_
     refine D.q (o := _) 9 [] hQ hS rfl (.none rfl) rfl rfl (by exact Rd.eqs T rfl rfl eqt51 rfl rfl rfl) rfl (by kernel_rfl) ?_
     refine D.done (by kernel_rfl) ?_
     refine C.nx ?_
     refine C.ite rfl hm (fun hb23 hm => ?_) (fun hb23 hm => ?_)
     ·refine C.seq (U.start ?_)
      refine U.ps 2 T rfl ?_
      obtain ⟨hx26, hm⟩ := hm
      refine U.r (o := _) rfl (.none rfl) rfl rfl (by exact Rd.vw T rfl rfl rfl rfl rfl rfl (.some _ rfl) (.none _) hx26) ?_
      refine U.ps 1 T rfl ?_
      refine U.done (C.nx (C.seq (C.seq (U.start ?_))))
      refine U.ps 1 T rfl ?_
      refine U.done (C.nx ?_)
      refine C.jn (fun (x29 : List ApiShift × Int) => [(0, .o 0), (3, .i x29.2)]) (fun (x29 : List ApiShift × Int) => [(0, .val (.os 2 eApiShift x29.1))]) 1 hm (fun x29 hm => ?_) (fun J30 hm hJ30 => ?_)
      ·refine C.nx (C.seq (U.start ?_))
       refine U.ps 2 T rfl ?_
       obtain ⟨hx55, hm⟩ := hm
       refine U.r (o := _) rfl (.none rfl) rfl rfl (by exact Rd.vw T rfl rfl rfl rfl rfl rfl (.some _ rfl) (.none _) hx55) ?_
       obtain ⟨hx56, hm⟩ := hm
       refine U.e1 (o := _) rfl (.none rfl) (by exact Eff1.clv T (z0 := ({ From := 0, To := 0 : ApiShift })) rfl rfl rfl rfl rfl rfl rfl (fun _ => rfl) rfl hx56) ?_
       refine U.done (C.nx (C.seq (U.start ?_)))
       refine U.ps 2 T rfl ?_
       obtain ⟨hx59, hm⟩ := hm
       refine U.e1 (o := _) rfl (.none rfl) (by exact Eff1.sw T rfl rfl rfl rfl rfl rfl rfl rfl (.none _) (.some _ rfl) hx59) ?_
       refine U.ps 1 T rfl ?_
       refine U.done (C.nx (C.ret (C.brt (C.rt (C.rt (C.brt (C.rt ?_)))))))
       exact C.fin T (rs' := [.o 1]) (H' := [(1, .val (.os 2 eApiShift (sub (x29.1.take (Int.toNat x29.2) ++ (List.replicate (Int.toNat ((x29.1.length : Int) - x29.2)) ({ From := 0, To := 0 : ApiShift }) ++ x29.1.drop ((Int.toNat x29.2) + (Int.toNat ((x29.1.length : Int) - x29.2))))) 0 x29.2)))]) (nl' := 2) [some 0, some 1] rfl rfl (.eq rfl) ⟨⟨_, rfl, .val rfl⟩, trivial⟩ rfl rfl rfl rfl hβ ⟨(sub (x29.1.take (Int.toNat x29.2) ++ (List.replicate (Int.toNat ((x29.1.length : Int) - x29.2)) ({ From := 0, To := 0 : ApiShift }) ++ x29.1.drop ((Int.toNat x29.2) + (Int.toNat ((x29.1.length : Int) - x29.2))))) 0 x29.2), hm, rfl, rfl, rfl⟩
      ·refine C.block ?_
       refine St.wk (C.loop (fun (s31 : List ApiShift × Int × Int) => [(0, .o 0), (3, .i s31.2.1), (4, .vw 0 2 (Int.toNat s12) (Int.toNat ((s_1.length : Int) - s12))), (5, .i s31.2.2)]) (fun (s31 : List ApiShift × Int × Int) => [(0, .val (.os 2 eApiShift s31.1))]) hm (fun s31 Y32 hm => ?_)) (Wk.mk' [some 0] rfl rfl (.eqs rfl) ⟨⟨_, rfl, .val rfl⟩, trivial⟩ rfl)
       refine C.seq (C.seq (U.start ?_))
       refine U.ps 2 T rfl ?_
       refine U.r (o := _) rfl (.none rfl) rfl rfl (by exact Rd.vl T rfl rfl rfl) ?_
       refine U.ps 1 T rfl ?_
       refine U.done (C.nx ?_)
       refine C.ite rfl hm (fun hb35 hm => ?_) (fun hb35 hm => ?_)
       ·refine C.skip (C.nx (C.seq (C.block (C.seq ?_))))
        refine D.beg 9999 [0] [] mix rfl rfl (by kernel_rfl) (by repeat (first | exact NoPanicQ.body | refine NoPanicQ.th ?_ | refine NoPanicQ.blk ?_)) (fun hQ hS ws M' => ?_)
        refine D.ps 2 [(0, []), (1, [])] rfl hQ hS T rfl rfl (by kernel_rfl) ?_
        obtain ⟨hx38, hm⟩ := hm
        refine D.q (o := _) 2 [] hQ hS rfl (.none rfl) rfl rfl (by exact Rd.vi T rfl rfl rfl rfl rfl rfl hx38) rfl (by kernel_rfl) ?_
        obtain ⟨x39, hx39, hm⟩ := hm
        refine D.q (o := _) 3 [] hQ hS rfl (.none rfl) rfl rfl (by exact Rd.le T rfl rfl rfl hx39 rfl rfl rfl) rfl (by kernel_rfl) ?_
        refine D.ps 3 [(4, []), (5, []), (6, [])] rfl hQ hS T rfl rfl (by kernel_rfl) ?_
        obtain ⟨hx40, hm⟩ := hm
        refine D.q (o := _) 7 [] hQ hS rfl (.none rfl) rfl rfl (by exact Rd.vi T rfl rfl rfl rfl rfl rfl hx40) rfl (by kernel_rfl) ?_
        obtain ⟨x41, hx41, hm⟩ := hm
        refine D.q (o := _) 8 [] hQ hS rfl (.none rfl) rfl rfl (by exact Rd.le T rfl rfl rfl hx41 rfl rfl rfl) rfl (by kernel_rfl) ?_
        refine D.q (o := _) 9 [] hQ hS rfl (.none rfl) rfl rfl (by exact Rd.nes T rfl rfl eqt51 rfl rfl rfl) rfl (by kernel_rfl) ?_
        refine D.done (by kernel_rfl) ?_
        refine C.nx ?_
        refine C.jn (fun (x42 : List ApiShift × Int) => [(0, .o 0), (3, .i x42.2), (4, .vw 0 2 (Int.toNat s12) (Int.toNat ((s_1.length : Int) - s12))), (5, .i s31.2.2)]) (fun (x42 : List ApiShift × Int) => [(0, .val (.os 2 eApiShift x42.1))]) 1 hm (fun x42 hm => ?_) (fun J43 hm hJ43 => ?_)
        ·refine C.bnx (C.nx (U.start ?_))
         refine U.ps 3 T rfl ?_
         refine U.done (C.nx ?_)
         exact St.wk (C.next hm) (Wk.mk' [some 0] rfl rfl (.eqs rfl) ⟨⟨_, rfl, .val rfl⟩, trivial⟩ rfl)
        ·refine C.ite rfl hm (fun hb44 hm => ?_) (fun hb44 hm => ?_)
         ·refine C.seq (U.start ?_)
          refine U.ps 4 T rfl ?_
          obtain ⟨hx47, hm⟩ := hm
          refine U.r (o := _) rfl (.none rfl) rfl rfl (by exact Rd.vi T rfl rfl rfl rfl rfl rfl hx47) ?_
          refine U.r (o := _) rfl (.none rfl) rfl rfl (by exact Rd.le T rfl rfl rfl hx39 rfl rfl rfl) ?_
          obtain ⟨x48, hx48, hm⟩ := hm
          refine U.r (o := _) rfl (.none rfl) rfl rfl (by exact Rd.io T rfl rfl rfl rfl rfl rfl rfl hx48) ?_
          refine U.e1 (o := _) rfl (.none rfl) (by exact Eff1.se T (z' := x39) rfl rfl rfl (idx_some hx48).2.2 rfl rfl rfl rfl rfl rfl rfl rfl (fun _ => rfl) rfl) ?_
          refine U.done (C.nx (U.start ?_))
          refine U.ps 3 T rfl ?_
          refine U.done ?_
          exact St.wk (hJ43 _ hm) (Wk.mk' [some 0] rfl rfl (.eqs rfl) ⟨⟨_, rfl, .val rfl⟩, trivial⟩ rfl)
         ·refine C.skip ?_
          exact St.wk (hJ43 _ hm) (Wk.mk' [some 0] rfl rfl (.eqs rfl) ⟨⟨_, rfl, .val rfl⟩, trivial⟩ rfl)
       ·refine C.exit (C.ex (C.ex (C.bex ?_)))
        exact St.wk (hJ30 _ hm) (Wk.mk' [some 0] rfl rfl (.eqs rfl) ⟨⟨_, rfl, .val rfl⟩, trivial⟩ rfl)
     ·refine C.skip (C.bnx ?_)
      exact St.wk (hJ18 _ hm) (Wk.mk' [some 0] rfl rfl (.eqs rfl) ⟨⟨_, rfl, .val rfl⟩, trivial⟩ rfl)
   ·refine C.exit (C.ex (C.ex (C.bex ?_)))
    exact St.wk (hJ11 _ hm) (Wk.mk' [some 0] rfl rfl (.eqs rfl) ⟨⟨_, rfl, .val rfl⟩, trivial⟩ rfl)
theorem T_layout_shifts (f : ApiFloor) (r : List Int) (l : ApiLayout) (full : Bool) (post : (List ApiShift) → Prop) (hm : V_layout_shifts f r l full post) :
    Tr Try.prog 41 [.agg (eApiFloor f), .sl 1 eI r, .agg [.sl 1 eB l.Full, .i l.Target], .b full] [] 0 (fun A H' k => ∃ y, post y ∧ A = (.o 0) ∧ H' = [(0, .val (.os 2 eApiShift y))] ∧ k = 1) := by
 refine Tr.intro (n := 71) Try.func41 rfl Try.ntmps41 rfl (fun w0 ok F β hβ => ?_)
 unfold V_layout_shifts at hm
 refine C.seq (U.start ?_)
 refine U.e1 (o := _) rfl (.none rfl) (by exact Eff1.box rfl rfl rfl rfl rfl) ?_
 refine U.e1 (o := _) rfl (.none rfl) (by exact Eff1.box rfl rfl rfl rfl rfl) ?_
 refine U.ps 1 T rfl ?_
 refine U.done (C.nx (C.seq (U.start ?_)))
 refine U.ps 1 T rfl ?_
 refine U.done (C.nx (C.seq (C.seq (U.start ?_))))
 refine U.ps 3 T rfl ?_
 refine U.done (C.nx ?_)
 refine C.jn (fun (x7 : List ApiShift) => [(9, .o 0)]) (fun (x7 : List ApiShift) => [(0, .val (.os 2 eApiShift x7))]) 1 hm (fun x7 hm => ?_) (fun J8 hm hJ8 => ?_)
 ·refine C.nx (C.seq (U.start ?_))
  refine U.ps 1 T rfl ?_
  refine U.e (o := _) rfl (.none rfl) (by exact Eff.c [some 0] (v := false) (T_slices_SortFunc_api_Shift_api_Shift__o0_layout_shifts_1 x7 _ hm) en48 rfl rfl rfl (.eq rfl) ⟨⟨_, rfl, .val rfl⟩, trivial⟩ rfl rfl rfl rfl rfl rfl (fun h => by cases h) (.inl rfl) (fun _ => rfl) (fun _ => rfl) rfl) (fun x61' hm => ?_)
  obtain ⟨x61⟩ := x61'
  refine U.done (C.nx (C.seq (U.start ?_)))
  refine U.ps 1 T rfl ?_
  refine U.e (o := _) rfl (.none rfl) (by exact Eff.c [some 0] (v := false) (T_slices_Compact_api_Shift_api_Shift__o0 x61 _ hm) en50 rfl rfl rfl (.eq rfl) ⟨⟨_, rfl, .val rfl⟩, trivial⟩ rfl rfl rfl rfl rfl rfl (fun h => by cases h) (.inl rfl) (fun _ => rfl) (fun _ => rfl) rfl) (fun x64' hm => ?_)
  obtain ⟨x64⟩ := x64'
  refine U.ps 1 T rfl ?_
  refine U.done (C.nx (C.ret ?_))
  exact C.fin T (rs' := [.o 0]) (H' := [(0, .val (.os 2 eApiShift x64))]) (nl' := 1) [some 3] rfl rfl (.eq rfl) ⟨⟨_, rfl, .val rfl⟩, trivial⟩ rfl rfl rfl rfl hβ ⟨x64, hm, rfl, rfl, rfl⟩
 ·refine C.block ?_
  refine St.wk (C.loop (fun (s9 : List ApiShift × Int) => [(1, .sl 1 eI r), (3, .b full), (4, .p 0 0), (6, .p 1 0), (9, .o 2), (17, .sl 1 eI r), (18, .i (r.length : Int)), (19, .i s9.2)]) (fun (s9 : List ApiShift × Int) => [(0, .box (eApiFloor f)), (1, .box [.sl 1 eB l.Full, .i l.Target]), (2, .val (.os 2 eApiShift s9.1))]) hm (fun s9 Y10 hm => ?_)) (Wk.mk' [some 0, some 1, none] rfl rfl ⟨⟨_, rfl, (.eq rfl)⟩, ⟨_, rfl, (.eq rfl)⟩, ⟨_, rfl, (.eq rfl)⟩, ⟨_, rfl, (.eq rfl)⟩, ⟨_, rfl, (.nilO _ _ ⟨rfl, rfl⟩ rfl)⟩, ChkG.eqs rfl⟩ ⟨⟨_, rfl, .box rfl (.eq rfl)⟩, ⟨_, rfl, .box rfl (.eq rfl)⟩, ⟨_, rfl, .nil _ _⟩, trivial⟩ rfl)
  refine C.seq (U.start ?_)
  refine U.ps 1 T rfl ?_
  refine U.done (C.nx (C.seq ?_))
  refine C.ite rfl hm (fun hb13 hm => ?_) (fun hb13 hm => ?_)
  ·refine C.skip (C.nx (C.seq ?_))
   refine C.jn (fun (x14 : List ApiShift) => [(1, .sl 1 eI r), (3, .b full), (4, .p 0 0), (6, .p 1 0), (9, .o 2), (17, .sl 1 eI r), (18, .i (r.length : Int)), (19, .i s9.2)]) (fun (x14 : List ApiShift) => [(0, .box (eApiFloor f)), (1, .box [.sl 1 eB l.Full, .i l.Target]), (2, .val (.os 2 eApiShift x14))]) 3 hm (fun x14 hm => ?_) (fun J15 hm hJ15 => ?_)
   ·refine C.nx (U.start ?_)
    refine U.ps 2 T rfl ?_
    refine U.done (C.nx ?_)
    exact St.wk (C.next hm) (Wk.mk' [some 0, some 1, some 2] rfl rfl (.eqs rfl) ⟨⟨_, rfl, .box rfl (.eq rfl)⟩, ⟨_, rfl, .box rfl (.eq rfl)⟩, ⟨_, rfl, .val rfl⟩, trivial⟩ rfl)
   ·refine C.block (C.seq (U.start ?_))
    refine U.ps 1 T rfl ?_
    obtain ⟨x18, hx18, hm⟩ := hm
    refine U.r (o := _) rfl (.none rfl) rfl rfl (by exact Rd.ix T rfl rfl rfl rfl rfl rfl hx18) ?_
    refine U.ps 3 T rfl ?_
    refine U.done (C.nx (C.seq (C.seq (U.start ?_))))
    refine U.ps 3 T rfl ?_
    obtain ⟨x21, hx21, hm⟩ := hm
    refine U.r (o := _) rfl (.none rfl) rfl rfl (by exact Rd.ix T rfl rfl rfl rfl rfl rfl hx21) ?_
    refine U.ps 3 T rfl ?_
    refine U.done (C.nx ?_)
    refine C.ite rfl hm (fun hb22 hm => ?_) (fun hb22 hm => ?_)
    ·refine C.exit (C.ex (C.bex ?_))
     exact St.wk (hJ15 _ hm) (Wk.mk' [some 0, some 1, some 2] rfl rfl (.eqs rfl) ⟨⟨_, rfl, .box rfl (.eq rfl)⟩, ⟨_, rfl, .box rfl (.eq rfl)⟩, ⟨_, rfl, .val rfl⟩, trivial⟩ rfl)
    ·refine C.skip (C.nx (C.seq (U.start ?_)))
     refine U.ps 1 T rfl ?_
     refine U.done (C.nx ?_)
     refine C.jn (fun (x25 : List ApiShift) => [(1, .sl 1 eI r), (3, .b full), (4, .p 0 0), (6, .p 1 0), (9, .o 2), (17, .sl 1 eI r), (18, .i (r.length : Int)), (19, .i s9.2)]) (fun (x25 : List ApiShift) => [(0, .box (eApiFloor f)), (1, .box [.sl 1 eB l.Full, .i l.Target]), (2, .val (.os 2 eApiShift x25))]) 3 hm (fun x25 hm => ?_) (fun J26 hm hJ26 => ?_)
     ·refine C.bnx ?_
      exact St.wk (hJ15 _ hm) (Wk.mk' [some 0, some 1, some 2] rfl rfl (.eqs rfl) ⟨⟨_, rfl, .box rfl (.eq rfl)⟩, ⟨_, rfl, .box rfl (.eq rfl)⟩, ⟨_, rfl, .val rfl⟩, trivial⟩ rfl)
     ·refine C.block ?_
      refine St.wk (C.loop (fun (s27 : List ApiShift × Int) => [(1, .sl 1 eI r), (3, .b full), (4, .p 0 0), (6, .p 1 0), (9, .o 2), (10, .i s9.2), (11, .i x18), (17, .sl 1 eI r), (18, .i (r.length : Int)), (19, .i s9.2), (31, .i s27.2)]) (fun (s27 : List ApiShift × Int) => [(0, .box (eApiFloor f)), (1, .box [.sl 1 eB l.Full, .i l.Target]), (2, .val (.os 2 eApiShift s27.1))]) hm (fun s27 Y28 hm => ?_)) (Wk.mk' [some 0, some 1, some 2] rfl rfl (.eqs rfl) ⟨⟨_, rfl, .box rfl (.eq rfl)⟩, ⟨_, rfl, .box rfl (.eq rfl)⟩, ⟨_, rfl, .val rfl⟩, trivial⟩ rfl)
      refine C.seq (U.start ?_)
      refine U.ps 1 T rfl ?_
      refine U.done (C.nx (C.seq ?_))
      refine C.ite rfl hm (fun hb31 hm => ?_) (fun hb31 hm => ?_)
      ·refine C.skip (C.nx (C.seq ?_))
       refine C.jn (fun (x32 : List ApiShift) => [(1, .sl 1 eI r), (3, .b full), (4, .p 0 0), (6, .p 1 0), (9, .o 2), (10, .i s9.2), (11, .i x18), (17, .sl 1 eI r), (18, .i (r.length : Int)), (19, .i s9.2), (31, .i s27.2)]) (fun (x32 : List ApiShift) => [(0, .box (eApiFloor f)), (1, .box [.sl 1 eB l.Full, .i l.Target]), (2, .val (.os 2 eApiShift x32))]) 3 hm (fun x32 hm => ?_) (fun J33 hm hJ33 => ?_)
       ·refine C.nx (U.start ?_)
        refine U.ps 2 T rfl ?_
        refine U.done (C.nx ?_)
        exact St.wk (C.next hm) (Wk.mk' [some 0, some 1, some 2] rfl rfl (.eqs rfl) ⟨⟨_, rfl, .box rfl (.eq rfl)⟩, ⟨_, rfl, .box rfl (.eq rfl)⟩, ⟨_, rfl, .val rfl⟩, trivial⟩ rfl)
       ·refine C.block (C.seq (U.start ?_))
        refine U.ps 2 T rfl ?_
        refine U.done (C.nx (C.seq (U.start ?_)))
        refine U.ps 3 T rfl ?_
        refine U.e (o := _) rfl (.none rfl) (by exact Eff.c [] (v := true) (T_floor_Next f x18 s27.2 _ hm) en46 rfl rfl rfl (.eq rfl) trivial rfl rfl rfl rfl rfl rfl (fun _ _ => ⟨(.tup (.cons (.v _) (.cons (.v _) .nil))), trivial⟩) (.inr ⟨rfl, rfl⟩) (fun _ => rfl) (fun _ => rfl) rfl) (fun x38' hm => ?_)
        obtain ⟨x38⟩ := x38'
        refine U.ps 5 T rfl ?_
        refine U.done (C.nx (C.seq (C.seq (U.start ?_))))
        refine U.ps 2 T rfl ?_
        refine U.done (C.nx ?_)
        refine C.ite rfl hm (fun hb41 hm => ?_) (fun hb41 hm => ?_)
        ·refine C.exit (C.ex (C.bex ?_))
         exact St.wk (hJ33 _ hm) (Wk.mk' [some 0, some 1, some 2] rfl rfl (.eqs rfl) ⟨⟨_, rfl, .box rfl (.eq rfl)⟩, ⟨_, rfl, .box rfl (.eq rfl)⟩, ⟨_, rfl, .val rfl⟩, trivial⟩ rfl)
        ·refine C.skip (C.nx (C.seq (U.start ?_)))
         refine U.ps 2 T rfl ?_
         refine U.e (o := _) rfl (.none rfl) (by exact Eff.c [] (v := true) (T_slices_BinarySearch_int_int r x38.1 _ hm) en47 rfl rfl rfl (.eq rfl) trivial rfl rfl rfl rfl rfl rfl (fun _ _ => ⟨(.tup (.cons (.v _) (.cons (.v _) .nil))), trivial⟩) (.inr ⟨rfl, rfl⟩) (fun _ => rfl) (fun _ => rfl) rfl) (fun x44' hm => ?_)
         obtain ⟨x44⟩ := x44'
         refine U.ps 5 T rfl ?_
         refine U.done (C.nx (C.seq ?_))
         refine C.jn (fun (x45 : Bool) => [(1, .sl 1 eI r), (3, .b full), (4, .p 0 0), (6, .p 1 0), (9, .o 2), (10, .i s9.2), (11, .i x18), (15, .i x44.1), (17, .sl 1 eI r), (18, .i (r.length : Int)), (19, .i s9.2), (31, .i s27.2), (58, .b x45)]) (fun (x45 : Bool) => [(0, .box (eApiFloor f)), (1, .box [.sl 1 eB l.Full, .i l.Target]), (2, .val (.os 2 eApiShift s27.1))]) 3 hm (fun x45 hm => ?_) (fun J46 hm hJ46 => ?_)
         ·refine C.nx ?_
          refine C.jn (fun (x49 : List ApiShift) => [(1, .sl 1 eI r), (3, .b full), (4, .p 0 0), (6, .p 1 0), (9, .o 2), (10, .i s9.2), (11, .i x18), (17, .sl 1 eI r), (18, .i (r.length : Int)), (19, .i s9.2), (31, .i s27.2)]) (fun (x49 : List ApiShift) => [(0, .box (eApiFloor f)), (1, .box [.sl 1 eB l.Full, .i l.Target]), (2, .val (.os 2 eApiShift x49))]) 3 hm (fun x49 hm => ?_) (fun J50 hm hJ50 => ?_)
          ·refine C.bnx ?_
           exact St.wk (hJ33 _ hm) (Wk.mk' [some 0, some 1, some 2] rfl rfl (.eqs rfl) ⟨⟨_, rfl, .box rfl (.eq rfl)⟩, ⟨_, rfl, .box rfl (.eq rfl)⟩, ⟨_, rfl, .val rfl⟩, trivial⟩ rfl)
          ·refine C.ite rfl hm (fun hb51 hm => ?_) (fun hb51 hm => ?_)
           ·refine U.start ?_
            refine U.ps 4 T rfl ?_
            refine U.e1 (o := _) rfl (.none rfl) (by exact Eff1.bs T (enc := eApiShift) (xs := ([({ From := s9.2, To := x44.1 : ApiShift })] : List ApiShift)) rfl rfl rfl rfl rfl rfl rfl rfl rfl rfl (fun _ _ => rfl) rfl rfl) ?_
            obtain ⟨hx54, hm⟩ := hm
            refine U.e1 (o := _) rfl (.none rfl) (by exact Eff1.ap T rfl rfl rfl rfl rfl rfl (.inr ⟨_, rfl, rfl⟩) rfl rfl rfl (fun _ => rfl) rfl hx54) ?_
            refine U.ps 1 T rfl ?_
            refine U.done ?_
            exact St.wk (hJ50 _ hm) (Wk.mk' [some 0, some 1, some 4] rfl rfl (.eqs rfl) ⟨⟨_, rfl, .box rfl (.eq rfl)⟩, ⟨_, rfl, .box rfl (.eq rfl)⟩, ⟨_, rfl, .val rfl⟩, trivial⟩ rfl)
           ·refine C.skip ?_
            exact St.wk (hJ50 _ hm) (Wk.mk' [some 0, some 1, some 2] rfl rfl (.eqs rfl) ⟨⟨_, rfl, .box rfl (.eq rfl)⟩, ⟨_, rfl, .box rfl (.eq rfl)⟩, ⟨_, rfl, .val rfl⟩, trivial⟩ rfl)
         ·refine U.start ?_
          refine U.ps 2 T rfl ?_
          refine hm.cs (fun hb47 hm => ?_) (fun hb47 hm => ?_)
          ·refine U.pg 3 1 true 50 hb47 T rfl rfl rfl rfl ?_
           obtain ⟨x48, hx48, hm⟩ := hm
           refine U.r (o := _) rfl (.take 1 true 50 _ hb47 rfl rfl rfl) rfl rfl (by exact Rd.ix T rfl rfl rfl rfl rfl rfl hx48) ?_
           refine U.pg 3 1 true 50 hb47 T rfl rfl rfl rfl ?_
           refine U.r (o := _) rfl (.none rfl) rfl rfl (by exact Rd.pk rfl rfl hb47 rfl) ?_
           refine U.done ?_
           exact St.wk (hJ46 _ hm) (Wk.mk' [some 0, some 1, some 2] rfl rfl (.eqs rfl) ⟨⟨_, rfl, .box rfl (.eq rfl)⟩, ⟨_, rfl, .box rfl (.eq rfl)⟩, ⟨_, rfl, .val rfl⟩, trivial⟩ rfl)
          ·refine U.sks 7 1 true 50 hb47 rfl rfl rfl ?_
           refine U.r (o := _) rfl (.none rfl) rfl rfl (by exact Rd.pk' rfl rfl hb47 rfl) ?_
           refine U.done ?_
           exact St.wk (hJ46 _ hm) (Wk.mk' [some 0, some 1, some 2] rfl rfl (.eqs rfl) ⟨⟨_, rfl, .box rfl (.eq rfl)⟩, ⟨_, rfl, .box rfl (.eq rfl)⟩, ⟨_, rfl, .val rfl⟩, trivial⟩ rfl)
      ·refine C.exit (C.ex (C.ex (C.bex ?_)))
       exact St.wk (hJ26 _ hm) (Wk.mk' [some 0, some 1, some 2] rfl rfl (.eqs rfl) ⟨⟨_, rfl, .box rfl (.eq rfl)⟩, ⟨_, rfl, .box rfl (.eq rfl)⟩, ⟨_, rfl, .val rfl⟩, trivial⟩ rfl)
  ·refine C.exit (C.ex (C.ex (C.bex ?_)))
   exact St.wk (hJ8 _ hm) (Wk.mk' [some 2] rfl rfl (.eqs rfl) ⟨⟨_, rfl, .val rfl⟩, trivial⟩ rfl)
theorem T_layout_Backs (f : ApiFloor) (r : List Int) (l : ApiLayout) (post : (List ApiShift) → Prop) (hm : V_layout_Backs f r l post) :
    Tr Try.prog 31 [.agg (eApiFloor f), .sl 1 eI r, .agg [.sl 1 eB l.Full, .i l.Target]] [] 0 (fun A H' k => ∃ y, post y ∧ A = (.o 0) ∧ H' = [(0, .val (.os 2 eApiShift y))] ∧ k = 1) := by
 refine Tr.intro (n := 11) Try.func31 rfl Try.ntmps31 rfl (fun w0 ok F β hβ => ?_)
 unfold V_layout_Backs at hm
 refine C.seq (U.start ?_)
 refine U.e1 (o := _) rfl (.none rfl) (by exact Eff1.box rfl rfl rfl rfl rfl) ?_
 refine U.e1 (o := _) rfl (.none rfl) (by exact Eff1.box rfl rfl rfl rfl rfl) ?_
 refine U.ps 1 T rfl ?_
 refine U.done (C.nx (C.seq (U.start ?_)))
 refine U.ps 3 T rfl ?_
 refine U.e (o := _) rfl (.none rfl) (by exact Eff.c [] (v := true) (T_layout_shifts f r l false _ hm) en41 rfl rfl rfl (.eq rfl) trivial rfl rfl rfl rfl rfl rfl (fun _ _ => ⟨(.o _), ⟨.val (.os _ _ _ fun _ => (.cons (.v _) (.cons (.v _) .nil))), trivial⟩⟩) (.inr ⟨rfl, rfl⟩) (fun _ => rfl) (fun _ => rfl) rfl) (fun x5' hm => ?_)
 obtain ⟨x5⟩ := x5'
 refine U.ps 1 T rfl ?_
 refine U.done (C.nx (C.ret ?_))
 exact C.fin T (rs' := [.o 0]) (H' := [(0, .val (.os 2 eApiShift x5))]) (nl' := 1) [some 2] rfl rfl (.eq rfl) ⟨⟨_, rfl, .val rfl⟩, trivial⟩ rfl rfl rfl rfl hβ ⟨x5, hm, rfl, rfl, rfl⟩
theorem T_slices_Clone_bool_bool (s_1 : List Bool) (post : (List Bool) → Prop) (hm : V_slices_Clone_bool_bool s_1 post) :
    Tr Try.prog 42 [.sl 1 eB s_1] [] 0 (fun A H' k => ∃ y, post y ∧ A = (.o 0) ∧ H' = [(0, .val (.os 1 eB y))] ∧ k = 1) := by
 refine Tr.intro (n := 8) Try.func42 rfl Try.ntmps42 rfl (fun w0 ok F β hβ => ?_)
 unfold V_slices_Clone_bool_bool at hm
 refine C.seq (U.start ?_)
 refine U.ps 1 T rfl ?_
 refine U.done (C.nx (C.seq (C.seq (U.start ?_))))
 refine U.ps 1 T rfl ?_
 refine U.e (o := _) rfl (.none rfl) (by exact Eff.isnil T true rfl rfl rfl rfl rfl rfl (.inl ⟨.sl, rfl⟩) rfl) (fun hb5' hhb5 => ?_)
 obtain ⟨hb5⟩ := hb5'
 replace hm := hm hb5 hhb5
 refine U.done (C.nx ?_)
 refine C.ite rfl hm (fun hb6 hm => ?_) (fun hb6 hm => ?_)
 ·refine C.seq (U.start ?_)
  refine U.ps 1 T rfl ?_
  refine U.done (C.nx (C.ret (C.rt ?_)))
  exact C.fin T (rs' := [.o 0]) (H' := [(0, .val (.os 1 eB []))]) (nl' := 1) [none] rfl rfl (.cons (.nilO _ _ ⟨rfl, rfl⟩ rfl) .nil) ⟨⟨_, rfl, .nil _ _⟩, trivial⟩ rfl rfl rfl rfl hβ ⟨[], hm, rfl, rfl, rfl⟩
 ·refine C.skip (C.nx (C.seq (U.start ?_)))
  refine U.e1 (o := _) rfl (.none rfl) (by exact Eff1.bs T (enc := eB) (xs := ([] : List Bool)) rfl rfl rfl rfl rfl rfl rfl rfl rfl rfl (fun _ _ => rfl) rfl rfl) ?_
  refine U.ps 1 T rfl ?_
  obtain ⟨hx11, hm⟩ := hm
  refine U.e1 (o := _) rfl (.none rfl) (by exact Eff1.ap T rfl rfl rfl rfl rfl rfl (.inl rfl) rfl rfl rfl (fun _ => rfl) rfl hx11) ?_
  refine U.ps 1 T rfl ?_
  refine U.done (C.nx (C.ret ?_))
  exact C.fin T (rs' := [.o 0]) (H' := [(0, .val (.os 1 eB (([] : List Bool) ++ s_1)))]) (nl' := 1) [some 1] rfl rfl (.eq rfl) ⟨⟨_, rfl, .val rfl⟩, trivial⟩ rfl rfl rfl rfl hβ ⟨(([] : List Bool) ++ s_1), hm, rfl, rfl, rfl⟩
theorem T_layout_Do (l : ApiLayout) (s_1 : ApiShift) (post : (ApiLayout × Int) → Prop) (hm : V_layout_Do l s_1 post) :
    Tr Try.prog 24 [.agg [.sl 1 eB l.Full, .i l.Target], .agg [.i s_1.From, .i s_1.To]] [] 0 (fun A H' k => ∃ y, post y ∧ A = (.tup [.agg [.o 0, .i y.1.Target], .i y.2]) ∧ H' = [(0, .val (.os 1 eB y.1.Full))] ∧ k = 1) := by
 refine Tr.intro (n := 72) Try.func24 rfl Try.ntmps24 rfl (fun w0 ok F β hβ => ?_)
 unfold V_layout_Do at hm
 refine C.seq (U.start ?_)
 refine U.e1 (o := _) rfl (.none rfl) (by exact Eff1.box rfl rfl rfl rfl rfl) ?_
 refine U.e1 (o := _) rfl (.none rfl) (by exact Eff1.box rfl rfl rfl rfl rfl) ?_
 refine U.e1 (o := _) rfl (.none rfl) (by exact Eff1.al T rfl rfl rfl rfl) ?_
 refine U.ps 1 T rfl ?_
 refine U.done (C.nx (C.seq (U.start ?_)))
 refine U.ps 4 T rfl ?_
 refine U.done (C.nx (C.seq (C.block (C.seq ?_))))
 refine C.jn (fun (x5 : Bool) => [(2, .p 0 0), (3, .p 1 0), (4, .p 2 0), (10, .b x5)]) (fun (x5 : Bool) => [(0, .box [.sl 1 eB l.Full, .i l.Target]), (1, .box [.i s_1.From, .i s_1.To]), (2, .box [.v (.slice none 0 0), .i 0])]) 3 hm (fun x5 hm => ?_) (fun J6 hm hJ6 => ?_)
 ·refine C.nx ?_
  refine C.ite rfl hm (fun hb10 hm => ?_) (fun hb10 hm => ?_)
  ·refine C.seq (U.start ?_)
   refine U.ps 1 T rfl ?_
   refine U.e1 (o := _) rfl (.none rfl) (by exact Eff1.st T rfl rfl rfl rfl rfl rfl rfl rfl rfl rfl) ?_
   refine U.ps 1 T rfl ?_
   refine U.done (C.nx (C.ret (C.brt (C.rt ?_))))
   exact C.fin T (rs' := [.agg [.o 0, .i (((({ Full := [], Target := 0 : ApiLayout }), 3).1).Target)], .i ((({ Full := [], Target := 0 : ApiLayout }), 3).2)]) (H' := [(0, .val (.os 1 eB (((({ Full := [], Target := 0 : ApiLayout }), 3).1).Full)))]) (nl' := 1) [none] rfl rfl (.cons (.agg (.cons (.nilO _ _ ⟨rfl, rfl⟩ rfl) (.eq rfl))) (.eq rfl)) ⟨⟨_, rfl, .nil _ _⟩, trivial⟩ rfl rfl rfl rfl hβ ⟨(({ Full := [], Target := 0 : ApiLayout }), 3), hm, rfl, rfl, rfl⟩
  ·refine C.seq ?_
   refine C.jn (fun (x13 : Bool) => [(2, .p 0 0), (3, .p 1 0), (4, .p 2 0), (32, .b x13)]) (fun (x13 : Bool) => [(0, .box [.sl 1 eB l.Full, .i l.Target]), (1, .box [.i s_1.From, .i s_1.To]), (2, .box [.v (.slice none 0 0), .i 0])]) 3 hm (fun x13 hm => ?_) (fun J14 hm hJ14 => ?_)
   ·refine C.nx ?_
    refine C.ite rfl hm (fun hb18 hm => ?_) (fun hb18 hm => ?_)
    ·refine C.seq (U.start ?_)
     refine U.ps 1 T rfl ?_
     refine U.e1 (o := _) rfl (.none rfl) (by exact Eff1.st T rfl rfl rfl rfl rfl rfl rfl rfl rfl rfl) ?_
     refine U.ps 1 T rfl ?_
     refine U.done (C.nx (C.ret (C.brt (C.rt ?_))))
     exact C.fin T (rs' := [.agg [.o 0, .i (((({ Full := [], Target := 0 : ApiLayout }), 13).1).Target)], .i ((({ Full := [], Target := 0 : ApiLayout }), 13).2)]) (H' := [(0, .val (.os 1 eB (((({ Full := [], Target := 0 : ApiLayout }), 13).1).Full)))]) (nl' := 1) [none] rfl rfl (.cons (.agg (.cons (.nilO _ _ ⟨rfl, rfl⟩ rfl) (.eq rfl))) (.eq rfl)) ⟨⟨_, rfl, .nil _ _⟩, trivial⟩ rfl rfl rfl rfl hβ ⟨(({ Full := [], Target := 0 : ApiLayout }), 13), hm, rfl, rfl, rfl⟩
    ·refine C.skip (C.bnx (C.nx (C.seq (U.start ?_))))
     refine U.ps 2 T rfl ?_
     refine U.e (o := _) rfl (.none rfl) (by exact Eff.c [] (v := true) (T_slices_Clone_bool_bool l.Full _ hm) en42 rfl rfl rfl (.eq rfl) trivial rfl rfl rfl rfl rfl rfl (fun _ _ => ⟨(.o _), ⟨.val (.os _ _ _ fun _ => (.cons (.v _) .nil)), trivial⟩⟩) (.inr ⟨rfl, rfl⟩) (fun _ => rfl) (fun _ => rfl) rfl) (fun x23' hm => ?_)
     obtain ⟨x23⟩ := x23'
     refine U.ps 1 T rfl ?_
     refine U.e1 (o := _) rfl (.none rfl) (by exact Eff1.st T rfl rfl rfl rfl rfl rfl rfl rfl rfl rfl) ?_
     refine U.done (C.nx (C.seq ?_))
     refine D.beg 11 [0, 1] [3] mix rfl rfl (by kernel_rfl) (by repeat (first | exact NoPanicQ.body | refine NoPanicQ.th ?_ | refine NoPanicQ.blk ?_)) (fun hQ hS ws M' => ?_)
     refine D.ps 8 [(0, []), (1, []), (2, []), (3, []), (4, []), (5, []), (6, []), (7, [])] rfl hQ hS T rfl rfl (by kernel_rfl) ?_
     obtain ⟨x26, hx26, hm⟩ := hm
     refine D.q (o := _) 8 [] hQ hS rfl (.none rfl) rfl rfl (by exact Rd.io T rfl rfl rfl rfl rfl rfl rfl hx26) rfl (by kernel_rfl) ?_
     refine D.e1 (o := _) 9 rfl (.none rfl) (by exact Eff1.se T (z' := false) rfl rfl rfl (idx_some hx26).2.2 rfl rfl rfl rfl rfl rfl rfl rfl (fun _ => rfl) rfl) (by kernel_rfl) rfl rfl ?_
     obtain ⟨x27, hx27, hm⟩ := hm
     refine D.q (o := _) 10 [] hQ hS rfl (.none rfl) rfl rfl (by exact Rd.io T rfl rfl rfl rfl rfl rfl rfl hx27) rfl (by kernel_rfl) ?_
     refine D.ze1 (o := _) rfl (.none rfl) (by exact Eff1.se T (z' := true) rfl rfl rfl (idx_some hx27).2.2 rfl rfl rfl rfl rfl rfl rfl rfl (fun _ => rfl) rfl) (by kernel_rfl) (by kernel_rfl) ?_
     refine C.nx (C.seq (C.seq (U.start ?_)))
     refine U.ps 5 T rfl ?_
     refine U.done (C.nx ?_)
     refine C.jn (fun (x30 : Int) => [(2, .p 0 0), (4, .p 2 0)]) (fun (x30 : Int) => [(0, .box [.o 1, .i x30]), (1, .val (.os 1 eB ((x23.set (Int.toNat s_1.From) false).set (Int.toNat s_1.To) true))), (2, .box [.v (.slice none 0 0), .i 0])]) 3 hm (fun x30 hm => ?_) (fun J31 hm hJ31 => ?_)
     ·refine C.nx (C.seq (U.start ?_))
      refine U.ps 1 T rfl ?_
      refine U.e1 (o := _) rfl (.none rfl) (by exact Eff1.st T rfl rfl rfl rfl rfl rfl rfl rfl rfl rfl) ?_
      refine U.ps 1 T rfl ?_
      refine U.done (C.nx (C.ret ?_))
      exact C.fin T (rs' := [.agg [.o 0, .i (((({ Full := ((x23.set (Int.toNat s_1.From) false).set (Int.toNat s_1.To) true), Target := x30 : ApiLayout }), 0).1).Target)], .i ((({ Full := ((x23.set (Int.toNat s_1.From) false).set (Int.toNat s_1.To) true), Target := x30 : ApiLayout }), 0).2)]) (H' := [(0, .val (.os 1 eB (((({ Full := ((x23.set (Int.toNat s_1.From) false).set (Int.toNat s_1.To) true), Target := x30 : ApiLayout }), 0).1).Full)))]) (nl' := 1) [some 1] rfl rfl (.eq rfl) ⟨⟨_, rfl, .val rfl⟩, trivial⟩ rfl rfl rfl rfl hβ ⟨(({ Full := ((x23.set (Int.toNat s_1.From) false).set (Int.toNat s_1.To) true), Target := x30 : ApiLayout }), 0), hm, rfl, rfl, rfl⟩
     ·refine C.ite rfl hm (fun hb32 hm => ?_) (fun hb32 hm => ?_)
      ·refine U.start ?_
       refine U.ps 3 T rfl ?_
       refine U.e1 (o := _) rfl (.none rfl) (by exact Eff1.st T rfl rfl rfl rfl rfl rfl rfl rfl rfl rfl) ?_
       refine U.done ?_
       exact St.wk (hJ31 _ hm) (Wk.mk' [some 0, some 3, some 2] rfl rfl (.eqs rfl) ⟨⟨_, rfl, .box rfl (.eq rfl)⟩, ⟨_, rfl, .val rfl⟩, ⟨_, rfl, .box rfl (.eq rfl)⟩, trivial⟩ rfl)
      ·refine C.skip ?_
       exact St.wk (hJ31 _ hm) (Wk.mk' [some 0, some 3, some 2] rfl rfl (.eqs rfl) ⟨⟨_, rfl, .box rfl (.eq rfl)⟩, ⟨_, rfl, .val rfl⟩, ⟨_, rfl, .box rfl (.eq rfl)⟩, trivial⟩ rfl)
   ·refine U.start ?_
    refine U.ps 4 T rfl ?_
    obtain ⟨x15, hx15, hm⟩ := hm
    refine U.r (o := _) rfl (.none rfl) rfl rfl (by exact Rd.ix T rfl rfl rfl rfl rfl rfl hx15) ?_
    refine U.ps 3 T rfl ?_
    refine hm.cs (fun hb16 hm => ?_) (fun hb16 hm => ?_)
    ·refine U.pg 4 7 false 40 (ntF hb16) T rfl rfl rfl rfl ?_
     obtain ⟨x17, hx17, hm⟩ := hm
     refine U.r (o := _) rfl (.take 7 false 40 _ (ntF hb16) rfl rfl rfl) rfl rfl (by exact Rd.ix T rfl rfl rfl rfl rfl rfl hx17) ?_
     refine U.pg 1 7 false 40 (ntF hb16) T rfl rfl rfl rfl ?_
     refine U.r (o := _) rfl (.none rfl) rfl rfl (by exact Rd.pk' rfl rfl (ntF hb16) rfl) ?_
     refine U.ps 1 T rfl ?_
     refine U.done ?_
     exact St.wk (hJ14 _ hm) (Wk.mk' [some 0, some 1, some 2] rfl rfl (.eqs rfl) ⟨⟨_, rfl, .box rfl (.eq rfl)⟩, ⟨_, rfl, .box rfl (.eq rfl)⟩, ⟨_, rfl, .box rfl (.eq rfl)⟩, trivial⟩ rfl)
    ·refine U.sks 6 7 false 40 (ntT hb16) rfl rfl rfl ?_
     refine U.r (o := _) rfl (.none rfl) rfl rfl (by exact Rd.pk rfl rfl (ntT hb16) rfl) ?_
     refine U.ps 1 T rfl ?_
     refine U.done ?_
     exact St.wk (hJ14 _ hm) (Wk.mk' [some 0, some 1, some 2] rfl rfl (.eqs rfl) ⟨⟨_, rfl, .box rfl (.eq rfl)⟩, ⟨_, rfl, .box rfl (.eq rfl)⟩, ⟨_, rfl, .box rfl (.eq rfl)⟩, trivial⟩ rfl)
 ·refine U.start ?_
  refine U.ps 4 T rfl ?_
  refine hm.cs (fun hb7 hm => ?_) (fun hb7 hm => ?_)
  ·refine U.sks 4 3 false 14 hb7 rfl rfl rfl ?_
   refine U.r (o := _) rfl (.none rfl) rfl rfl (by exact Rd.pk rfl rfl hb7 rfl) ?_
   refine U.ps 1 T rfl ?_
   refine U.sks 3 9 false 20 rfl rfl rfl rfl ?_
   refine U.r (o := _) rfl (.none rfl) rfl rfl (by exact Rd.pk rfl rfl rfl rfl) ?_
   refine U.ps 1 T rfl ?_
   refine U.sks 4 14 false 25 rfl rfl rfl rfl ?_
   refine U.r (o := _) rfl (.none rfl) rfl rfl (by exact Rd.pk rfl rfl rfl rfl) ?_
   refine U.ps 1 T rfl ?_
   refine U.done ?_
   exact St.wk (hJ6 _ hm) (Wk.mk' [some 0, some 1, some 2] rfl rfl (.eqs rfl) ⟨⟨_, rfl, .box rfl (.eq rfl)⟩, ⟨_, rfl, .box rfl (.eq rfl)⟩, ⟨_, rfl, .box rfl (.eq rfl)⟩, trivial⟩ rfl)
  ·refine U.pg 4 3 false 14 hb7 T rfl rfl rfl rfl ?_
   refine U.r (o := _) rfl (.none rfl) rfl rfl (by exact Rd.pk' rfl rfl hb7 rfl) ?_
   refine U.ps 1 T rfl ?_
   refine hm.cs (fun hb8 hm => ?_) (fun hb8 hm => ?_)
   ·refine U.sks 3 9 false 20 hb8 rfl rfl rfl ?_
    refine U.r (o := _) rfl (.none rfl) rfl rfl (by exact Rd.pk rfl rfl hb8 rfl) ?_
    refine U.ps 1 T rfl ?_
    refine U.sks 4 14 false 25 rfl rfl rfl rfl ?_
    refine U.r (o := _) rfl (.none rfl) rfl rfl (by exact Rd.pk rfl rfl rfl rfl) ?_
    refine U.ps 1 T rfl ?_
    refine U.done ?_
    exact St.wk (hJ6 _ hm) (Wk.mk' [some 0, some 1, some 2] rfl rfl (.eqs rfl) ⟨⟨_, rfl, .box rfl (.eq rfl)⟩, ⟨_, rfl, .box rfl (.eq rfl)⟩, ⟨_, rfl, .box rfl (.eq rfl)⟩, trivial⟩ rfl)
   ·refine U.pg 3 9 false 20 hb8 T rfl rfl rfl rfl ?_
    refine U.r (o := _) rfl (.none rfl) rfl rfl (by exact Rd.pk' rfl rfl hb8 rfl) ?_
    refine U.ps 1 T rfl ?_
    refine hm.cs (fun hb9 hm => ?_) (fun hb9 hm => ?_)
    ·refine U.sks 4 14 false 25 hb9 rfl rfl rfl ?_
     refine U.r (o := _) rfl (.none rfl) rfl rfl (by exact Rd.pk rfl rfl hb9 rfl) ?_
     refine U.ps 1 T rfl ?_
     refine U.done ?_
     exact St.wk (hJ6 _ hm) (Wk.mk' [some 0, some 1, some 2] rfl rfl (.eqs rfl) ⟨⟨_, rfl, .box rfl (.eq rfl)⟩, ⟨_, rfl, .box rfl (.eq rfl)⟩, ⟨_, rfl, .box rfl (.eq rfl)⟩, trivial⟩ rfl)
    ·refine U.pg 4 14 false 25 hb9 T rfl rfl rfl rfl ?_
     refine U.r (o := _) rfl (.none rfl) rfl rfl (by exact Rd.pk' rfl rfl hb9 rfl) ?_
     refine U.ps 1 T rfl ?_
     refine U.done ?_
     exact St.wk (hJ6 _ hm) (Wk.mk' [some 0, some 1, some 2] rfl rfl (.eqs rfl) ⟨⟨_, rfl, .box rfl (.eq rfl)⟩, ⟨_, rfl, .box rfl (.eq rfl)⟩, ⟨_, rfl, .box rfl (.eq rfl)⟩, trivial⟩ rfl)
theorem T_layout_Rank (l : ApiLayout) (post : Int → Prop) (hm : V_layout_Rank l post) :
    Tr Try.prog 25 [.agg [.sl 1 eB l.Full, .i l.Target]] [] 0 (fun A H' k => ∃ y, post y ∧ A = (.i y) ∧ H' = [] ∧ k = 0) := by
 refine Tr.intro (n := 66) Try.func25 rfl Try.ntmps25 rfl (fun w0 ok F β hβ => ?_)
 unfold V_layout_Rank at hm
 refine C.seq (U.start ?_)
 refine U.e1 (o := _) rfl (.none rfl) (by exact Eff1.box rfl rfl rfl rfl rfl) ?_
 refine U.ps 1 T rfl ?_
 refine U.done (C.nx (C.seq (U.start ?_)))
 refine U.e (o := _) rfl (.none rfl) (by exact Eff.c [] (v := true) (T_layout_choose _ hm) en40 rfl rfl rfl (.eq rfl) trivial rfl rfl rfl rfl rfl rfl (fun _ _ => ⟨(.p _ _), ⟨.val (.arr _ _ _ fun _ => (.cons (.v _) .nil)), trivial⟩⟩) (.inr ⟨rfl, rfl⟩) (fun _ => rfl) (fun _ => rfl) rfl) (fun x5' hm => ?_)
 obtain ⟨x5⟩ := x5'
 refine U.ps 1 T rfl ?_
 refine U.done (C.nx (C.seq ?_))
 refine D.beg 9999 [0] [] mix rfl rfl (by kernel_rfl) (by repeat (first | exact NoPanicQ.body | refine NoPanicQ.th ?_ | refine NoPanicQ.blk ?_)) (fun hQ hS ws M' => ?_)
 refine D.ps 4 [(0, []), (1, []), (2, []), (3, [])] rfl hQ hS T rfl rfl (by kernel_rfl) ?_
 refine D.e (o := _) 4 rfl (.none rfl) (by exact Eff.c [] (v := true) (T_layout_Shelves l _ hm) en26 rfl rfl rfl (.eq rfl) trivial rfl rfl rfl rfl rfl rfl (fun _ _ => ⟨(.v _), trivial⟩) (.inr ⟨rfl, rfl⟩) (fun _ => rfl) (fun _ => rfl) rfl) (by kernel_rfl) rfl rfl (fun x8' hm => ?_)
 obtain ⟨x8⟩ := x8'
 refine D.ps 2 [(5, []), (6, [])] rfl hQ hS T rfl rfl (by kernel_rfl) ?_
 refine D.done (by kernel_rfl) ?_
 refine C.nx (C.seq ?_)
 refine D.beg 9999 [0, 1] [] mix rfl rfl (by kernel_rfl) (by repeat (first | exact NoPanicQ.body | refine NoPanicQ.th ?_ | refine NoPanicQ.blk ?_)) (fun hQ hS ws M' => ?_)
 refine D.ps 8 [(0, []), (1, []), (2, []), (3, []), (4, []), (5, []), (6, []), (7, [])] rfl hQ hS T rfl rfl (by kernel_rfl) ?_
 obtain ⟨hx11, hm⟩ := hm
 refine D.q (o := _) 8 [] hQ hS rfl (.none rfl) rfl rfl (by exact Rd.pi T rfl rfl rfl rfl rfl rfl hx11) rfl (by kernel_rfl) ?_
 obtain ⟨hx12, hm⟩ := hm
 refine D.q (o := _) 9 [] hQ hS rfl (.none rfl) rfl rfl (by exact Rd.pi T rfl rfl rfl rfl rfl rfl hx12) rfl (by kernel_rfl) ?_
 obtain ⟨x13, hx13, hm⟩ := hm
 refine D.q (o := _) 10 [] hQ hS rfl (.none rfl) rfl rfl (by exact Rd.la T rfl rfl rfl hx13 rfl rfl rfl) rfl (by kernel_rfl) ?_
 refine D.ps 2 [(11, []), (12, [])] rfl hQ hS T rfl rfl (by kernel_rfl) ?_
 refine D.done (by kernel_rfl) ?_
 refine C.nx (C.seq (U.start ?_))
 refine U.ps 6 T rfl ?_
 refine U.done (C.nx (C.seq (C.seq (U.start ?_))))
 refine U.ps 4 T rfl ?_
 refine U.done (C.nx ?_)
 refine C.jn (fun (x18 : Int) => [(6, .i x18)]) (fun (x18 : Int) => []) 0 hm (fun x18 hm => ?_) (fun J19 hm hJ19 => ?_)
 ·refine C.nx (C.seq (U.start ?_))
  refine U.ps 2 T rfl ?_
  refine U.done (C.nx (C.ret ?_))
  exact C.fin T (rs' := [.i x18]) (H' := []) (nl' := 0) [] rfl rfl (.eq rfl) trivial rfl rfl rfl rfl hβ ⟨x18, hm, rfl, rfl, rfl⟩
 ·refine C.block ?_
  refine St.wk (C.loop (fun (s20 : Int × Int × Int × Int) => [(1, .p 0 0), (3, .p 1 0), (6, .i s20.1), (7, .i s20.2.1), (8, .i s20.2.2.1), (34, .sl 1 eB l.Full), (35, .i (l.Full.length : Int)), (36, .i s20.2.2.2)]) (fun (s20 : Int × Int × Int × Int) => [(0, .box [.sl 1 eB l.Full, .i l.Target]), (1, .val (.arr 1 eI x5))]) hm (fun s20 Y21 hm => ?_)) (Wk.mk' [some 0, some 1] rfl rfl (.eqs rfl) ⟨⟨_, rfl, .box rfl (.eq rfl)⟩, ⟨_, rfl, .val rfl⟩, trivial⟩ rfl)
  refine C.seq (U.start ?_)
  refine U.ps 1 T rfl ?_
  refine U.done (C.nx (C.seq ?_))
  refine C.ite rfl hm (fun hb24 hm => ?_) (fun hb24 hm => ?_)
  ·refine C.skip (C.nx (C.seq ?_))
   refine C.jn (fun (x25 : Int × Int × Int) => [(1, .p 0 0), (3, .p 1 0), (6, .i x25.1), (7, .i x25.2.1), (8, .i x25.2.2), (34, .sl 1 eB l.Full), (35, .i (l.Full.length : Int)), (36, .i s20.2.2.2)]) (fun (x25 : Int × Int × Int) => [(0, .box [.sl 1 eB l.Full, .i l.Target]), (1, .val (.arr 1 eI x5))]) 2 hm (fun x25 hm => ?_) (fun J26 hm hJ26 => ?_)
   ·refine C.nx (U.start ?_)
    refine U.ps 2 T rfl ?_
    refine U.done (C.nx ?_)
    exact St.wk (C.next hm) (Wk.mk' [some 0, some 1] rfl rfl (.eqs rfl) ⟨⟨_, rfl, .box rfl (.eq rfl)⟩, ⟨_, rfl, .val rfl⟩, trivial⟩ rfl)
   ·refine C.block (C.seq (U.start ?_))
    refine U.ps 1 T rfl ?_
    obtain ⟨x29, hx29, hm⟩ := hm
    refine U.r (o := _) rfl (.none rfl) rfl rfl (by exact Rd.ix T rfl rfl rfl rfl rfl rfl hx29) ?_
    refine U.ps 3 T rfl ?_
    refine U.done (C.nx (C.seq (C.seq (U.start ?_))))
    refine U.ps 4 T rfl ?_
    refine U.done (C.nx ?_)
    refine C.ite rfl hm (fun hb32 hm => ?_) (fun hb32 hm => ?_)
    ·refine C.exit (C.ex (C.bex ?_))
     exact St.wk (hJ26 _ hm) (Wk.mk' [some 0, some 1] rfl rfl (.eqs rfl) ⟨⟨_, rfl, .box rfl (.eq rfl)⟩, ⟨_, rfl, .val rfl⟩, trivial⟩ rfl)
    ·refine C.skip (C.nx (C.seq (U.start ?_)))
     refine U.ps 3 T rfl ?_
     refine U.done (C.nx (C.block (C.seq (U.start ?_))))
     refine U.ps 2 T rfl ?_
     refine U.done (C.nx ?_)
     refine C.jn (fun (x37 : Int × Int) => [(1, .p 0 0), (3, .p 1 0), (6, .i x37.1), (7, .i (w64 (s20.2.1 - 1))), (8, .i x37.2), (34, .sl 1 eB l.Full), (35, .i (l.Full.length : Int)), (36, .i s20.2.2.2)]) (fun (x37 : Int × Int) => [(0, .box [.sl 1 eB l.Full, .i l.Target]), (1, .val (.arr 1 eI x5))]) 2 hm (fun x37 hm => ?_) (fun J38 hm hJ38 => ?_)
     ·refine C.bnx (C.bnx ?_)
      exact St.wk (hJ26 _ hm) (Wk.mk' [some 0, some 1] rfl rfl (.eqs rfl) ⟨⟨_, rfl, .box rfl (.eq rfl)⟩, ⟨_, rfl, .val rfl⟩, trivial⟩ rfl)
     ·refine C.ite rfl hm (fun hb39 hm => ?_) (fun hb39 hm => ?_)
      ·refine U.start ?_
       refine U.ps 3 T rfl ?_
       refine U.done ?_
       exact St.wk (hJ38 _ hm) (Wk.mk' [some 0, some 1] rfl rfl (.eqs rfl) ⟨⟨_, rfl, .box rfl (.eq rfl)⟩, ⟨_, rfl, .val rfl⟩, trivial⟩ rfl)
      ·refine C.seq (U.start ?_)
       refine U.ps 3 T rfl ?_
       refine U.done (C.nx ?_)
       refine C.jn (fun (x44 : Int) => [(1, .p 0 0), (3, .p 1 0), (6, .i x44), (7, .i (w64 (s20.2.1 - 1))), (8, .i s20.2.2.1), (34, .sl 1 eB l.Full), (35, .i (l.Full.length : Int)), (36, .i s20.2.2.2)]) (fun (x44 : Int) => [(0, .box [.sl 1 eB l.Full, .i l.Target]), (1, .val (.arr 1 eI x5))]) 2 hm (fun x44 hm => ?_) (fun J45 hm hJ45 => ?_)
       ·exact St.wk (hJ38 _ hm) (Wk.mk' [some 0, some 1] rfl rfl (.eqs rfl) ⟨⟨_, rfl, .box rfl (.eq rfl)⟩, ⟨_, rfl, .val rfl⟩, trivial⟩ rfl)
       ·refine C.ite rfl hm (fun hb46 hm => ?_) (fun hb46 hm => ?_)
        ·refine U.start ?_
         refine U.ps 6 T rfl ?_
         obtain ⟨hx49, hm⟩ := hm
         refine U.r (o := _) rfl (.none rfl) rfl rfl (by exact Rd.pi T rfl rfl rfl rfl rfl rfl hx49) ?_
         obtain ⟨hx50, hm⟩ := hm
         refine U.r (o := _) rfl (.none rfl) rfl rfl (by exact Rd.pi T rfl rfl rfl rfl rfl rfl hx50) ?_
         obtain ⟨x51, hx51, hm⟩ := hm
         refine U.r (o := _) rfl (.none rfl) rfl rfl (by exact Rd.la T rfl rfl rfl hx51 rfl rfl rfl) ?_
         refine U.ps 2 T rfl ?_
         refine U.done ?_
         exact St.wk (hJ45 _ hm) (Wk.mk' [some 0, some 1] rfl rfl (.eqs rfl) ⟨⟨_, rfl, .box rfl (.eq rfl)⟩, ⟨_, rfl, .val rfl⟩, trivial⟩ rfl)
        ·refine C.skip ?_
         exact St.wk (hJ45 _ hm) (Wk.mk' [some 0, some 1] rfl rfl (.eqs rfl) ⟨⟨_, rfl, .box rfl (.eq rfl)⟩, ⟨_, rfl, .val rfl⟩, trivial⟩ rfl)
  ·refine C.exit (C.ex (C.ex (C.bex ?_)))
   exact St.wk (hJ19 _ hm) (Wk.mk' [] rfl rfl (.eqs rfl) trivial rfl)
theorem T_puzzle_Table (f : ApiFloor) (r : List Int) (k : Int) (goal : Int) (post : (List Int × Int) → Prop) (hm : V_puzzle_Table f r k goal post) :
    Tr Try.prog 10 [.agg (eApiFloor f), .sl 1 eI r, .i k, .i goal] [] 0 (fun A H' k => ∃ y, post y ∧ A = (.tup [.o 0, .i y.2]) ∧ H' = [(0, .val (.os 1 eI y.1))] ∧ k = 1) := by
 refine Tr.intro (n := 120) Try.func10 rfl Try.ntmps10 rfl (fun w0 ok F β hβ => ?_)
 unfold V_puzzle_Table at hm
 refine C.seq (U.start ?_)
 refine U.e1 (o := _) rfl (.none rfl) (by exact Eff1.box rfl rfl rfl rfl rfl) ?_
 refine U.ps 2 T rfl ?_
 refine U.done (C.nx (C.seq (C.seq (U.start ?_))))
 refine U.ps 3 T rfl ?_
 refine U.done (C.nx ?_)
 refine C.ite rfl hm (fun hb5 hm => ?_) (fun hb5 hm => ?_)
 ·refine C.seq (U.start ?_)
  refine U.ps 2 T rfl ?_
  refine U.done (C.nx (C.ret (C.rt ?_)))
  exact C.fin T (rs' := [.o 0, .i (([], 27).2)]) (H' := [(0, .val (.os 1 eI (([], 27).1)))]) (nl' := 1) [none] rfl rfl (.cons (.nilO _ _ ⟨rfl, rfl⟩ rfl) (.eq rfl)) ⟨⟨_, rfl, .nil _ _⟩, trivial⟩ rfl rfl rfl rfl hβ ⟨([], 27), hm, rfl, rfl, rfl⟩
 ·refine C.skip (C.nx (C.seq (C.seq ?_)))
  refine C.jn (fun (x8 : Bool) => [(1, .sl 1 eI r), (2, .i k), (3, .i goal), (4, .p 0 0), (43, .b x8)]) (fun (x8 : Bool) => [(0, .box (eApiFloor f))]) 1 hm (fun x8 hm => ?_) (fun J9 hm hJ9 => ?_)
  ·refine C.nx ?_
   refine C.ite rfl hm (fun hb13 hm => ?_) (fun hb13 hm => ?_)
   ·refine C.seq (U.start ?_)
    refine U.ps 2 T rfl ?_
    refine U.done (C.nx (C.ret (C.rt ?_)))
    exact C.fin T (rs' := [.o 0, .i (([], 3).2)]) (H' := [(0, .val (.os 1 eI (([], 3).1)))]) (nl' := 1) [none] rfl rfl (.cons (.nilO _ _ ⟨rfl, rfl⟩ rfl) (.eq rfl)) ⟨⟨_, rfl, .nil _ _⟩, trivial⟩ rfl rfl rfl rfl hβ ⟨([], 3), hm, rfl, rfl, rfl⟩
   ·refine C.skip (C.nx (C.seq (U.start ?_)))
    refine U.ps 3 T rfl ?_
    refine U.e (o := _) rfl (.none rfl) (by exact Eff.c [] (v := true) (T_layout_Count (r.length : Int) k _ hm) en21 rfl rfl rfl (.eq rfl) trivial rfl rfl rfl rfl rfl rfl (fun _ _ => ⟨(.v _), trivial⟩) (.inr ⟨rfl, rfl⟩) (fun _ => rfl) (fun _ => rfl) rfl) (fun x18' hm => ?_)
    obtain ⟨x18⟩ := x18'
    obtain ⟨hx19, hm⟩ := hm
    refine U.e1 (o := _) rfl (.none rfl) (by exact Eff1.mk T (enc := eI) (z0 := 0) rfl rfl rfl rfl rfl rfl rfl rfl rfl rfl hx19) ?_
    refine U.e1 (o := _) rfl (.none rfl) (by exact Eff1.al T rfl rfl rfl rfl) ?_
    refine U.e1 (o := _) rfl (.none rfl) (by exact Eff1.st T rfl rfl rfl rfl rfl rfl rfl rfl rfl rfl) ?_
    refine U.done (C.nx (C.seq (U.start ?_)))
    refine U.e1 (o := _) rfl (.none rfl) (by exact Eff1.al T rfl rfl rfl rfl) ?_
    refine U.done (C.nx (C.seq (U.start ?_)))
    refine U.ps 2 T rfl ?_
    refine U.done (C.nx (C.seq (C.seq (U.start ?_))))
    refine U.ps 3 T rfl ?_
    refine U.done (C.nx ?_)
    refine C.jn (fun (x26 : List Int × List Int) => [(1, .sl 1 eI r), (2, .i k), (4, .p 0 0), (10, .p 1 0), (11, .p 3 0), (12, .fn (.func 30) [] [.p 1 0, .p 3 0])]) (fun (x26 : List Int × List Int) => [(0, .box (eApiFloor f)), (1, .box [.o 2]), (2, .val (.os 1 eI x26.1)), (3, .box [.o 4]), (4, .val (.os 1 eI x26.2))]) 5 hm (fun x26 hm => ?_) (fun J27 hm hJ27 => ?_)
    ·refine C.nx (C.seq ?_)
     refine C.jn (fun (x51 : List Int) => [(10, .p 0 0)]) (fun (x51 : List Int) => [(0, .box [.o 1]), (1, .val (.os 1 eI x51))]) 2 hm (fun x51 hm => ?_) (fun J52 hm hJ52 => ?_)
     ·refine C.nx (C.seq (U.start ?_))
      refine U.ps 3 T rfl ?_
      refine U.done (C.nx (C.ret ?_))
      exact C.fin T (rs' := [.o 0, .i ((x51, 0).2)]) (H' := [(0, .val (.os 1 eI ((x51, 0).1)))]) (nl' := 1) [some 1] rfl rfl (.eq rfl) ⟨⟨_, rfl, .val rfl⟩, trivial⟩ rfl rfl rfl rfl hβ ⟨(x51, 0), hm, rfl, rfl, rfl⟩
     ·refine C.block ?_
      refine St.wk (C.loop (fun (s53 : List Int × List Int) => [(1, .sl 1 eI r), (2, .i k), (4, .p 0 0), (10, .p 1 0), (11, .p 3 0), (12, .fn (.func 30) [] [.p 1 0, .p 3 0])]) (fun (s53 : List Int × List Int) => [(0, .box (eApiFloor f)), (1, .box [.o 2]), (2, .val (.os 1 eI s53.1)), (3, .box [.o 4]), (4, .val (.os 1 eI s53.2))]) hm (fun s53 Y54 hm => ?_)) (Wk.mk' [some 0, some 1, some 2, some 3, some 4] rfl rfl (.eqs rfl) ⟨⟨_, rfl, .box rfl (.eq rfl)⟩, ⟨_, rfl, .box rfl (.eq rfl)⟩, ⟨_, rfl, .val rfl⟩, ⟨_, rfl, .box rfl (.eq rfl)⟩, ⟨_, rfl, .val rfl⟩, trivial⟩ rfl)
      refine C.seq (C.seq (U.start ?_))
      refine U.ps 3 T rfl ?_
      refine U.done (C.nx ?_)
      refine C.ite rfl hm (fun hb57 hm => ?_) (fun hb57 hm => ?_)
      ·refine C.skip (C.nx ?_)
       refine C.jn (fun (x58 : List Int × List Int) => [(1, .sl 1 eI r), (2, .i k), (4, .p 0 0), (10, .p 1 0), (11, .p 3 0), (12, .fn (.func 30) [] [.p 1 0, .p 3 0])]) (fun (x58 : List Int × List Int) => [(0, .box (eApiFloor f)), (1, .box [.o 2]), (2, .val (.os 1 eI x58.1)), (3, .box [.o 4]), (4, .val (.os 1 eI x58.2))]) 5 hm (fun x58 hm => ?_) (fun J59 hm hJ59 => ?_)
       ·refine C.nx ?_
        exact St.wk (C.next hm) (Wk.mk' [some 0, some 1, some 2, some 3, some 4] rfl rfl (.eqs rfl) ⟨⟨_, rfl, .box rfl (.eq rfl)⟩, ⟨_, rfl, .box rfl (.eq rfl)⟩, ⟨_, rfl, .val rfl⟩, ⟨_, rfl, .box rfl (.eq rfl)⟩, ⟨_, rfl, .val rfl⟩, trivial⟩ rfl)
       ·refine C.block (C.seq (U.start ?_))
        refine U.ps 1 T rfl ?_
        obtain ⟨x62, hx62, hm⟩ := hm
        refine U.r (o := _) rfl (.none rfl) rfl rfl (by exact Rd.io T rfl rfl rfl rfl rfl rfl rfl hx62) ?_
        refine U.r (o := _) rfl (.none rfl) rfl rfl (by exact Rd.le T rfl rfl rfl (idx_some hx62).2.2 rfl rfl rfl) ?_
        refine U.ps 1 T rfl ?_
        refine U.done (C.nx (C.seq (U.start ?_)))
        refine U.ps 1 T rfl ?_
        obtain ⟨hx65, hm⟩ := hm
        refine U.e1 (o := _) rfl (.none rfl) (by exact Eff1.sw T rfl rfl rfl rfl rfl rfl rfl rfl (.some _ rfl) (.none _) hx65) ?_
        refine U.e1 (o := _) rfl (.none rfl) (by exact Eff1.st T rfl rfl rfl rfl rfl rfl rfl rfl rfl rfl) ?_
        refine U.done (C.nx (C.seq (U.start ?_)))
        refine U.ps 4 T rfl ?_
        refine U.e (o := _) rfl (.none rfl) (by exact Eff.c [] (v := true) (T_layout_Unrank (r.length : Int) k x62 _ hm) en22 rfl rfl rfl (.eq rfl) trivial rfl rfl rfl rfl rfl rfl (fun _ _ => ⟨(.tup (.cons (.agg (.cons (.o _) (.cons (.v _) .nil))) (.cons (.v _) .nil))), ⟨.val (.os _ _ _ fun _ => (.cons (.v _) .nil)), trivial⟩⟩) (.inr ⟨rfl, rfl⟩) (fun _ => rfl) (fun _ => rfl) rfl) (fun x68' hm => ?_)
        obtain ⟨x68⟩ := x68'
        refine U.ps 3 T rfl ?_
        refine U.e1 (o := _) rfl (.none rfl) (by exact Eff1.al T rfl rfl rfl rfl) ?_
        refine U.e1 (o := _) rfl (.none rfl) (by exact Eff1.st T rfl rfl rfl rfl rfl rfl rfl rfl rfl rfl) ?_
        refine U.ps 1 T rfl ?_
        refine U.done (C.nx (C.seq (U.start ?_)))
        refine U.ps 3 T rfl ?_
        refine U.e (o := _) rfl (.none rfl) (by exact Eff.c [] (v := true) (T_layout_Backs f r x68.1 _ hm) en31 rfl rfl rfl (.cons (.eq rfl) (.cons (.eq rfl) (.cons (.agg (.cons (.fz rfl rfl rfl (.os fun _ => .cons (.ro rfl) .nil)) (.eq rfl))) .nil))) trivial rfl rfl rfl rfl rfl rfl (fun _ _ => ⟨(.o _), ⟨.val (.os _ _ _ fun _ => (.cons (.v _) (.cons (.v _) .nil))), trivial⟩⟩) (.inr ⟨rfl, rfl⟩) (fun _ => rfl) (fun _ => rfl) rfl) (fun x71' hm => ?_)
        obtain ⟨x71⟩ := x71'
        refine U.ps 2 T rfl ?_
        refine U.done (C.nx ?_)
        refine C.jn (fun (x72 : List Int × List Int) => [(1, .sl 1 eI r), (2, .i k), (4, .p 0 0), (10, .p 1 0), (11, .p 3 0), (12, .fn (.func 30) [] [.p 1 0, .p 3 0])]) (fun (x72 : List Int × List Int) => [(0, .box (eApiFloor f)), (1, .box [.o 2]), (2, .val (.os 1 eI x72.1)), (3, .box [.o 4]), (4, .val (.os 1 eI x72.2))]) 5 hm (fun x72 hm => ?_) (fun J73 hm hJ73 => ?_)
        ·refine C.bnx ?_
         exact St.wk (hJ59 _ hm) (Wk.mk' [some 0, some 1, some 2, some 3, some 4] rfl rfl (.eqs rfl) ⟨⟨_, rfl, .box rfl (.eq rfl)⟩, ⟨_, rfl, .box rfl (.eq rfl)⟩, ⟨_, rfl, .val rfl⟩, ⟨_, rfl, .box rfl (.eq rfl)⟩, ⟨_, rfl, .val rfl⟩, trivial⟩ rfl)
        ·refine C.block ?_
         refine St.wk (C.loop (fun (s74 : List Int × List Int × Int) => [(1, .sl 1 eI r), (2, .i k), (4, .p 0 0), (10, .p 1 0), (11, .p 3 0), (12, .fn (.func 30) [] [.p 1 0, .p 3 0]), (16, .i x62), (17, .p 5 0), (93, .o 7), (94, .i (x71.length : Int)), (95, .i s74.2.2)]) (fun (s74 : List Int × List Int × Int) => [(0, .box (eApiFloor f)), (1, .box [.o 2]), (2, .val (.os 1 eI s74.1)), (3, .box [.o 4]), (4, .val (.os 1 eI s74.2.1)), (5, .box [.o 6, .i x68.1.Target]), (6, .val (.os 1 eB x68.1.Full)), (7, .val (.os 2 eApiShift x71))]) hm (fun s74 Y75 hm => ?_)) (Wk.mk' [some 0, some 1, some 2, some 3, some 5, some 7, some 6, some 8] rfl rfl (.eqs rfl) ⟨⟨_, rfl, .box rfl (.eq rfl)⟩, ⟨_, rfl, .box rfl (.eq rfl)⟩, ⟨_, rfl, .val rfl⟩, ⟨_, rfl, .box rfl (.eq rfl)⟩, ⟨_, rfl, .val rfl⟩, ⟨_, rfl, .box rfl (.eq rfl)⟩, ⟨_, rfl, .val rfl⟩, ⟨_, rfl, .val rfl⟩, trivial⟩ rfl)
         refine C.seq (U.start ?_)
         refine U.ps 1 T rfl ?_
         refine U.done (C.nx (C.seq ?_))
         refine C.ite rfl hm (fun hb78 hm => ?_) (fun hb78 hm => ?_)
         ·refine C.skip (C.nx (C.seq (C.block (C.seq (U.start ?_)))))
          obtain ⟨x81, hx81, hm⟩ := hm
          refine U.r (o := _) rfl (.none rfl) rfl rfl (by exact Rd.io T rfl rfl rfl rfl rfl rfl rfl hx81) ?_
          refine U.r (o := _) rfl (.none rfl) rfl rfl (by exact Rd.le T rfl rfl rfl (idx_some hx81).2.2 rfl rfl rfl) ?_
          refine U.e1 (o := _) rfl (.none rfl) (by exact Eff1.al T rfl rfl rfl rfl) ?_
          refine U.e1 (o := _) rfl (.none rfl) (by exact Eff1.st T rfl rfl rfl rfl rfl rfl rfl rfl rfl rfl) ?_
          refine U.done (C.nx (C.seq (U.start ?_)))
          refine U.ps 6 T rfl ?_
          refine U.e (o := _) rfl (.none rfl) (by exact Eff.c [] (v := true) (T_layout_Do x68.1 ({ From := x81.To, To := x81.From : ApiShift }) _ hm) en24 rfl rfl rfl (.cons (.agg (.cons (.fz rfl rfl rfl (.os fun _ => .cons (.ro rfl) .nil)) (.eq rfl))) (.eq rfl)) trivial rfl rfl rfl rfl rfl rfl (fun _ _ => ⟨(.tup (.cons (.agg (.cons (.o _) (.cons (.v _) .nil))) (.cons (.v _) .nil))), ⟨.val (.os _ _ _ fun _ => (.cons (.v _) .nil)), trivial⟩⟩) (.inr ⟨rfl, rfl⟩) (fun _ => rfl) (fun _ => rfl) rfl) (fun x84' hm => ?_)
          obtain ⟨x84⟩ := x84'
          refine U.ps 3 T rfl ?_
          refine U.e1 (o := _) rfl (.none rfl) (by exact Eff1.al T rfl rfl rfl rfl) ?_
          refine U.e1 (o := _) rfl (.none rfl) (by exact Eff1.st T rfl rfl rfl rfl rfl rfl rfl rfl rfl rfl) ?_
          refine U.ps 1 T rfl ?_
          refine U.done (C.nx ?_)
          refine D.beg 8 [1, 2, 10] [] mix rfl rfl (by kernel_rfl) (by repeat (first | exact NoPanicQ.body | refine NoPanicQ.th ?_ | refine NoPanicQ.blk ?_)) (fun hQ hS ws M' => ?_)
          refine D.ps 4 [(0, []), (1, [2]), (3, [7, 6, 5]), (4, [7, 6, 5])] rfl hQ hS T rfl rfl (by kernel_rfl) ?_
          obtain ⟨x87, hx87, hm⟩ := hm
          refine D.q (o := _) 5 [7, 6] hQ hS rfl (.none rfl) rfl rfl (by exact Rd.io T rfl rfl rfl rfl rfl rfl rfl hx87) rfl (by kernel_rfl) ?_
          refine D.q (o := _) 6 [7] hQ hS rfl (.none rfl) rfl rfl (by exact Rd.le T rfl rfl rfl (idx_some hx87).2.2 rfl rfl rfl) rfl (by kernel_rfl) ?_
          refine D.ps 1 [(7, [])] rfl hQ hS T rfl rfl (by kernel_rfl) ?_
          refine D.e (o := _) 2 rfl (.none rfl) (by exact Eff.c [] (v := true) (T_layout_Rank x84.1 _ hm) en25 rfl rfl rfl (.cons (.agg (.cons (.fz rfl rfl rfl (.os fun _ => .cons (.ro rfl) .nil)) (.eq rfl))) .nil) trivial rfl rfl rfl rfl rfl rfl (fun _ _ => ⟨(.v _), trivial⟩) (.inr ⟨rfl, rfl⟩) (fun _ => rfl) (fun _ => rfl) rfl) (by kernel_rfl) rfl rfl (fun x88' hm => ?_)
          obtain ⟨x88⟩ := x88'
          refine D.ze (o := _) rfl (.none rfl) (by exact Eff.c [some 1, some 2, some 3, some 4] (v := false) (T_puzzle_Table_1__p0_p2 x88 (w64 (x87 + 1)) s74.1 s74.2.1 _ hm) en30 rfl rfl rfl (.eq rfl) ⟨⟨_, rfl, .box rfl (.eq rfl)⟩, ⟨_, rfl, .val rfl⟩, ⟨_, rfl, .box rfl (.eq rfl)⟩, ⟨_, rfl, .val rfl⟩, trivial⟩ rfl rfl rfl rfl rfl rfl (fun h => by cases h) (.inl rfl) (fun _ => rfl) (fun _ => rfl) rfl) (by kernel_rfl) (by kernel_rfl) (fun x89' hm => ?_)
          obtain ⟨x89⟩ := x89'
          refine C.bnx (C.nx (U.start ?_))
          refine U.ps 2 T rfl ?_
          refine U.done (C.nx ?_)
          exact St.wk (C.next hm) (Wk.mk' [some 0, some 1, some 15, some 3, some 16, some 5, some 6, some 7] rfl rfl (.eqs rfl) ⟨⟨_, rfl, .box rfl (.eq rfl)⟩, ⟨_, rfl, .box rfl (.eq rfl)⟩, ⟨_, rfl, .val rfl⟩, ⟨_, rfl, .box rfl (.eq rfl)⟩, ⟨_, rfl, .val rfl⟩, ⟨_, rfl, .box rfl (.eq rfl)⟩, ⟨_, rfl, .val rfl⟩, ⟨_, rfl, .val rfl⟩, trivial⟩ rfl)
         ·refine C.exit (C.ex (C.ex (C.bex ?_)))
          exact St.wk (hJ73 _ hm) (Wk.mk' [some 0, some 1, some 2, some 3, some 4] rfl rfl (.eqs rfl) ⟨⟨_, rfl, .box rfl (.eq rfl)⟩, ⟨_, rfl, .box rfl (.eq rfl)⟩, ⟨_, rfl, .val rfl⟩, ⟨_, rfl, .box rfl (.eq rfl)⟩, ⟨_, rfl, .val rfl⟩, trivial⟩ rfl)
      ·refine C.exit (C.ex (C.ex (C.bex ?_)))
       exact St.wk (hJ52 _ hm) (Wk.mk' [some 1, some 2] rfl rfl (.eqs rfl) ⟨⟨_, rfl, .box rfl (.eq rfl)⟩, ⟨_, rfl, .val rfl⟩, trivial⟩ rfl)
    ·refine C.block ?_
     refine St.wk (C.loop (fun (s28 : List Int × List Int × Int) => [(1, .sl 1 eI r), (2, .i k), (3, .i goal), (4, .p 0 0), (10, .p 1 0), (11, .p 3 0), (12, .fn (.func 30) [] [.p 1 0, .p 3 0]), (51, .i ((List.replicate (Int.toNat x18) (0 : Int)).length : Int)), (52, .i s28.2.2)]) (fun (s28 : List Int × List Int × Int) => [(0, .box (eApiFloor f)), (1, .box [.o 2]), (2, .val (.os 1 eI s28.1)), (3, .box [.o 4]), (4, .val (.os 1 eI s28.2.1))]) hm (fun s28 Y29 hm => ?_)) (Wk.mk' [some 0, some 2, some 1, some 3, none] rfl rfl (.eqs rfl) ⟨⟨_, rfl, .box rfl (.eq rfl)⟩, ⟨_, rfl, .box rfl (.eq rfl)⟩, ⟨_, rfl, .val rfl⟩, ⟨_, rfl, .box rfl (.cons (.nilO _ _ ⟨rfl, rfl⟩ rfl) .nil)⟩, ⟨_, rfl, .nil _ _⟩, trivial⟩ rfl)
     refine C.seq (U.start ?_)
     refine U.ps 1 T rfl ?_
     refine U.done (C.nx (C.seq ?_))
     refine C.ite rfl hm (fun hb32 hm => ?_) (fun hb32 hm => ?_)
     ·refine C.skip (C.nx (C.seq (C.block (C.seq (U.start ?_)))))
      refine U.ps 2 T rfl ?_
      refine U.done (C.nx (C.seq (U.start ?_)))
      refine U.ps 2 T rfl ?_
      obtain ⟨x37, hx37, hm⟩ := hm
      refine U.r (o := _) rfl (.none rfl) rfl rfl (by exact Rd.io T rfl rfl rfl rfl rfl rfl rfl hx37) ?_
      refine U.e1 (o := _) rfl (.none rfl) (by exact Eff1.se T (z' := (-1)) rfl rfl rfl (idx_some hx37).2.2 rfl rfl rfl rfl rfl rfl rfl rfl (fun _ => rfl) rfl) ?_
      refine U.done (C.nx (C.seq (U.start ?_)))
      refine U.ps 4 T rfl ?_
      refine U.e (o := _) rfl (.none rfl) (by exact Eff.c [] (v := true) (T_layout_Unrank (r.length : Int) k s28.2.2 _ hm) en22 rfl rfl rfl (.eq rfl) trivial rfl rfl rfl rfl rfl rfl (fun _ _ => ⟨(.tup (.cons (.agg (.cons (.o _) (.cons (.v _) .nil))) (.cons (.v _) .nil))), ⟨.val (.os _ _ _ fun _ => (.cons (.v _) .nil)), trivial⟩⟩) (.inr ⟨rfl, rfl⟩) (fun _ => rfl) (fun _ => rfl) rfl) (fun x40' hm => ?_)
      obtain ⟨x40⟩ := x40'
      refine U.ps 3 T rfl ?_
      refine U.e1 (o := _) rfl (.none rfl) (by exact Eff1.al T rfl rfl rfl rfl) ?_
      refine U.e1 (o := _) rfl (.none rfl) (by exact Eff1.st T rfl rfl rfl rfl rfl rfl rfl rfl rfl rfl) ?_
      refine U.ps 1 T rfl ?_
      refine U.done (C.nx (C.seq (U.start ?_)))
      refine U.ps 4 T rfl ?_
      refine U.done (C.nx ?_)
      refine C.jn (fun (x43 : List Int × List Int) => [(1, .sl 1 eI r), (2, .i k), (3, .i goal), (4, .p 0 0), (10, .p 1 0), (11, .p 3 0), (12, .fn (.func 30) [] [.p 1 0, .p 3 0]), (51, .i ((List.replicate (Int.toNat x18) (0 : Int)).length : Int)), (52, .i s28.2.2)]) (fun (x43 : List Int × List Int) => [(0, .box (eApiFloor f)), (1, .box [.o 2]), (2, .val (.os 1 eI x43.1)), (3, .box [.o 4]), (4, .val (.os 1 eI x43.2))]) 5 hm (fun x43 hm => ?_) (fun J44 hm hJ44 => ?_)
      ·refine C.bnx (C.nx (U.start ?_))
       refine U.ps 2 T rfl ?_
       refine U.done (C.nx ?_)
       exact St.wk (C.next hm) (Wk.mk' [some 0, some 1, some 2, some 3, some 4] rfl rfl (.eqs rfl) ⟨⟨_, rfl, .box rfl (.eq rfl)⟩, ⟨_, rfl, .box rfl (.eq rfl)⟩, ⟨_, rfl, .val rfl⟩, ⟨_, rfl, .box rfl (.eq rfl)⟩, ⟨_, rfl, .val rfl⟩, trivial⟩ rfl)
      ·refine C.ite rfl hm (fun hb45 hm => ?_) (fun hb45 hm => ?_)
       ·refine U.start ?_
        refine U.ps 2 T rfl ?_
        refine U.e (o := _) rfl (.none rfl) (by exact Eff.c [some 1, some 2, some 3, some 4] (v := false) (T_puzzle_Table_1__p0_p2 s28.2.2 0 (s28.1.set (Int.toNat s28.2.2) (-1)) s28.2.1 _ hm) en30 rfl rfl rfl (.eq rfl) ⟨⟨_, rfl, .box rfl (.eq rfl)⟩, ⟨_, rfl, .val rfl⟩, ⟨_, rfl, .box rfl (.eq rfl)⟩, ⟨_, rfl, .val rfl⟩, trivial⟩ rfl rfl rfl rfl rfl rfl (fun h => by cases h) (.inl rfl) (fun _ => rfl) (fun _ => rfl) rfl) (fun x48' hm => ?_)
        obtain ⟨x48⟩ := x48'
        refine U.done ?_
        exact St.wk (hJ44 _ hm) (Wk.mk' [some 0, some 1, some 11, some 3, some 12] rfl rfl (.eqs rfl) ⟨⟨_, rfl, .box rfl (.eq rfl)⟩, ⟨_, rfl, .box rfl (.eq rfl)⟩, ⟨_, rfl, .val rfl⟩, ⟨_, rfl, .box rfl (.eq rfl)⟩, ⟨_, rfl, .val rfl⟩, trivial⟩ rfl)
       ·refine C.skip ?_
        exact St.wk (hJ44 _ hm) (Wk.mk' [some 0, some 1, some 2, some 3, some 4] rfl rfl (.eqs rfl) ⟨⟨_, rfl, .box rfl (.eq rfl)⟩, ⟨_, rfl, .box rfl (.eq rfl)⟩, ⟨_, rfl, .val rfl⟩, ⟨_, rfl, .box rfl (.eq rfl)⟩, ⟨_, rfl, .val rfl⟩, trivial⟩ rfl)
     ·refine C.exit (C.ex (C.ex (C.bex ?_)))
      exact St.wk (hJ27 _ hm) (Wk.mk' [some 0, some 1, some 2, some 3, some 4] rfl rfl (.eqs rfl) ⟨⟨_, rfl, .box rfl (.eq rfl)⟩, ⟨_, rfl, .box rfl (.eq rfl)⟩, ⟨_, rfl, .val rfl⟩, ⟨_, rfl, .box rfl (.eq rfl)⟩, ⟨_, rfl, .val rfl⟩, trivial⟩ rfl)
  ·refine U.start ?_
   refine U.ps 3 T rfl ?_
   refine hm.cs (fun hb10 hm => ?_) (fun hb10 hm => ?_)
   ·refine U.sks 4 2 false 28 hb10 rfl rfl rfl ?_
    refine U.r (o := _) rfl (.none rfl) rfl rfl (by exact Rd.pk rfl rfl hb10 rfl) ?_
    refine U.ps 1 T rfl ?_
    refine U.sks 2 8 false 34 rfl rfl rfl rfl ?_
    refine U.r (o := _) rfl (.none rfl) rfl rfl (by exact Rd.pk rfl rfl rfl rfl) ?_
    refine U.ps 1 T rfl ?_
    refine U.sks 4 12 false 38 rfl rfl rfl rfl ?_
    refine U.r (o := _) rfl (.none rfl) rfl rfl (by exact Rd.pk rfl rfl rfl rfl) ?_
    refine U.done ?_
    exact St.wk (hJ9 _ hm) (Wk.mk' [some 0] rfl rfl (.eqs rfl) ⟨⟨_, rfl, .box rfl (.eq rfl)⟩, trivial⟩ rfl)
   ·refine U.pg 4 2 false 28 hb10 T rfl rfl rfl rfl ?_
    refine U.r (o := _) rfl (.none rfl) rfl rfl (by exact Rd.pk' rfl rfl hb10 rfl) ?_
    refine U.ps 1 T rfl ?_
    refine hm.cs (fun hb11 hm => ?_) (fun hb11 hm => ?_)
    ·refine U.sks 2 8 false 34 hb11 rfl rfl rfl ?_
     refine U.r (o := _) rfl (.none rfl) rfl rfl (by exact Rd.pk rfl rfl hb11 rfl) ?_
     refine U.ps 1 T rfl ?_
     refine U.sks 4 12 false 38 rfl rfl rfl rfl ?_
     refine U.r (o := _) rfl (.none rfl) rfl rfl (by exact Rd.pk rfl rfl rfl rfl) ?_
     refine U.done ?_
     exact St.wk (hJ9 _ hm) (Wk.mk' [some 0] rfl rfl (.eqs rfl) ⟨⟨_, rfl, .box rfl (.eq rfl)⟩, trivial⟩ rfl)
    ·refine U.pg 2 8 false 34 hb11 T rfl rfl rfl rfl ?_
     refine U.r (o := _) rfl (.none rfl) rfl rfl (by exact Rd.pk' rfl rfl hb11 rfl) ?_
     refine U.ps 1 T rfl ?_
     refine hm.cs (fun hb12 hm => ?_) (fun hb12 hm => ?_)
     ·refine U.sks 4 12 false 38 hb12 rfl rfl rfl ?_
      refine U.r (o := _) rfl (.none rfl) rfl rfl (by exact Rd.pk rfl rfl hb12 rfl) ?_
      refine U.done ?_
      exact St.wk (hJ9 _ hm) (Wk.mk' [some 0] rfl rfl (.eqs rfl) ⟨⟨_, rfl, .box rfl (.eq rfl)⟩, trivial⟩ rfl)
     ·refine U.pg 4 12 false 38 hb12 T rfl rfl rfl rfl ?_
      refine U.r (o := _) rfl (.none rfl) rfl rfl (by exact Rd.pk' rfl rfl hb12 rfl) ?_
      refine U.done ?_
      exact St.wk (hJ9 _ hm) (Wk.mk' [some 0] rfl rfl (.eqs rfl) ⟨⟨_, rfl, .box rfl (.eq rfl)⟩, trivial⟩ rfl)
theorem T_puzzle_distances (f : ApiFloor) (r : List Int) (l : ApiLayout) (goal : Int) (post : (List Int × Int × Int) → Prop) (hm : V_puzzle_distances f r l goal post) :
    Tr Try.prog 37 [.agg (eApiFloor f), .sl 1 eI r, .agg [.sl 1 eB l.Full, .i l.Target], .i goal] [] 0 (fun A H' k => ∃ y, post y ∧ A = (.tup [.o 0, .i y.2.1, .i y.2.2]) ∧ H' = [(0, .val (.os 1 eI y.1))] ∧ k = 1) := by
 refine Tr.intro (n := 35) Try.func37 rfl Try.ntmps37 rfl (fun w0 ok F β hβ => ?_)
 unfold V_puzzle_distances at hm
 refine C.seq (U.start ?_)
 refine U.e1 (o := _) rfl (.none rfl) (by exact Eff1.box rfl rfl rfl rfl rfl) ?_
 refine U.e1 (o := _) rfl (.none rfl) (by exact Eff1.box rfl rfl rfl rfl rfl) ?_
 refine U.ps 3 T rfl ?_
 refine U.done (C.nx (C.seq ?_))
 refine D.beg 9999 [0, 1] [] mix rfl rfl (by kernel_rfl) (by repeat (first | exact NoPanicQ.body | refine NoPanicQ.th ?_ | refine NoPanicQ.blk ?_)) (fun hQ hS ws M' => ?_)
 refine D.ps 4 [(0, []), (1, []), (2, []), (4, [])] rfl hQ hS T rfl rfl (by kernel_rfl) ?_
 refine D.e (o := _) 3 rfl (.none rfl) (by exact Eff.c [] (v := true) (T_layout_Shelves l _ hm) en26 rfl rfl rfl (.eq rfl) trivial rfl rfl rfl rfl rfl rfl (fun _ _ => ⟨(.v _), trivial⟩) (.inr ⟨rfl, rfl⟩) (fun _ => rfl) (fun _ => rfl) rfl) (by kernel_rfl) rfl rfl (fun x5' hm => ?_)
 obtain ⟨x5⟩ := x5'
 refine D.e (o := _) 5 rfl (.none rfl) (by exact Eff.c [] (v := true) (T_puzzle_Table f r x5 goal _ hm) en10 rfl rfl rfl (.eq rfl) trivial rfl rfl rfl rfl rfl rfl (fun _ _ => ⟨(.tup (.cons (.o _) (.cons (.v _) .nil))), ⟨.val (.os _ _ _ fun _ => (.cons (.v _) .nil)), trivial⟩⟩) (.inr ⟨rfl, rfl⟩) (fun _ => rfl) (fun _ => rfl) rfl) (by kernel_rfl) rfl rfl (fun x6' hm => ?_)
 obtain ⟨x6⟩ := x6'
 refine D.ps 5 [(6, []), (7, []), (8, []), (9, []), (10, [])] rfl hQ hS T rfl rfl (by kernel_rfl) ?_
 refine D.done (by kernel_rfl) ?_
 refine C.nx (C.seq (C.seq (U.start ?_)))
 refine U.ps 2 T rfl ?_
 refine U.done (C.nx ?_)
 refine C.ite rfl hm (fun hb9 hm => ?_) (fun hb9 hm => ?_)
 ·refine C.seq (U.start ?_)
  refine U.ps 4 T rfl ?_
  refine U.done (C.nx (C.ret (C.rt ?_)))
  exact C.fin T (rs' := [.o 0, .i (([], 0, x6.2).2.1), .i (([], 0, x6.2).2.2)]) (H' := [(0, .val (.os 1 eI (([], 0, x6.2).1)))]) (nl' := 1) [none] rfl rfl (.cons (.nilO _ _ ⟨rfl, rfl⟩ rfl) (.eq rfl)) ⟨⟨_, rfl, .nil _ _⟩, trivial⟩ rfl rfl rfl rfl hβ ⟨([], 0, x6.2), hm, rfl, rfl, rfl⟩
 ·refine C.skip (C.nx (C.seq (U.start ?_)))
  refine U.ps 2 T rfl ?_
  refine U.e (o := _) rfl (.none rfl) (by exact Eff.c [] (v := true) (T_layout_Rank l _ hm) en25 rfl rfl rfl (.eq rfl) trivial rfl rfl rfl rfl rfl rfl (fun _ _ => ⟨(.v _), trivial⟩) (.inr ⟨rfl, rfl⟩) (fun _ => rfl) (fun _ => rfl) rfl) (fun x14' hm => ?_)
  obtain ⟨x14⟩ := x14'
  obtain ⟨x15, hx15, hm⟩ := hm
  refine U.r (o := _) rfl (.none rfl) rfl rfl (by exact Rd.io T rfl rfl rfl rfl rfl rfl rfl hx15) ?_
  refine U.r (o := _) rfl (.none rfl) rfl rfl (by exact Rd.le T rfl rfl rfl (idx_some hx15).2.2 rfl rfl rfl) ?_
  refine U.ps 1 T rfl ?_
  refine U.done (C.nx (C.seq (C.seq (U.start ?_))))
  refine U.ps 2 T rfl ?_
  refine U.done (C.nx ?_)
  refine C.ite rfl hm (fun hb18 hm => ?_) (fun hb18 hm => ?_)
  ·refine C.seq (U.start ?_)
   refine U.ps 3 T rfl ?_
   refine U.done (C.nx (C.ret (C.rt ?_)))
   exact C.fin T (rs' := [.o 0, .i (([], 0, 14).2.1), .i (([], 0, 14).2.2)]) (H' := [(0, .val (.os 1 eI (([], 0, 14).1)))]) (nl' := 1) [none] rfl rfl (.cons (.nilO _ _ ⟨rfl, rfl⟩ rfl) (.eq rfl)) ⟨⟨_, rfl, .nil _ _⟩, trivial⟩ rfl rfl rfl rfl hβ ⟨([], 0, 14), hm, rfl, rfl, rfl⟩
  ·refine C.skip (C.nx (C.seq (U.start ?_)))
   refine U.ps 5 T rfl ?_
   refine U.done (C.nx (C.ret ?_))
   exact C.fin T (rs' := [.o 0, .i ((x6.1, x15, 0).2.1), .i ((x6.1, x15, 0).2.2)]) (H' := [(0, .val (.os 1 eI ((x6.1, x15, 0).1)))]) (nl' := 1) [some 2] rfl rfl (.eq rfl) ⟨⟨_, rfl, .val rfl⟩, trivial⟩ rfl rfl rfl rfl hβ ⟨(x6.1, x15, 0), hm, rfl, rfl, rfl⟩
theorem T_puzzle_Least (f : ApiFloor) (r : List Int) (l : ApiLayout) (goal : Int) (post : (Int × Int) → Prop) (hm : V_puzzle_Least f r l goal post) :
    Tr Try.prog 12 [.agg (eApiFloor f), .sl 1 eI r, .agg [.sl 1 eB l.Full, .i l.Target], .i goal] [] 0 (fun A H' k => ∃ y, post y ∧ A = (.tup [.i y.1, .i y.2]) ∧ H' = [] ∧ k = 0) := by
 refine Tr.intro (n := 24) Try.func12 rfl Try.ntmps12 rfl (fun w0 ok F β hβ => ?_)
 unfold V_puzzle_Least at hm
 refine C.seq (U.start ?_)
 refine U.e1 (o := _) rfl (.none rfl) (by exact Eff1.box rfl rfl rfl rfl rfl) ?_
 refine U.e1 (o := _) rfl (.none rfl) (by exact Eff1.box rfl rfl rfl rfl rfl) ?_
 refine U.ps 2 T rfl ?_
 refine U.done (C.nx (C.seq (U.start ?_)))
 refine U.ps 4 T rfl ?_
 refine U.e (o := _) rfl (.none rfl) (by exact Eff.c [] (v := true) (T_puzzle_distances f r l goal _ hm) en37 rfl rfl rfl (.eq rfl) trivial rfl rfl rfl rfl rfl rfl (fun _ _ => ⟨(.tup (.cons (.o _) (.cons (.v _) (.cons (.v _) .nil)))), ⟨.val (.os _ _ _ fun _ => (.cons (.v _) .nil)), trivial⟩⟩) (.inr ⟨rfl, rfl⟩) (fun _ => rfl) (fun _ => rfl) rfl) (fun x5' hm => ?_)
 obtain ⟨x5⟩ := x5'
 refine U.ps 7 T rfl ?_
 refine U.done (C.nx (C.seq (U.start ?_)))
 refine U.ps 4 T rfl ?_
 refine U.done (C.nx (C.ret ?_))
 exact C.fin T (rs' := [.i ((x5.2.1, x5.2.2).1), .i ((x5.2.1, x5.2.2).2)]) (H' := []) (nl' := 0) [] rfl rfl (.eq rfl) trivial rfl rfl rfl rfl hβ ⟨(x5.2.1, x5.2.2), hm, rfl, rfl, rfl⟩
theorem T_layout_Shifts (f : ApiFloor) (r : List Int) (l : ApiLayout) (post : (List ApiShift) → Prop) (hm : V_layout_Shifts f r l post) :
    Tr Try.prog 23 [.agg (eApiFloor f), .sl 1 eI r, .agg [.sl 1 eB l.Full, .i l.Target]] [] 0 (fun A H' k => ∃ y, post y ∧ A = (.o 0) ∧ H' = [(0, .val (.os 2 eApiShift y))] ∧ k = 1) := by
 refine Tr.intro (n := 11) Try.func23 rfl Try.ntmps23 rfl (fun w0 ok F β hβ => ?_)
 unfold V_layout_Shifts at hm
 refine C.seq (U.start ?_)
 refine U.e1 (o := _) rfl (.none rfl) (by exact Eff1.box rfl rfl rfl rfl rfl) ?_
 refine U.e1 (o := _) rfl (.none rfl) (by exact Eff1.box rfl rfl rfl rfl rfl) ?_
 refine U.ps 1 T rfl ?_
 refine U.done (C.nx (C.seq (U.start ?_)))
 refine U.ps 3 T rfl ?_
 refine U.e (o := _) rfl (.none rfl) (by exact Eff.c [] (v := true) (T_layout_shifts f r l true _ hm) en41 rfl rfl rfl (.eq rfl) trivial rfl rfl rfl rfl rfl rfl (fun _ _ => ⟨(.o _), ⟨.val (.os _ _ _ fun _ => (.cons (.v _) (.cons (.v _) .nil))), trivial⟩⟩) (.inr ⟨rfl, rfl⟩) (fun _ => rfl) (fun _ => rfl) rfl) (fun x5' hm => ?_)
 obtain ⟨x5⟩ := x5'
 refine U.ps 1 T rfl ?_
 refine U.done (C.nx (C.ret ?_))
 exact C.fin T (rs' := [.o 0]) (H' := [(0, .val (.os 2 eApiShift x5))]) (nl' := 1) [some 2] rfl rfl (.eq rfl) ⟨⟨_, rfl, .val rfl⟩, trivial⟩ rfl rfl rfl rfl hβ ⟨x5, hm, rfl, rfl, rfl⟩
theorem T_puzzle_Solve (f : ApiFloor) (r : List Int) (l : ApiLayout) (goal : Int) (post : (List ApiShift × Int) → Prop) (hm : V_puzzle_Solve f r l goal post) :
    Tr Try.prog 14 [.agg (eApiFloor f), .sl 1 eI r, .agg [.sl 1 eB l.Full, .i l.Target], .i goal] [] 0 (fun A H' k => ∃ y, post y ∧ A = (.tup [.o 0, .i y.2]) ∧ H' = [(0, .val (.os 2 eApiShift y.1))] ∧ k = 1) := by
 refine Tr.intro (n := 64) Try.func14 rfl Try.ntmps14 rfl (fun w0 ok F β hβ => ?_)
 unfold V_puzzle_Solve at hm
 refine C.seq (U.start ?_)
 refine U.e1 (o := _) rfl (.none rfl) (by exact Eff1.box rfl rfl rfl rfl rfl) ?_
 refine U.e1 (o := _) rfl (.none rfl) (by exact Eff1.box rfl rfl rfl rfl rfl) ?_
 refine U.ps 2 T rfl ?_
 refine U.done (C.nx (C.seq (U.start ?_)))
 refine U.ps 4 T rfl ?_
 refine U.e (o := _) rfl (.none rfl) (by exact Eff.c [] (v := true) (T_puzzle_distances f r l goal _ hm) en37 rfl rfl rfl (.eq rfl) trivial rfl rfl rfl rfl rfl rfl (fun _ _ => ⟨(.tup (.cons (.o _) (.cons (.v _) (.cons (.v _) .nil)))), ⟨.val (.os _ _ _ fun _ => (.cons (.v _) .nil)), trivial⟩⟩) (.inr ⟨rfl, rfl⟩) (fun _ => rfl) (fun _ => rfl) rfl) (fun x5' hm => ?_)
 obtain ⟨x5⟩ := x5'
 refine U.ps 7 T rfl ?_
 refine U.done (C.nx (C.seq (C.seq (U.start ?_))))
 refine U.ps 2 T rfl ?_
 refine U.done (C.nx ?_)
 refine C.ite rfl hm (fun hb8 hm => ?_) (fun hb8 hm => ?_)
 ·refine C.seq (U.start ?_)
  refine U.ps 3 T rfl ?_
  refine U.done (C.nx (C.ret (C.rt ?_)))
  exact C.fin T (rs' := [.o 0, .i (([], x5.2.2).2)]) (H' := [(0, .val (.os 2 eApiShift (([], x5.2.2).1)))]) (nl' := 1) [none] rfl rfl (.cons (.nilO _ _ ⟨rfl, rfl⟩ rfl) (.eq rfl)) ⟨⟨_, rfl, .nil _ _⟩, trivial⟩ rfl rfl rfl rfl hβ ⟨([], x5.2.2), hm, rfl, rfl, rfl⟩
 ·refine C.skip (C.nx (C.seq (U.start ?_)))
  refine U.ps 1 T rfl ?_
  refine U.done (C.nx (C.seq ?_))
  refine C.jn (fun (x13 : List ApiShift) => [(13, .o 0)]) (fun (x13 : List ApiShift) => [(0, .val (.os 2 eApiShift x13))]) 1 hm (fun x13 hm => ?_) (fun J14 hm hJ14 => ?_)
  ·refine C.nx (C.seq (U.start ?_))
   refine U.ps 3 T rfl ?_
   refine U.done (C.nx (C.ret ?_))
   exact C.fin T (rs' := [.o 0, .i ((x13, 0).2)]) (H' := [(0, .val (.os 2 eApiShift ((x13, 0).1)))]) (nl' := 1) [some 0] rfl rfl (.eq rfl) ⟨⟨_, rfl, .val rfl⟩, trivial⟩ rfl rfl rfl rfl hβ ⟨(x13, 0), hm, rfl, rfl, rfl⟩
  ·refine C.block ?_
   refine St.wk (C.loop (fun (s15 : List Bool × Int × Int × List ApiShift) => [(1, .sl 1 eI r), (4, .p 0 0), (6, .p 1 0), (10, .o 2), (11, .i s15.2.2.1), (13, .o 3)]) (fun (s15 : List Bool × Int × Int × List ApiShift) => [(0, .box (eApiFloor f)), (1, .box [.sl 1 eB s15.1, .i s15.2.1]), (2, .val (.os 1 eI x5.1)), (3, .val (.os 2 eApiShift s15.2.2.2))]) hm (fun s15 Y16 hm => ?_)) (Wk.mk' [some 0, some 1, some 2, none] rfl rfl ⟨⟨_, rfl, (.eq rfl)⟩, ⟨_, rfl, (.eq rfl)⟩, ⟨_, rfl, (.eq rfl)⟩, ⟨_, rfl, (.eq rfl)⟩, ⟨_, rfl, (.eq rfl)⟩, ⟨_, rfl, (.nilO _ _ ⟨rfl, rfl⟩ rfl)⟩, trivial⟩ ⟨⟨_, rfl, .box rfl (.eq rfl)⟩, ⟨_, rfl, .box rfl (.eq rfl)⟩, ⟨_, rfl, .val rfl⟩, ⟨_, rfl, .nil _ _⟩, trivial⟩ rfl)
   refine C.seq (C.seq (U.start ?_))
   refine U.ps 2 T rfl ?_
   refine U.done (C.nx ?_)
   refine C.ite rfl hm (fun hb19 hm => ?_) (fun hb19 hm => ?_)
   ·refine C.skip (C.nx (C.seq ?_))
    refine C.jn (fun (x20 : List Bool × Int × List ApiShift) => [(1, .sl 1 eI r), (4, .p 0 0), (6, .p 1 0), (10, .o 2), (11, .i s15.2.2.1), (13, .o 3)]) (fun (x20 : List Bool × Int × List ApiShift) => [(0, .box (eApiFloor f)), (1, .box [.sl 1 eB x20.1, .i x20.2.1]), (2, .val (.os 1 eI x5.1)), (3, .val (.os 2 eApiShift x20.2.2))]) 4 hm (fun x20 hm => ?_) (fun J21 hm hJ21 => ?_)
    ·refine C.nx (U.start ?_)
     refine U.ps 3 T rfl ?_
     refine U.done (C.nx ?_)
     exact St.wk (C.next hm) (Wk.mk' [some 0, some 1, some 2, some 3] rfl rfl (.eqs rfl) ⟨⟨_, rfl, .box rfl (.eq rfl)⟩, ⟨_, rfl, .box rfl (.eq rfl)⟩, ⟨_, rfl, .val rfl⟩, ⟨_, rfl, .val rfl⟩, trivial⟩ rfl)
    ·refine C.block (C.seq (U.start ?_))
     refine U.ps 3 T rfl ?_
     refine U.e (o := _) rfl (.none rfl) (by exact Eff.c [] (v := true) (T_layout_Shifts f r ({ Full := s15.1, Target := s15.2.1 : ApiLayout }) _ hm) en23 rfl rfl rfl (.eq rfl) trivial rfl rfl rfl rfl rfl rfl (fun _ _ => ⟨(.o _), ⟨.val (.os _ _ _ fun _ => (.cons (.v _) (.cons (.v _) .nil))), trivial⟩⟩) (.inr ⟨rfl, rfl⟩) (fun _ => rfl) (fun _ => rfl) rfl) (fun x24' hm => ?_)
     obtain ⟨x24⟩ := x24'
     refine U.ps 2 T rfl ?_
     refine U.done (C.nx ?_)
     refine C.jn (fun (x25 : List Bool × Int × List ApiShift) => [(1, .sl 1 eI r), (4, .p 0 0), (6, .p 1 0), (10, .o 2), (11, .i s15.2.2.1), (13, .o 3)]) (fun (x25 : List Bool × Int × List ApiShift) => [(0, .box (eApiFloor f)), (1, .box [.sl 1 eB x25.1, .i x25.2.1]), (2, .val (.os 1 eI x5.1)), (3, .val (.os 2 eApiShift x25.2.2))]) 4 hm (fun x25 hm => ?_) (fun J26 hm hJ26 => ?_)
     ·refine C.bnx ?_
      exact St.wk (hJ21 _ hm) (Wk.mk' [some 0, some 1, some 2, some 3] rfl rfl (.eqs rfl) ⟨⟨_, rfl, .box rfl (.eq rfl)⟩, ⟨_, rfl, .box rfl (.eq rfl)⟩, ⟨_, rfl, .val rfl⟩, ⟨_, rfl, .val rfl⟩, trivial⟩ rfl)
     ·refine C.block ?_
      refine St.wk (C.loop (fun (s27 : Int) => [(1, .sl 1 eI r), (4, .p 0 0), (6, .p 1 0), (10, .o 2), (11, .i s15.2.2.1), (13, .o 3), (37, .o 4), (38, .i (x24.length : Int)), (39, .i s27)]) (fun (s27 : Int) => [(0, .box (eApiFloor f)), (1, .box [.sl 1 eB s15.1, .i s15.2.1]), (2, .val (.os 1 eI x5.1)), (3, .val (.os 2 eApiShift s15.2.2.2)), (4, .val (.os 2 eApiShift x24))]) hm (fun s27 Y28 hm => ?_)) (Wk.mk' [some 0, some 1, some 2, some 3, some 4] rfl rfl (.eqs rfl) ⟨⟨_, rfl, .box rfl (.eq rfl)⟩, ⟨_, rfl, .box rfl (.eq rfl)⟩, ⟨_, rfl, .val rfl⟩, ⟨_, rfl, .val rfl⟩, ⟨_, rfl, .val rfl⟩, trivial⟩ rfl)
      refine C.seq (U.start ?_)
      refine U.ps 1 T rfl ?_
      refine U.done (C.nx (C.seq ?_))
      refine C.ite rfl hm (fun hb31 hm => ?_) (fun hb31 hm => ?_)
      ·refine C.skip (C.nx (C.seq (C.block (C.seq (U.start ?_)))))
       obtain ⟨x34, hx34, hm⟩ := hm
       refine U.r (o := _) rfl (.none rfl) rfl rfl (by exact Rd.io T rfl rfl rfl rfl rfl rfl rfl hx34) ?_
       refine U.r (o := _) rfl (.none rfl) rfl rfl (by exact Rd.le T rfl rfl rfl (idx_some hx34).2.2 rfl rfl rfl) ?_
       refine U.e1 (o := _) rfl (.none rfl) (by exact Eff1.al T rfl rfl rfl rfl) ?_
       refine U.e1 (o := _) rfl (.none rfl) (by exact Eff1.st T rfl rfl rfl rfl rfl rfl rfl rfl rfl rfl) ?_
       refine U.done (C.nx (C.seq (U.start ?_)))
       refine U.ps 2 T rfl ?_
       refine U.e (o := _) rfl (.none rfl) (by exact Eff.c [] (v := true) (T_layout_Do ({ Full := s15.1, Target := s15.2.1 : ApiLayout }) x34 _ hm) en24 rfl rfl rfl (.eq rfl) trivial rfl rfl rfl rfl rfl rfl (fun _ _ => ⟨(.tup (.cons (.agg (.cons (.o _) (.cons (.v _) .nil))) (.cons (.v _) .nil))), ⟨.val (.os _ _ _ fun _ => (.cons (.v _) .nil)), trivial⟩⟩) (.inr ⟨rfl, rfl⟩) (fun _ => rfl) (fun _ => rfl) rfl) (fun x37' hm => ?_)
       obtain ⟨x37⟩ := x37'
       refine U.ps 3 T rfl ?_
       refine U.e1 (o := _) rfl (.none rfl) (by exact Eff1.al T rfl rfl rfl rfl) ?_
       refine U.e1 (o := _) rfl (.none rfl) (by exact Eff1.st T rfl rfl rfl rfl rfl rfl rfl rfl rfl rfl) ?_
       refine U.ps 1 T rfl ?_
       refine U.done (C.nx (C.seq (U.start ?_)))
       refine U.ps 2 T rfl ?_
       refine U.e (o := _) rfl (.none rfl) (by exact Eff.c [] (v := true) (T_layout_Rank x37.1 _ hm) en25 rfl rfl rfl (.cons (.agg (.cons (.fz rfl rfl rfl (.os fun _ => .cons (.ro rfl) .nil)) (.eq rfl))) .nil) trivial rfl rfl rfl rfl rfl rfl (fun _ _ => ⟨(.v _), trivial⟩) (.inr ⟨rfl, rfl⟩) (fun _ => rfl) (fun _ => rfl) rfl) (fun x40' hm => ?_)
       obtain ⟨x40⟩ := x40'
       obtain ⟨x41, hx41, hm⟩ := hm
       refine U.r (o := _) rfl (.none rfl) rfl rfl (by exact Rd.io T rfl rfl rfl rfl rfl rfl rfl hx41) ?_
       refine U.r (o := _) rfl (.none rfl) rfl rfl (by exact Rd.le T rfl rfl rfl (idx_some hx41).2.2 rfl rfl rfl) ?_
       refine U.ps 3 T rfl ?_
       refine U.done (C.nx ?_)
       refine C.ite rfl hm (fun hb42 hm => ?_) (fun hb42 hm => ?_)
       ·refine C.seq ?_
        refine D.beg 6 [5, 7] [3] mix rfl rfl (by kernel_rfl) (by repeat (first | exact NoPanicQ.body | refine NoPanicQ.th ?_ | refine NoPanicQ.blk ?_)) (fun hQ hS ws M' => ?_)
        refine D.ps 3 [(0, []), (1, []), (4, [])] rfl hQ hS T rfl rfl (by kernel_rfl) ?_
        refine D.e1 (o := _) 2 rfl (.none rfl) (by exact Eff1.bs T (enc := eApiShift) (xs := ([x34] : List ApiShift)) rfl rfl rfl rfl rfl rfl rfl rfl rfl rfl (fun _ _ => rfl) rfl rfl) (by kernel_rfl) rfl rfl ?_
        obtain ⟨hx45, hm⟩ := hm
        refine D.e1 (o := _) 3 rfl (.none rfl) (by exact Eff1.ap T rfl rfl rfl rfl rfl rfl (.inr ⟨_, rfl, rfl⟩) rfl rfl rfl (fun _ => rfl) rfl hx45) (by kernel_rfl) rfl rfl ?_
        refine D.ps 1 [(5, [])] rfl hQ hS T rfl rfl (by kernel_rfl) ?_
        refine D.ze1 (o := _) rfl (.none rfl) (by exact Eff1.st T rfl rfl rfl rfl rfl rfl rfl rfl rfl rfl) (by kernel_rfl) (by kernel_rfl) ?_
        refine C.nx (C.exit ?_)
        refine C.bex' rfl ?_
        refine C.ex (C.ex (C.bex ?_))
        exact St.wk (hJ26 _ hm) (Wk.mk' [some 0, some 1, some 2, some 9] rfl rfl (.eqs rfl) ⟨⟨_, rfl, .box rfl (.eq rfl)⟩, ⟨_, rfl, .box rfl (.cons (.fz rfl rfl rfl (.os fun _ => .cons (.ro rfl) .nil)) (.eq rfl))⟩, ⟨_, rfl, .val rfl⟩, ⟨_, rfl, .val rfl⟩, trivial⟩ rfl)
       ·refine C.skip (C.bnx (C.nx (U.start ?_)))
        refine U.ps 2 T rfl ?_
        refine U.done (C.nx ?_)
        exact St.wk (C.next hm) (Wk.mk' [some 0, some 1, some 2, some 3, some 4] rfl rfl (.eqs rfl) ⟨⟨_, rfl, .box rfl (.eq rfl)⟩, ⟨_, rfl, .box rfl (.eq rfl)⟩, ⟨_, rfl, .val rfl⟩, ⟨_, rfl, .val rfl⟩, ⟨_, rfl, .val rfl⟩, trivial⟩ rfl)
      ·refine C.exit (C.ex (C.ex (C.bex ?_)))
       exact St.wk (hJ26 _ hm) (Wk.mk' [some 0, some 1, some 2, some 3] rfl rfl (.eqs rfl) ⟨⟨_, rfl, .box rfl (.eq rfl)⟩, ⟨_, rfl, .box rfl (.eq rfl)⟩, ⟨_, rfl, .val rfl⟩, ⟨_, rfl, .val rfl⟩, trivial⟩ rfl)
   ·refine C.exit (C.ex (C.ex (C.bex ?_)))
    exact St.wk (hJ14 _ hm) (Wk.mk' [some 3] rfl rfl (.eqs rfl) ⟨⟨_, rfl, .val rfl⟩, trivial⟩ rfl)
theorem T_taquinref25_SameShifts (a : List ApiShift) (b : List ApiShift) (post : Bool → Prop) (hm : V_taquinref25_SameShifts a b post) :
    Tr Try.prog 17 [.sl 2 eApiShift a, .sl 2 eApiShift b] [] 0 (fun A H' k => ∃ y, post y ∧ A = (.b y) ∧ H' = [] ∧ k = 0) := by
 refine Tr.intro (n := 26) Try.func17 rfl Try.ntmps17 rfl (fun w0 ok F β hβ => ?_)
 unfold V_taquinref25_SameShifts at hm
 refine C.seq (U.start ?_)
 refine U.ps 1 T rfl ?_
 refine U.done (C.nx (C.seq (C.seq (U.start ?_))))
 refine U.ps 5 T rfl ?_
 refine U.done (C.nx ?_)
 refine C.ite rfl hm (fun hb5 hm => ?_) (fun hb5 hm => ?_)
 ·refine C.seq (U.start ?_)
  refine U.ps 1 T rfl ?_
  refine U.done (C.nx (C.ret (C.rt ?_)))
  exact C.fin T (rs' := [.b false]) (H' := []) (nl' := 0) [] rfl rfl (.eq rfl) trivial rfl rfl rfl rfl hβ ⟨false, hm, rfl, rfl, rfl⟩
 ·refine C.skip (C.nx (C.seq (C.seq (U.start ?_))))
  refine U.ps 1 T rfl ?_
  refine U.done (C.nx ?_)
  refine C.jn (fun (x10 : Unit) => []) (fun (x10 : Unit) => []) 0 hm (fun x10 hm => ?_) (fun J11 hm hJ11 => ?_)
  ·refine C.nx (C.seq (U.start ?_))
   refine U.ps 1 T rfl ?_
   refine U.done (C.nx (C.ret ?_))
   exact C.fin T (rs' := [.b true]) (H' := []) (nl' := 0) [] rfl rfl (.eq rfl) trivial rfl rfl rfl rfl hβ ⟨true, hm, rfl, rfl, rfl⟩
  ·refine C.block ?_
   refine St.wk (C.loop (fun (s12 : Int) => [(0, .sl 2 eApiShift a), (1, .sl 2 eApiShift b), (5, .i s12)]) (fun (s12 : Int) => []) hm (fun s12 Y13 hm => ?_)) (Wk.mk' [] rfl rfl (.eqs rfl) trivial rfl)
   refine C.seq (C.seq (U.start ?_))
   refine U.ps 4 T rfl ?_
   refine U.done (C.nx ?_)
   refine C.ite rfl hm (fun hb16 hm => ?_) (fun hb16 hm => ?_)
   ·refine C.skip (C.nx (C.seq (C.block (C.seq ?_))))
    refine D.beg 9999 [] [] mix rfl rfl (by kernel_rfl) (by repeat (first | exact NoPanicQ.body | refine NoPanicQ.th ?_ | refine NoPanicQ.blk ?_)) (fun hQ hS ws M' => ?_)
    refine D.ps 2 [(0, []), (1, [])] rfl hQ hS T rfl rfl (by kernel_rfl) ?_
    obtain ⟨x19, hx19, hm⟩ := hm
    refine D.q (o := _) 2 [] hQ hS rfl (.none rfl) rfl rfl (by exact Rd.ix T rfl rfl rfl rfl rfl rfl hx19) rfl (by kernel_rfl) ?_
    refine D.ps 3 [(3, []), (4, []), (5, [])] rfl hQ hS T rfl rfl (by kernel_rfl) ?_
    obtain ⟨x20, hx20, hm⟩ := hm
    refine D.q (o := _) 6 [] hQ hS rfl (.none rfl) rfl rfl (by exact Rd.ix T rfl rfl rfl rfl rfl rfl hx20) rfl (by kernel_rfl) ?_
    refine D.ps 1 [(7, [])] rfl hQ hS T rfl rfl (by kernel_rfl) ?_
    refine D.q (o := _) 8 [] hQ hS rfl (.none rfl) rfl rfl (by exact Rd.nes T rfl rfl eqt51 rfl rfl rfl) rfl (by kernel_rfl) ?_
    refine D.done (by kernel_rfl) ?_
    refine C.nx ?_
    refine C.ite rfl hm (fun hb21 hm => ?_) (fun hb21 hm => ?_)
    ·refine C.seq (U.start ?_)
     refine U.ps 1 T rfl ?_
     refine U.done (C.nx (C.ret (C.brt (C.rt (C.rt (C.brt (C.rt ?_)))))))
     exact C.fin T (rs' := [.b false]) (H' := []) (nl' := 0) [] rfl rfl (.eq rfl) trivial rfl rfl rfl rfl hβ ⟨false, hm, rfl, rfl, rfl⟩
    ·refine C.skip (C.bnx (C.nx (U.start ?_)))
     refine U.ps 3 T rfl ?_
     refine U.done (C.nx ?_)
     exact St.wk (C.next hm) (Wk.mk' [] rfl rfl (.eqs rfl) trivial rfl)
   ·refine C.exit (C.ex (C.ex (C.bex ?_)))
    exact St.wk (hJ11 _ hm) (Wk.mk' [] rfl rfl trivial trivial rfl)
theorem T_taquinlaw26_small (post : Bool → Prop) (hm : V_taquinlaw26_small post) :
    Tr Try.prog 8 [] [] 0 (fun A H' k => ∃ y, post y ∧ A = (.b y) ∧ H' = [] ∧ k = 0) := by
 refine Tr.intro (n := 93) Try.func8 rfl Try.ntmps8 rfl (fun w0 ok F β hβ => ?_)
 unfold V_taquinlaw26_small at hm
 refine C.seq (U.start ?_)
 refine U.ps 1 T rfl ?_
 refine U.done (C.nx (C.seq (U.start ?_)))
 refine U.e (o := _) rfl (.none rfl) (by exact Eff.c [] (v := true) (T_taquinlaw26_deck 3 2 _ hm) en28 rfl rfl rfl (.eq rfl) trivial rfl rfl rfl rfl rfl rfl (fun _ _ => ⟨(.agg (.cons (.v _) (.cons (.v _) (.cons (.v _) (.cons (.o _) (.cons (.o _) .nil)))))), ⟨.val (.os _ _ _ fun _ => (.cons (.v _) .nil)), .val (.os _ _ _ fun _ => (.cons (.v _) .nil)), trivial⟩⟩) (.inr ⟨rfl, rfl⟩) (fun _ => rfl) (fun _ => rfl) rfl) (fun x5' hm => ?_)
 obtain ⟨x5⟩ := x5'
 refine U.e1 (o := _) rfl (.none rfl) (by exact Eff1.al T rfl rfl rfl rfl) ?_
 refine U.e1 (o := _) rfl (.none rfl) (by exact Eff1.st T rfl rfl rfl rfl rfl rfl rfl rfl rfl rfl) ?_
 refine U.done (C.nx (C.seq (U.start ?_)))
 refine U.e1 (o := _) rfl (.none rfl) (by exact Eff1.bs T (enc := eI) (xs := ([0, 1, 2, 3, 4, 5] : List Int)) rfl rfl rfl rfl rfl rfl rfl rfl rfl rfl (fun _ _ => rfl) rfl rfl) ?_
 refine U.ps 1 T rfl ?_
 refine U.done (C.nx (C.seq (U.start ?_)))
 refine U.e1 (o := _) rfl (.none rfl) (by exact Eff1.bs T (enc := eB) (xs := ([true, true, true, true, true, false] : List Bool)) rfl rfl rfl rfl rfl rfl rfl rfl rfl rfl (fun _ _ => rfl) rfl rfl) ?_
 refine U.ps 1 T rfl ?_
 refine U.done (C.nx (C.seq (U.start ?_)))
 refine U.ps 4 T rfl ?_
 refine U.e (o := _) rfl (.none rfl) (by exact Eff.c [] (v := true) (T_puzzle_Least x5 ([0, 1, 2, 3, 4, 5] : List Int) ({ Full := ([true, true, true, true, true, false] : List Bool), Target := 2 : ApiLayout }) 2 _ hm) en12 rfl rfl rfl (.cons (.agg (.cons (.eq rfl) (.cons (.eq rfl) (.cons (.eq rfl) (.cons (.fz rfl rfl rfl (.os fun _ => .cons (.ro rfl) .nil)) (.cons (.fz rfl rfl rfl (.os fun _ => .cons (.ro rfl) .nil)) .nil)))))) (.cons (.fz rfl rfl rfl (.os fun _ => .cons (.ro rfl) .nil)) (.cons (.agg (.cons (.fz rfl rfl rfl (.os fun _ => .cons (.ro rfl) .nil)) (.eq rfl))) (.eq rfl)))) trivial rfl rfl rfl rfl rfl rfl (fun _ _ => ⟨(.tup (.cons (.v _) (.cons (.v _) .nil))), trivial⟩) (.inr ⟨rfl, rfl⟩) (fun _ => rfl) (fun _ => rfl) rfl) (fun x12' hm => ?_)
 obtain ⟨x12⟩ := x12'
 refine U.ps 5 T rfl ?_
 refine U.done (C.nx (C.seq (U.start ?_)))
 refine U.e (o := _) rfl (.none rfl) (by exact Eff.c [] (v := true) (T_taquinlaw26_deck 2 1 _ hm) en28 rfl rfl rfl (.eq rfl) trivial rfl rfl rfl rfl rfl rfl (fun _ _ => ⟨(.agg (.cons (.v _) (.cons (.v _) (.cons (.v _) (.cons (.o _) (.cons (.o _) .nil)))))), ⟨.val (.os _ _ _ fun _ => (.cons (.v _) .nil)), .val (.os _ _ _ fun _ => (.cons (.v _) .nil)), trivial⟩⟩) (.inr ⟨rfl, rfl⟩) (fun _ => rfl) (fun _ => rfl) rfl) (fun x15' hm => ?_)
 obtain ⟨x15⟩ := x15'
 refine U.e1 (o := _) rfl (.none rfl) (by exact Eff1.bs T (enc := eI) (xs := ([0, 1] : List Int)) rfl rfl rfl rfl rfl rfl rfl rfl rfl rfl (fun _ _ => rfl) rfl rfl) ?_
 refine U.e1 (o := _) rfl (.none rfl) (by exact Eff1.bs T (enc := eB) (xs := ([true, true] : List Bool)) rfl rfl rfl rfl rfl rfl rfl rfl rfl rfl (fun _ _ => rfl) rfl rfl) ?_
 refine U.ps 1 T rfl ?_
 refine U.e (o := _) rfl (.none rfl) (by exact Eff.c [] (v := true) (T_puzzle_Least x15 ([0, 1] : List Int) ({ Full := ([true, true] : List Bool), Target := 0 : ApiLayout }) 1 _ hm) en12 rfl rfl rfl (.cons (.agg (.cons (.eq rfl) (.cons (.eq rfl) (.cons (.eq rfl) (.cons (.fz rfl rfl rfl (.os fun _ => .cons (.ro rfl) .nil)) (.cons (.fz rfl rfl rfl (.os fun _ => .cons (.ro rfl) .nil)) .nil)))))) (.cons (.fz rfl rfl rfl (.os fun _ => .cons (.ro rfl) .nil)) (.cons (.agg (.cons (.fz rfl rfl rfl (.os fun _ => .cons (.ro rfl) .nil)) (.eq rfl))) (.eq rfl)))) trivial rfl rfl rfl rfl rfl rfl (fun _ _ => ⟨(.tup (.cons (.v _) (.cons (.v _) .nil))), trivial⟩) (.inr ⟨rfl, rfl⟩) (fun _ => rfl) (fun _ => rfl) rfl) (fun x16' hm => ?_)
 obtain ⟨x16⟩ := x16'
 refine U.ps 5 T rfl ?_
 refine U.done (C.nx (C.seq (U.start ?_)))
 refine U.ps 4 T rfl ?_
 refine U.e (o := _) rfl (.none rfl) (by exact Eff.c [] (v := true) (T_puzzle_Least x5 ([0, 1, 2, 3, 4, 5] : List Int) ({ Full := ([true, true, true, true, true, false] : List Bool), Target := 4 : ApiLayout }) 5 _ hm) en12 rfl rfl rfl (.cons (.agg (.cons (.eq rfl) (.cons (.eq rfl) (.cons (.eq rfl) (.cons (.fz rfl rfl rfl (.os fun _ => .cons (.ro rfl) .nil)) (.cons (.fz rfl rfl rfl (.os fun _ => .cons (.ro rfl) .nil)) .nil)))))) (.cons (.fz rfl rfl rfl (.os fun _ => .cons (.ro rfl) .nil)) (.cons (.agg (.cons (.fz rfl rfl rfl (.os fun _ => .cons (.ro rfl) .nil)) (.eq rfl))) (.eq rfl)))) trivial rfl rfl rfl rfl rfl rfl (fun _ _ => ⟨(.tup (.cons (.v _) (.cons (.v _) .nil))), trivial⟩) (.inr ⟨rfl, rfl⟩) (fun _ => rfl) (fun _ => rfl) rfl) (fun x19' hm => ?_)
 obtain ⟨x19⟩ := x19'
 refine U.ps 5 T rfl ?_
 refine U.done (C.nx (C.seq (U.start ?_)))
 refine U.ps 4 T rfl ?_
 refine U.e (o := _) rfl (.none rfl) (by exact Eff.c [] (v := true) (T_puzzle_Solve x5 ([0, 1, 2, 3, 4, 5] : List Int) ({ Full := ([true, true, true, true, true, false] : List Bool), Target := 4 : ApiLayout }) 5 _ hm) en14 rfl rfl rfl (.cons (.agg (.cons (.eq rfl) (.cons (.eq rfl) (.cons (.eq rfl) (.cons (.fz rfl rfl rfl (.os fun _ => .cons (.ro rfl) .nil)) (.cons (.fz rfl rfl rfl (.os fun _ => .cons (.ro rfl) .nil)) .nil)))))) (.cons (.fz rfl rfl rfl (.os fun _ => .cons (.ro rfl) .nil)) (.cons (.agg (.cons (.fz rfl rfl rfl (.os fun _ => .cons (.ro rfl) .nil)) (.eq rfl))) (.eq rfl)))) trivial rfl rfl rfl rfl rfl rfl (fun _ _ => ⟨(.tup (.cons (.o _) (.cons (.v _) .nil))), ⟨.val (.os _ _ _ fun _ => (.cons (.v _) (.cons (.v _) .nil))), trivial⟩⟩) (.inr ⟨rfl, rfl⟩) (fun _ => rfl) (fun _ => rfl) rfl) (fun x22' hm => ?_)
 obtain ⟨x22⟩ := x22'
 refine U.ps 5 T rfl ?_
 refine U.done (C.nx (C.seq (U.start ?_)))
 refine U.ps 4 T rfl ?_
 refine U.e (o := _) rfl (.none rfl) (by exact Eff.c [] (v := true) (T_puzzle_Least x5 ([0, 1, 2, 3, 4, 5] : List Int) ({ Full := ([true, true, true, true, true, false] : List Bool), Target := 0 : ApiLayout }) 2 _ hm) en12 rfl rfl rfl (.cons (.agg (.cons (.eq rfl) (.cons (.eq rfl) (.cons (.eq rfl) (.cons (.fz rfl rfl rfl (.os fun _ => .cons (.ro rfl) .nil)) (.cons (.fz rfl rfl rfl (.os fun _ => .cons (.ro rfl) .nil)) .nil)))))) (.cons (.fz rfl rfl rfl (.os fun _ => .cons (.ro rfl) .nil)) (.cons (.agg (.cons (.fz rfl rfl rfl (.os fun _ => .cons (.ro rfl) .nil)) (.eq rfl))) (.eq rfl)))) trivial rfl rfl rfl rfl rfl rfl (fun _ _ => ⟨(.tup (.cons (.v _) (.cons (.v _) .nil))), trivial⟩) (.inr ⟨rfl, rfl⟩) (fun _ => rfl) (fun _ => rfl) rfl) (fun x25' hm => ?_)
 obtain ⟨x25⟩ := x25'
 refine U.ps 5 T rfl ?_
 refine U.done (C.nx (C.seq ?_))
 refine C.jn (fun (x26 : Bool) => [(0, .b x26)]) (fun (x26 : Bool) => []) 0 hm (fun x26 hm => ?_) (fun J27 hm hJ27 => ?_)
 ·refine C.nx (C.ret ?_)
  exact C.fin T (rs' := [.b x26]) (H' := []) (nl' := 0) [] rfl rfl (.eq rfl) trivial rfl rfl rfl rfl hβ ⟨x26, hm, rfl, rfl, rfl⟩
 ·refine U.start ?_
  refine U.ps 3 T rfl ?_
  refine hm.cs (fun hb28 hm => ?_) (fun hb28 hm => ?_)
  ·refine U.pg 2 2 true 59 hb28 T rfl rfl rfl rfl ?_
   refine U.r (o := _) rfl (.none rfl) rfl rfl (by exact Rd.pk rfl rfl hb28 rfl) ?_
   refine U.ps 1 T rfl ?_
   refine hm.cs (fun hb29 hm => ?_) (fun hb29 hm => ?_)
   ·refine U.pg 2 6 true 63 hb29 T rfl rfl rfl rfl ?_
    refine U.r (o := _) rfl (.none rfl) rfl rfl (by exact Rd.pk rfl rfl hb29 rfl) ?_
    refine U.ps 1 T rfl ?_
    refine hm.cs (fun hb30 hm => ?_) (fun hb30 hm => ?_)
    ·refine U.pg 2 10 true 67 hb30 T rfl rfl rfl rfl ?_
     refine U.r (o := _) rfl (.none rfl) rfl rfl (by exact Rd.pk rfl rfl hb30 rfl) ?_
     refine U.ps 1 T rfl ?_
     refine hm.cs (fun hb31 hm => ?_) (fun hb31 hm => ?_)
     ·refine U.pg 2 14 true 71 hb31 T rfl rfl rfl rfl ?_
      refine U.r (o := _) rfl (.none rfl) rfl rfl (by exact Rd.pk rfl rfl hb31 rfl) ?_
      refine U.ps 1 T rfl ?_
      refine hm.cs (fun hb32 hm => ?_) (fun hb32 hm => ?_)
      ·refine U.pg 2 18 true 75 hb32 T rfl rfl rfl rfl ?_
       refine U.e1 (o := _) rfl (.take 18 true 75 _ hb32 rfl rfl rfl) (by exact Eff1.bs T (enc := eApiShift) (xs := ([({ From := 4, To := 5 : ApiShift })] : List ApiShift)) rfl rfl rfl rfl rfl rfl rfl rfl rfl rfl (fun _ _ => rfl) rfl rfl) ?_
       refine U.e (o := _) rfl (.take 18 true 75 _ hb32 rfl rfl rfl) (by exact Eff.c [] (v := true) (T_taquinref25_SameShifts x22.1 ([({ From := 4, To := 5 : ApiShift })] : List ApiShift) _ hm) en17 rfl rfl rfl (.cons (.fz rfl rfl rfl (.os fun _ => .cons (.ro rfl) (.cons (.ro rfl) .nil))) (.cons (.fz rfl rfl rfl (.os fun _ => .cons (.ro rfl) (.cons (.ro rfl) .nil))) .nil)) trivial rfl rfl rfl rfl rfl rfl (fun _ _ => ⟨(.v _), trivial⟩) (.inr ⟨rfl, rfl⟩) (fun _ => rfl) (fun _ => rfl) rfl) (fun x33' hm => ?_)
       obtain ⟨x33⟩ := x33'
       refine U.r (o := _) rfl (.none rfl) rfl rfl (by exact Rd.pk rfl rfl hb32 rfl) ?_
       refine U.ps 1 T rfl ?_
       refine hm.cs (fun hb34 hm => ?_) (fun hb34 hm => ?_)
       ·refine U.pg 2 24 true 81 hb34 T rfl rfl rfl rfl ?_
        refine U.r (o := _) rfl (.none rfl) rfl rfl (by exact Rd.pk rfl rfl hb34 rfl) ?_
        refine U.ps 1 T rfl ?_
        refine hm.cs (fun hb35 hm => ?_) (fun hb35 hm => ?_)
        ·refine U.pg 2 28 true 85 hb35 T rfl rfl rfl rfl ?_
         refine U.r (o := _) rfl (.none rfl) rfl rfl (by exact Rd.pk rfl rfl hb35 rfl) ?_
         refine U.ps 1 T rfl ?_
         refine hm.cs (fun hb36 hm => ?_) (fun hb36 hm => ?_)
         ·refine U.pg 2 32 true 89 hb36 T rfl rfl rfl rfl ?_
          refine U.r (o := _) rfl (.none rfl) rfl rfl (by exact Rd.pk rfl rfl hb36 rfl) ?_
          refine U.ps 1 T rfl ?_
          refine U.done ?_
          exact St.wk (hJ27 _ hm) (Wk.mk' [] rfl rfl (.eqs rfl) trivial rfl)
         ·refine U.sks 2 32 true 89 hb36 rfl rfl rfl ?_
          refine U.r (o := _) rfl (.none rfl) rfl rfl (by exact Rd.pk' rfl rfl hb36 rfl) ?_
          refine U.ps 1 T rfl ?_
          refine U.done ?_
          exact St.wk (hJ27 _ hm) (Wk.mk' [] rfl rfl (.eqs rfl) trivial rfl)
        ·refine U.sks 2 28 true 85 hb35 rfl rfl rfl ?_
         refine U.r (o := _) rfl (.none rfl) rfl rfl (by exact Rd.pk' rfl rfl hb35 rfl) ?_
         refine U.ps 1 T rfl ?_
         refine U.sks 2 32 true 89 rfl rfl rfl rfl ?_
         refine U.r (o := _) rfl (.none rfl) rfl rfl (by exact Rd.pk' rfl rfl rfl rfl) ?_
         refine U.ps 1 T rfl ?_
         refine U.done ?_
         exact St.wk (hJ27 _ hm) (Wk.mk' [] rfl rfl (.eqs rfl) trivial rfl)
       ·refine U.sks 2 24 true 81 hb34 rfl rfl rfl ?_
        refine U.r (o := _) rfl (.none rfl) rfl rfl (by exact Rd.pk' rfl rfl hb34 rfl) ?_
        refine U.ps 1 T rfl ?_
        refine U.sks 2 28 true 85 rfl rfl rfl rfl ?_
        refine U.r (o := _) rfl (.none rfl) rfl rfl (by exact Rd.pk' rfl rfl rfl rfl) ?_
        refine U.ps 1 T rfl ?_
        refine U.sks 2 32 true 89 rfl rfl rfl rfl ?_
        refine U.r (o := _) rfl (.none rfl) rfl rfl (by exact Rd.pk' rfl rfl rfl rfl) ?_
        refine U.ps 1 T rfl ?_
        refine U.done ?_
        exact St.wk (hJ27 _ hm) (Wk.mk' [] rfl rfl (.eqs rfl) trivial rfl)
      ·refine U.sks 4 18 true 75 hb32 rfl rfl rfl ?_
       refine U.r (o := _) rfl (.none rfl) rfl rfl (by exact Rd.pk' rfl rfl hb32 rfl) ?_
       refine U.ps 1 T rfl ?_
       refine U.sks 2 24 true 81 rfl rfl rfl rfl ?_
       refine U.r (o := _) rfl (.none rfl) rfl rfl (by exact Rd.pk' rfl rfl rfl rfl) ?_
       refine U.ps 1 T rfl ?_
       refine U.sks 2 28 true 85 rfl rfl rfl rfl ?_
       refine U.r (o := _) rfl (.none rfl) rfl rfl (by exact Rd.pk' rfl rfl rfl rfl) ?_
       refine U.ps 1 T rfl ?_
       refine U.sks 2 32 true 89 rfl rfl rfl rfl ?_
       refine U.r (o := _) rfl (.none rfl) rfl rfl (by exact Rd.pk' rfl rfl rfl rfl) ?_
       refine U.ps 1 T rfl ?_
       refine U.done ?_
       exact St.wk (hJ27 _ hm) (Wk.mk' [] rfl rfl (.eqs rfl) trivial rfl)
     ·refine U.sks 2 14 true 71 hb31 rfl rfl rfl ?_
      refine U.r (o := _) rfl (.none rfl) rfl rfl (by exact Rd.pk' rfl rfl hb31 rfl) ?_
      refine U.ps 1 T rfl ?_
      refine U.sks 4 18 true 75 rfl rfl rfl rfl ?_
      refine U.r (o := _) rfl (.none rfl) rfl rfl (by exact Rd.pk' rfl rfl rfl rfl) ?_
      refine U.ps 1 T rfl ?_
      refine U.sks 2 24 true 81 rfl rfl rfl rfl ?_
      refine U.r (o := _) rfl (.none rfl) rfl rfl (by exact Rd.pk' rfl rfl rfl rfl) ?_
      refine U.ps 1 T rfl ?_
      refine U.sks 2 28 true 85 rfl rfl rfl rfl ?_
      refine U.r (o := _) rfl (.none rfl) rfl rfl (by exact Rd.pk' rfl rfl rfl rfl) ?_
      refine U.ps 1 T rfl ?_
      refine U.sks 2 32 true 89 rfl rfl rfl rfl ?_
      refine U.r (o := _) rfl (.none rfl) rfl rfl (by exact Rd.pk' rfl rfl rfl rfl) ?_
      refine U.ps 1 T rfl ?_
      refine U.done ?_
      exact St.wk (hJ27 _ hm) (Wk.mk' [] rfl rfl (.eqs rfl) trivial rfl)
    ·refine U.sks 2 10 true 67 hb30 rfl rfl rfl ?_
     refine U.r (o := _) rfl (.none rfl) rfl rfl (by exact Rd.pk' rfl rfl hb30 rfl) ?_
     refine U.ps 1 T rfl ?_
     refine U.sks 2 14 true 71 rfl rfl rfl rfl ?_
     refine U.r (o := _) rfl (.none rfl) rfl rfl (by exact Rd.pk' rfl rfl rfl rfl) ?_
     refine U.ps 1 T rfl ?_
     refine U.sks 4 18 true 75 rfl rfl rfl rfl ?_
     refine U.r (o := _) rfl (.none rfl) rfl rfl (by exact Rd.pk' rfl rfl rfl rfl) ?_
     refine U.ps 1 T rfl ?_
     refine U.sks 2 24 true 81 rfl rfl rfl rfl ?_
     refine U.r (o := _) rfl (.none rfl) rfl rfl (by exact Rd.pk' rfl rfl rfl rfl) ?_
     refine U.ps 1 T rfl ?_
     refine U.sks 2 28 true 85 rfl rfl rfl rfl ?_
     refine U.r (o := _) rfl (.none rfl) rfl rfl (by exact Rd.pk' rfl rfl rfl rfl) ?_
     refine U.ps 1 T rfl ?_
     refine U.sks 2 32 true 89 rfl rfl rfl rfl ?_
     refine U.r (o := _) rfl (.none rfl) rfl rfl (by exact Rd.pk' rfl rfl rfl rfl) ?_
     refine U.ps 1 T rfl ?_
     refine U.done ?_
     exact St.wk (hJ27 _ hm) (Wk.mk' [] rfl rfl (.eqs rfl) trivial rfl)
   ·refine U.sks 2 6 true 63 hb29 rfl rfl rfl ?_
    refine U.r (o := _) rfl (.none rfl) rfl rfl (by exact Rd.pk' rfl rfl hb29 rfl) ?_
    refine U.ps 1 T rfl ?_
    refine U.sks 2 10 true 67 rfl rfl rfl rfl ?_
    refine U.r (o := _) rfl (.none rfl) rfl rfl (by exact Rd.pk' rfl rfl rfl rfl) ?_
    refine U.ps 1 T rfl ?_
    refine U.sks 2 14 true 71 rfl rfl rfl rfl ?_
    refine U.r (o := _) rfl (.none rfl) rfl rfl (by exact Rd.pk' rfl rfl rfl rfl) ?_
    refine U.ps 1 T rfl ?_
    refine U.sks 4 18 true 75 rfl rfl rfl rfl ?_
    refine U.r (o := _) rfl (.none rfl) rfl rfl (by exact Rd.pk' rfl rfl rfl rfl) ?_
    refine U.ps 1 T rfl ?_
    refine U.sks 2 24 true 81 rfl rfl rfl rfl ?_
    refine U.r (o := _) rfl (.none rfl) rfl rfl (by exact Rd.pk' rfl rfl rfl rfl) ?_
    refine U.ps 1 T rfl ?_
    refine U.sks 2 28 true 85 rfl rfl rfl rfl ?_
    refine U.r (o := _) rfl (.none rfl) rfl rfl (by exact Rd.pk' rfl rfl rfl rfl) ?_
    refine U.ps 1 T rfl ?_
    refine U.sks 2 32 true 89 rfl rfl rfl rfl ?_
    refine U.r (o := _) rfl (.none rfl) rfl rfl (by exact Rd.pk' rfl rfl rfl rfl) ?_
    refine U.ps 1 T rfl ?_
    refine U.done ?_
    exact St.wk (hJ27 _ hm) (Wk.mk' [] rfl rfl (.eqs rfl) trivial rfl)
  ·refine U.sks 2 2 true 59 hb28 rfl rfl rfl ?_
   refine U.r (o := _) rfl (.none rfl) rfl rfl (by exact Rd.pk' rfl rfl hb28 rfl) ?_
   refine U.ps 1 T rfl ?_
   refine U.sks 2 6 true 63 rfl rfl rfl rfl ?_
   refine U.r (o := _) rfl (.none rfl) rfl rfl (by exact Rd.pk' rfl rfl rfl rfl) ?_
   refine U.ps 1 T rfl ?_
   refine U.sks 2 10 true 67 rfl rfl rfl rfl ?_
   refine U.r (o := _) rfl (.none rfl) rfl rfl (by exact Rd.pk' rfl rfl rfl rfl) ?_
   refine U.ps 1 T rfl ?_
   refine U.sks 2 14 true 71 rfl rfl rfl rfl ?_
   refine U.r (o := _) rfl (.none rfl) rfl rfl (by exact Rd.pk' rfl rfl rfl rfl) ?_
   refine U.ps 1 T rfl ?_
   refine U.sks 4 18 true 75 rfl rfl rfl rfl ?_
   refine U.r (o := _) rfl (.none rfl) rfl rfl (by exact Rd.pk' rfl rfl rfl rfl) ?_
   refine U.ps 1 T rfl ?_
   refine U.sks 2 24 true 81 rfl rfl rfl rfl ?_
   refine U.r (o := _) rfl (.none rfl) rfl rfl (by exact Rd.pk' rfl rfl rfl rfl) ?_
   refine U.ps 1 T rfl ?_
   refine U.sks 2 28 true 85 rfl rfl rfl rfl ?_
   refine U.r (o := _) rfl (.none rfl) rfl rfl (by exact Rd.pk' rfl rfl rfl rfl) ?_
   refine U.ps 1 T rfl ?_
   refine U.sks 2 32 true 89 rfl rfl rfl rfl ?_
   refine U.r (o := _) rfl (.none rfl) rfl rfl (by exact Rd.pk' rfl rfl rfl rfl) ?_
   refine U.ps 1 T rfl ?_
   refine U.done ?_
   exact St.wk (hJ27 _ hm) (Wk.mk' [] rfl rfl (.eqs rfl) trivial rfl)
theorem T_taquinref07_Few (f : ApiFloor) (n : Int) (post : Bool → Prop) (hm : V_taquinref07_Few f n post) :
    Tr Try.prog 18 [.agg (eApiFloor f), .i n] [] 0 (fun A H' k => ∃ y, post y ∧ A = (.b y) ∧ H' = [] ∧ k = 0) := by
 refine Tr.intro (n := 17) Try.func18 rfl Try.ntmps18 rfl (fun w0 ok F β hβ => ?_)
 unfold V_taquinref07_Few at hm
 refine C.seq (U.start ?_)
 refine U.e1 (o := _) rfl (.none rfl) (by exact Eff1.box rfl rfl rfl rfl rfl) ?_
 refine U.ps 1 T rfl ?_
 refine U.done (C.nx (C.seq ?_))
 refine C.jn (fun (x3 : Bool) => [(4, .b x3)]) (fun (x3 : Bool) => []) 0 hm (fun x3 hm => ?_) (fun J4 hm hJ4 => ?_)
 ·refine C.nx (C.ret ?_)
  exact C.fin T (rs' := [.b x3]) (H' := []) (nl' := 0) [] rfl rfl (.eq rfl) trivial rfl rfl rfl rfl hβ ⟨x3, hm, rfl, rfl, rfl⟩
 ·refine U.start ?_
  refine U.ps 6 T rfl ?_
  refine hm.cs (fun hb5 hm => ?_) (fun hb5 hm => ?_)
  ·refine U.pg 5 5 true 10 hb5 T rfl rfl rfl rfl ?_
   refine U.r (o := _) rfl (.none rfl) rfl rfl (by exact Rd.pk rfl rfl hb5 rfl) ?_
   refine U.ps 1 T rfl ?_
   refine U.done ?_
   exact St.wk (hJ4 _ hm) (Wk.mk' [] rfl rfl (.eqs rfl) trivial rfl)
  ·refine U.sks 5 5 true 10 hb5 rfl rfl rfl ?_
   refine U.r (o := _) rfl (.none rfl) rfl rfl (by exact Rd.pk' rfl rfl hb5 rfl) ?_
   refine U.ps 1 T rfl ?_
   refine U.done ?_
   exact St.wk (hJ4 _ hm) (Wk.mk' [] rfl rfl (.eqs rfl) trivial rfl)
theorem T_taquinref07_Right (f : ApiFloor) (post : Bool → Prop) (hm : V_taquinref07_Right f post) :
    Tr Try.prog 19 [.agg (eApiFloor f)] [] 0 (fun A H' k => ∃ y, post y ∧ A = (.b y) ∧ H' = [] ∧ k = 0) := by
 refine Tr.intro (n := 92) Try.func19 rfl Try.ntmps19 rfl (fun w0 ok F β hβ => ?_)
 unfold V_taquinref07_Right at hm
 refine C.seq (U.start ?_)
 refine U.e1 (o := _) rfl (.none rfl) (by exact Eff1.box rfl rfl rfl rfl rfl) ?_
 refine U.ps 1 T rfl ?_
 refine U.done (C.nx (C.seq (C.seq ?_)))
 refine C.jn (fun (x3 : Bool) => [(1, .p 0 0), (32, .b x3)]) (fun (x3 : Bool) => [(0, .box (eApiFloor f))]) 1 hm (fun x3 hm => ?_) (fun J4 hm hJ4 => ?_)
 ·refine C.nx ?_
  refine C.ite rfl hm (fun hb10 hm => ?_) (fun hb10 hm => ?_)
  ·refine C.seq (U.start ?_)
   refine U.ps 1 T rfl ?_
   refine U.done (C.nx (C.ret (C.rt ?_)))
   exact C.fin T (rs' := [.b false]) (H' := []) (nl' := 0) [] rfl rfl (.eq rfl) trivial rfl rfl rfl rfl hβ ⟨false, hm, rfl, rfl, rfl⟩
  ·refine C.skip (C.nx (C.seq (U.start ?_)))
   refine U.ps 9 T rfl ?_
   refine U.done (C.nx (C.seq (C.seq ?_)))
   refine C.jn (fun (x15 : Bool) => [(1, .p 0 0), (3, .i (w64 ((w64 (f.W * f.H)) * f.D))), (56, .b x15)]) (fun (x15 : Bool) => [(0, .box (eApiFloor f))]) 1 hm (fun x15 hm => ?_) (fun J16 hm hJ16 => ?_)
   ·refine C.nx ?_
    refine C.ite rfl hm (fun hb19 hm => ?_) (fun hb19 hm => ?_)
    ·refine C.seq (U.start ?_)
     refine U.ps 1 T rfl ?_
     refine U.done (C.nx (C.ret (C.rt ?_)))
     exact C.fin T (rs' := [.b false]) (H' := []) (nl' := 0) [] rfl rfl (.eq rfl) trivial rfl rfl rfl rfl hβ ⟨false, hm, rfl, rfl, rfl⟩
    ·refine C.skip (C.nx (C.seq (C.seq (U.start ?_))))
     refine U.ps 1 T rfl ?_
     refine U.done (C.nx ?_)
     refine C.jn (fun (x24 : Unit) => []) (fun (x24 : Unit) => []) 0 hm (fun x24 hm => ?_) (fun J25 hm hJ25 => ?_)
     ·refine C.nx (C.seq (U.start ?_))
      refine U.ps 1 T rfl ?_
      refine U.done (C.nx (C.ret ?_))
      exact C.fin T (rs' := [.b true]) (H' := []) (nl' := 0) [] rfl rfl (.eq rfl) trivial rfl rfl rfl rfl hβ ⟨true, hm, rfl, rfl, rfl⟩
     ·refine C.block ?_
      refine St.wk (C.loop (fun (s26 : Int) => [(1, .p 0 0), (3, .i (w64 ((w64 (f.W * f.H)) * f.D))), (4, .i s26)]) (fun (s26 : Int) => [(0, .box (eApiFloor f))]) hm (fun s26 Y27 hm => ?_)) (Wk.mk' [some 0] rfl rfl (.eqs rfl) ⟨⟨_, rfl, .box rfl (.eq rfl)⟩, trivial⟩ rfl)
      refine C.seq (C.seq (U.start ?_))
      refine U.ps 3 T rfl ?_
      refine U.done (C.nx ?_)
      refine C.ite rfl hm (fun hb30 hm => ?_) (fun hb30 hm => ?_)
      ·refine C.skip (C.nx (C.seq (C.block (C.seq ?_))))
       refine C.jn (fun (x31 : Bool) => [(1, .p 0 0), (3, .i (w64 ((w64 (f.W * f.H)) * f.D))), (4, .i s26), (91, .b x31)]) (fun (x31 : Bool) => [(0, .box (eApiFloor f))]) 1 hm (fun x31 hm => ?_) (fun J32 hm hJ32 => ?_)
       ·refine C.nx ?_
        refine C.ite rfl hm (fun hb38 hm => ?_) (fun hb38 hm => ?_)
        ·refine C.seq (U.start ?_)
         refine U.ps 1 T rfl ?_
         refine U.done (C.nx (C.ret (C.brt (C.rt (C.rt (C.brt (C.rt ?_)))))))
         exact C.fin T (rs' := [.b false]) (H' := []) (nl' := 0) [] rfl rfl (.eq rfl) trivial rfl rfl rfl rfl hβ ⟨false, hm, rfl, rfl, rfl⟩
        ·refine C.skip (C.bnx (C.nx (U.start ?_)))
         refine U.ps 3 T rfl ?_
         refine U.done (C.nx ?_)
         exact St.wk (C.next hm) (Wk.mk' [some 0] rfl rfl (.eqs rfl) ⟨⟨_, rfl, .box rfl (.eq rfl)⟩, trivial⟩ rfl)
       ·refine U.start ?_
        refine U.ps 3 T rfl ?_
        obtain ⟨x33, hx33, hm⟩ := hm
        refine U.r (o := _) rfl (.none rfl) rfl rfl (by exact Rd.ix T rfl rfl rfl rfl rfl rfl hx33) ?_
        refine U.ps 3 T rfl ?_
        refine hm.cs (fun hb34 hm => ?_) (fun hb34 hm => ?_)
        ·refine U.sks 6 6 false 68 hb34 rfl rfl rfl ?_
         refine U.r (o := _) rfl (.none rfl) rfl rfl (by exact Rd.pk rfl rfl hb34 rfl) ?_
         refine U.ps 1 T rfl ?_
         refine U.sks 6 14 false 76 rfl rfl rfl rfl ?_
         refine U.r (o := _) rfl (.none rfl) rfl rfl (by exact Rd.pk rfl rfl rfl rfl) ?_
         refine U.ps 1 T rfl ?_
         refine U.sks 6 22 false 84 rfl rfl rfl rfl ?_
         refine U.r (o := _) rfl (.none rfl) rfl rfl (by exact Rd.pk rfl rfl rfl rfl) ?_
         refine U.done ?_
         exact St.wk (hJ32 _ hm) (Wk.mk' [some 0] rfl rfl (.eqs rfl) ⟨⟨_, rfl, .box rfl (.eq rfl)⟩, trivial⟩ rfl)
        ·refine U.pg 3 6 false 68 hb34 T rfl rfl rfl rfl ?_
         refine U.r (o := _) rfl (.take 6 false 68 _ hb34 rfl rfl rfl) rfl rfl (by exact Rd.ix T rfl rfl rfl rfl rfl rfl hx33) ?_
         refine U.pg 2 6 false 68 hb34 T rfl rfl rfl rfl ?_
         refine U.r (o := _) rfl (.none rfl) rfl rfl (by exact Rd.pk' rfl rfl hb34 rfl) ?_
         refine U.ps 1 T rfl ?_
         refine hm.cs (fun hb35 hm => ?_) (fun hb35 hm => ?_)
         ·refine U.sks 6 14 false 76 hb35 rfl rfl rfl ?_
          refine U.r (o := _) rfl (.none rfl) rfl rfl (by exact Rd.pk rfl rfl hb35 rfl) ?_
          refine U.ps 1 T rfl ?_
          refine U.sks 6 22 false 84 rfl rfl rfl rfl ?_
          refine U.r (o := _) rfl (.none rfl) rfl rfl (by exact Rd.pk rfl rfl rfl rfl) ?_
          refine U.done ?_
          exact St.wk (hJ32 _ hm) (Wk.mk' [some 0] rfl rfl (.eqs rfl) ⟨⟨_, rfl, .box rfl (.eq rfl)⟩, trivial⟩ rfl)
         ·refine U.pg 3 14 false 76 hb35 T rfl rfl rfl rfl ?_
          obtain ⟨x36, hx36, hm⟩ := hm
          refine U.r (o := _) rfl (.take 14 false 76 _ hb35 rfl rfl rfl) rfl rfl (by exact Rd.ix T rfl rfl rfl rfl rfl rfl hx36) ?_
          refine U.pg 2 14 false 76 hb35 T rfl rfl rfl rfl ?_
          refine U.r (o := _) rfl (.none rfl) rfl rfl (by exact Rd.pk' rfl rfl hb35 rfl) ?_
          refine U.ps 1 T rfl ?_
          refine hm.cs (fun hb37 hm => ?_) (fun hb37 hm => ?_)
          ·refine U.sks 6 22 false 84 hb37 rfl rfl rfl ?_
           refine U.r (o := _) rfl (.none rfl) rfl rfl (by exact Rd.pk rfl rfl hb37 rfl) ?_
           refine U.done ?_
           exact St.wk (hJ32 _ hm) (Wk.mk' [some 0] rfl rfl (.eqs rfl) ⟨⟨_, rfl, .box rfl (.eq rfl)⟩, trivial⟩ rfl)
          ·refine U.pg 3 22 false 84 hb37 T rfl rfl rfl rfl ?_
           refine U.r (o := _) rfl (.take 22 false 84 _ hb37 rfl rfl rfl) rfl rfl (by exact Rd.ix T rfl rfl rfl rfl rfl rfl hx36) ?_
           refine U.pg 2 22 false 84 hb37 T rfl rfl rfl rfl ?_
           refine U.r (o := _) rfl (.none rfl) rfl rfl (by exact Rd.pk' rfl rfl hb37 rfl) ?_
           refine U.done ?_
           exact St.wk (hJ32 _ hm) (Wk.mk' [some 0] rfl rfl (.eqs rfl) ⟨⟨_, rfl, .box rfl (.eq rfl)⟩, trivial⟩ rfl)
      ·refine C.exit (C.ex (C.ex (C.bex ?_)))
       exact St.wk (hJ25 _ hm) (Wk.mk' [] rfl rfl trivial trivial rfl)
   ·refine U.start ?_
    refine U.ps 3 T rfl ?_
    refine hm.cs (fun hb17 hm => ?_) (fun hb17 hm => ?_)
    ·refine U.sks 5 2 false 43 hb17 rfl rfl rfl ?_
     refine U.r (o := _) rfl (.none rfl) rfl rfl (by exact Rd.pk rfl rfl hb17 rfl) ?_
     refine U.ps 1 T rfl ?_
     refine U.sks 5 9 false 50 rfl rfl rfl rfl ?_
     refine U.r (o := _) rfl (.none rfl) rfl rfl (by exact Rd.pk rfl rfl rfl rfl) ?_
     refine U.done ?_
     exact St.wk (hJ16 _ hm) (Wk.mk' [some 0] rfl rfl (.eqs rfl) ⟨⟨_, rfl, .box rfl (.eq rfl)⟩, trivial⟩ rfl)
    ·refine U.pg 5 2 false 43 hb17 T rfl rfl rfl rfl ?_
     refine U.r (o := _) rfl (.none rfl) rfl rfl (by exact Rd.pk' rfl rfl hb17 rfl) ?_
     refine U.ps 1 T rfl ?_
     refine hm.cs (fun hb18 hm => ?_) (fun hb18 hm => ?_)
     ·refine U.sks 5 9 false 50 hb18 rfl rfl rfl ?_
      refine U.r (o := _) rfl (.none rfl) rfl rfl (by exact Rd.pk rfl rfl hb18 rfl) ?_
      refine U.done ?_
      exact St.wk (hJ16 _ hm) (Wk.mk' [some 0] rfl rfl (.eqs rfl) ⟨⟨_, rfl, .box rfl (.eq rfl)⟩, trivial⟩ rfl)
     ·refine U.pg 5 9 false 50 hb18 T rfl rfl rfl rfl ?_
      refine U.r (o := _) rfl (.none rfl) rfl rfl (by exact Rd.pk' rfl rfl hb18 rfl) ?_
      refine U.done ?_
      exact St.wk (hJ16 _ hm) (Wk.mk' [some 0] rfl rfl (.eqs rfl) ⟨⟨_, rfl, .box rfl (.eq rfl)⟩, trivial⟩ rfl)
 ·refine U.start ?_
  refine U.ps 4 T rfl ?_
  refine hm.cs (fun hb5 hm => ?_) (fun hb5 hm => ?_)
  ·refine U.sks 3 3 false 8 hb5 rfl rfl rfl ?_
   refine U.r (o := _) rfl (.none rfl) rfl rfl (by exact Rd.pk rfl rfl hb5 rfl) ?_
   refine U.ps 1 T rfl ?_
   refine U.sks 3 8 false 13 rfl rfl rfl rfl ?_
   refine U.r (o := _) rfl (.none rfl) rfl rfl (by exact Rd.pk rfl rfl rfl rfl) ?_
   refine U.ps 1 T rfl ?_
   refine U.sks 3 13 false 18 rfl rfl rfl rfl ?_
   refine U.r (o := _) rfl (.none rfl) rfl rfl (by exact Rd.pk rfl rfl rfl rfl) ?_
   refine U.ps 1 T rfl ?_
   refine U.sks 3 18 false 23 rfl rfl rfl rfl ?_
   refine U.r (o := _) rfl (.none rfl) rfl rfl (by exact Rd.pk rfl rfl rfl rfl) ?_
   refine U.ps 1 T rfl ?_
   refine U.sks 3 23 false 28 rfl rfl rfl rfl ?_
   refine U.r (o := _) rfl (.none rfl) rfl rfl (by exact Rd.pk rfl rfl rfl rfl) ?_
   refine U.done ?_
   exact St.wk (hJ4 _ hm) (Wk.mk' [some 0] rfl rfl (.eqs rfl) ⟨⟨_, rfl, .box rfl (.eq rfl)⟩, trivial⟩ rfl)
  ·refine U.pg 3 3 false 8 hb5 T rfl rfl rfl rfl ?_
   refine U.r (o := _) rfl (.none rfl) rfl rfl (by exact Rd.pk' rfl rfl hb5 rfl) ?_
   refine U.ps 1 T rfl ?_
   refine hm.cs (fun hb6 hm => ?_) (fun hb6 hm => ?_)
   ·refine U.sks 3 8 false 13 hb6 rfl rfl rfl ?_
    refine U.r (o := _) rfl (.none rfl) rfl rfl (by exact Rd.pk rfl rfl hb6 rfl) ?_
    refine U.ps 1 T rfl ?_
    refine U.sks 3 13 false 18 rfl rfl rfl rfl ?_
    refine U.r (o := _) rfl (.none rfl) rfl rfl (by exact Rd.pk rfl rfl rfl rfl) ?_
    refine U.ps 1 T rfl ?_
    refine U.sks 3 18 false 23 rfl rfl rfl rfl ?_
    refine U.r (o := _) rfl (.none rfl) rfl rfl (by exact Rd.pk rfl rfl rfl rfl) ?_
    refine U.ps 1 T rfl ?_
    refine U.sks 3 23 false 28 rfl rfl rfl rfl ?_
    refine U.r (o := _) rfl (.none rfl) rfl rfl (by exact Rd.pk rfl rfl rfl rfl) ?_
    refine U.done ?_
    exact St.wk (hJ4 _ hm) (Wk.mk' [some 0] rfl rfl (.eqs rfl) ⟨⟨_, rfl, .box rfl (.eq rfl)⟩, trivial⟩ rfl)
   ·refine U.pg 3 8 false 13 hb6 T rfl rfl rfl rfl ?_
    refine U.r (o := _) rfl (.none rfl) rfl rfl (by exact Rd.pk' rfl rfl hb6 rfl) ?_
    refine U.ps 1 T rfl ?_
    refine hm.cs (fun hb7 hm => ?_) (fun hb7 hm => ?_)
    ·refine U.sks 3 13 false 18 hb7 rfl rfl rfl ?_
     refine U.r (o := _) rfl (.none rfl) rfl rfl (by exact Rd.pk rfl rfl hb7 rfl) ?_
     refine U.ps 1 T rfl ?_
     refine U.sks 3 18 false 23 rfl rfl rfl rfl ?_
     refine U.r (o := _) rfl (.none rfl) rfl rfl (by exact Rd.pk rfl rfl rfl rfl) ?_
     refine U.ps 1 T rfl ?_
     refine U.sks 3 23 false 28 rfl rfl rfl rfl ?_
     refine U.r (o := _) rfl (.none rfl) rfl rfl (by exact Rd.pk rfl rfl rfl rfl) ?_
     refine U.done ?_
     exact St.wk (hJ4 _ hm) (Wk.mk' [some 0] rfl rfl (.eqs rfl) ⟨⟨_, rfl, .box rfl (.eq rfl)⟩, trivial⟩ rfl)
    ·refine U.pg 3 13 false 18 hb7 T rfl rfl rfl rfl ?_
     refine U.r (o := _) rfl (.none rfl) rfl rfl (by exact Rd.pk' rfl rfl hb7 rfl) ?_
     refine U.ps 1 T rfl ?_
     refine hm.cs (fun hb8 hm => ?_) (fun hb8 hm => ?_)
     ·refine U.sks 3 18 false 23 hb8 rfl rfl rfl ?_
      refine U.r (o := _) rfl (.none rfl) rfl rfl (by exact Rd.pk rfl rfl hb8 rfl) ?_
      refine U.ps 1 T rfl ?_
      refine U.sks 3 23 false 28 rfl rfl rfl rfl ?_
      refine U.r (o := _) rfl (.none rfl) rfl rfl (by exact Rd.pk rfl rfl rfl rfl) ?_
      refine U.done ?_
      exact St.wk (hJ4 _ hm) (Wk.mk' [some 0] rfl rfl (.eqs rfl) ⟨⟨_, rfl, .box rfl (.eq rfl)⟩, trivial⟩ rfl)
     ·refine U.pg 3 18 false 23 hb8 T rfl rfl rfl rfl ?_
      refine U.r (o := _) rfl (.none rfl) rfl rfl (by exact Rd.pk' rfl rfl hb8 rfl) ?_
      refine U.ps 1 T rfl ?_
      refine hm.cs (fun hb9 hm => ?_) (fun hb9 hm => ?_)
      ·refine U.sks 3 23 false 28 hb9 rfl rfl rfl ?_
       refine U.r (o := _) rfl (.none rfl) rfl rfl (by exact Rd.pk rfl rfl hb9 rfl) ?_
       refine U.done ?_
       exact St.wk (hJ4 _ hm) (Wk.mk' [some 0] rfl rfl (.eqs rfl) ⟨⟨_, rfl, .box rfl (.eq rfl)⟩, trivial⟩ rfl)
      ·refine U.pg 3 23 false 28 hb9 T rfl rfl rfl rfl ?_
       refine U.r (o := _) rfl (.none rfl) rfl rfl (by exact Rd.pk' rfl rfl hb9 rfl) ?_
       refine U.done ?_
       exact St.wk (hJ4 _ hm) (Wk.mk' [some 0] rfl rfl (.eqs rfl) ⟨⟨_, rfl, .box rfl (.eq rfl)⟩, trivial⟩ rfl)
theorem T_taquinref08_Right (r : List Int) (post : Bool → Prop) (hm : V_taquinref08_Right r post) :
    Tr Try.prog 20 [.sl 1 eI r] [] 0 (fun A H' k => ∃ y, post y ∧ A = (.b y) ∧ H' = [] ∧ k = 0) := by
 refine Tr.intro (n := 39) Try.func20 rfl Try.ntmps20 rfl (fun w0 ok F β hβ => ?_)
 unfold V_taquinref08_Right at hm
 refine C.seq (U.start ?_)
 refine U.ps 1 T rfl ?_
 refine U.done (C.nx (C.seq (C.seq (U.start ?_))))
 refine U.ps 1 T rfl ?_
 refine U.done (C.nx ?_)
 refine C.jn (fun (x5 : Unit) => []) (fun (x5 : Unit) => []) 0 hm (fun x5 hm => ?_) (fun J6 hm hJ6 => ?_)
 ·refine C.nx (C.seq (U.start ?_))
  refine U.ps 1 T rfl ?_
  refine U.done (C.nx (C.ret ?_))
  exact C.fin T (rs' := [.b true]) (H' := []) (nl' := 0) [] rfl rfl (.eq rfl) trivial rfl rfl rfl rfl hβ ⟨true, hm, rfl, rfl, rfl⟩
 ·refine C.block ?_
  refine St.wk (C.loop (fun (s7 : Int) => [(0, .sl 1 eI r), (3, .i s7)]) (fun (s7 : Int) => []) hm (fun s7 Y8 hm => ?_)) (Wk.mk' [] rfl rfl (.eqs rfl) trivial rfl)
  refine C.seq (C.seq (U.start ?_))
  refine U.ps 4 T rfl ?_
  refine U.done (C.nx ?_)
  refine C.ite rfl hm (fun hb11 hm => ?_) (fun hb11 hm => ?_)
  ·refine C.skip (C.nx (C.seq (C.block (C.seq ?_))))
   refine C.jn (fun (x12 : Bool) => [(0, .sl 1 eI r), (3, .i s7), (38, .b x12)]) (fun (x12 : Bool) => []) 0 hm (fun x12 hm => ?_) (fun J13 hm hJ13 => ?_)
   ·refine C.nx ?_
    refine C.ite rfl hm (fun hb19 hm => ?_) (fun hb19 hm => ?_)
    ·refine C.seq (U.start ?_)
     refine U.ps 1 T rfl ?_
     refine U.done (C.nx (C.ret (C.brt (C.rt (C.rt (C.brt (C.rt ?_)))))))
     exact C.fin T (rs' := [.b false]) (H' := []) (nl' := 0) [] rfl rfl (.eq rfl) trivial rfl rfl rfl rfl hβ ⟨false, hm, rfl, rfl, rfl⟩
    ·refine C.skip (C.bnx (C.nx (U.start ?_)))
     refine U.ps 3 T rfl ?_
     refine U.done (C.nx ?_)
     exact St.wk (C.next hm) (Wk.mk' [] rfl rfl (.eqs rfl) trivial rfl)
   ·refine D.beg 9999 [] [] mix rfl rfl (by kernel_rfl) (by repeat (first | exact NoPanicQ.body | refine NoPanicQ.th ?_ | refine NoPanicQ.blk ?_)) (fun hQ hS ws M' => ?_)
    refine D.ps 2 [(0, []), (1, [])] rfl hQ hS T rfl rfl (by kernel_rfl) ?_
    obtain ⟨x14, hx14, hm⟩ := hm
    refine D.q (o := _) 2 [] hQ hS rfl (.none rfl) rfl rfl (by exact Rd.ix T rfl rfl rfl rfl rfl rfl hx14) rfl (by kernel_rfl) ?_
    refine D.ps 3 [(3, []), (4, []), (5, [])] rfl hQ hS T rfl rfl (by kernel_rfl) ?_
    refine hm.cs (fun hb15 hm => ?_) (fun hb15 hm => ?_)
    ·refine D.sq (o := _) 6 [] hQ hS rfl (.skip 5 false 15 _ hb15 rfl rfl rfl) rfl rfl (by kernel_rfl) ?_
     refine D.sq (o := _) 7 [] hQ hS rfl (.skip 5 false 15 _ hb15 rfl rfl rfl) rfl rfl (by kernel_rfl) ?_
     refine D.sq (o := _) 8 [] hQ hS rfl (.skip 5 false 15 _ hb15 rfl rfl rfl) rfl rfl (by kernel_rfl) ?_
     refine D.sq (o := _) 9 [] hQ hS rfl (.skip 5 false 15 _ hb15 rfl rfl rfl) rfl rfl (by kernel_rfl) ?_
     refine D.sq (o := _) 10 [] hQ hS rfl (.skip 5 false 15 _ hb15 rfl rfl rfl) rfl rfl (by kernel_rfl) ?_
     refine D.q (o := _) 11 [] hQ hS rfl (.none rfl) rfl rfl (by exact Rd.pk rfl rfl hb15 rfl) rfl (by kernel_rfl) ?_
     refine D.ps 1 [(12, [])] rfl hQ hS T rfl rfl (by kernel_rfl) ?_
     refine D.sq (o := _) 13 [] hQ hS rfl (.skip 12 false 22 _ rfl rfl rfl rfl) rfl rfl (by kernel_rfl) ?_
     refine D.sq (o := _) 14 [] hQ hS rfl (.skip 12 false 22 _ rfl rfl rfl rfl) rfl rfl (by kernel_rfl) ?_
     refine D.sq (o := _) 15 [] hQ hS rfl (.skip 12 false 22 _ rfl rfl rfl rfl) rfl rfl (by kernel_rfl) ?_
     refine D.sq (o := _) 16 [] hQ hS rfl (.und 15 true 25 rfl rfl rfl) rfl rfl (by kernel_rfl) ?_
     refine D.sq (o := _) 17 [] hQ hS rfl (.und 15 true 25 rfl rfl rfl) rfl rfl (by kernel_rfl) ?_
     refine D.sq (o := _) 18 [] hQ hS rfl (.und 15 true 25 rfl rfl rfl) rfl rfl (by kernel_rfl) ?_
     refine D.sq (o := _) 19 [] hQ hS rfl (.und 15 true 25 rfl rfl rfl) rfl rfl (by kernel_rfl) ?_
     refine D.sq (o := _) 20 [] hQ hS rfl (.und 15 true 25 rfl rfl rfl) rfl rfl (by kernel_rfl) ?_
     refine D.sq (o := _) 21 [] hQ hS rfl (.und 15 true 25 rfl rfl rfl) rfl rfl (by kernel_rfl) ?_
     refine D.sq (o := _) 22 [] hQ hS rfl (.und 15 true 25 rfl rfl rfl) rfl rfl (by kernel_rfl) ?_
     refine D.sq (o := _) 23 [] hQ hS rfl (.und 15 true 25 rfl rfl rfl) rfl rfl (by kernel_rfl) ?_
     refine D.sq (o := _) 24 [] hQ hS rfl (.und 15 true 25 rfl rfl rfl) rfl rfl (by kernel_rfl) ?_
     refine D.sq (o := _) 25 [] hQ hS rfl (.und 15 true 25 rfl rfl rfl) rfl rfl (by kernel_rfl) ?_
     refine D.sq (o := _) 26 [] hQ hS rfl (.und 15 true 25 rfl rfl rfl) rfl rfl (by kernel_rfl) ?_
     refine D.sq (o := _) 27 [] hQ hS rfl (.skip 12 false 22 _ rfl rfl rfl rfl) rfl rfl (by kernel_rfl) ?_
     refine D.q (o := _) 28 [] hQ hS rfl (.none rfl) rfl rfl (by exact Rd.pk rfl rfl rfl rfl) rfl (by kernel_rfl) ?_
     refine D.done (by kernel_rfl) ?_
     exact St.wk (hJ13 _ hm) (Wk.mk' [] rfl rfl (.eqs rfl) trivial rfl)
    ·refine D.q (o := _) 6 [] hQ hS rfl (.take 5 false 15 _ hb15 rfl rfl rfl) rfl rfl (by exact Rd.p T rfl) rfl (by kernel_rfl) ?_
     refine D.q (o := _) 7 [] hQ hS rfl (.take 5 false 15 _ hb15 rfl rfl rfl) rfl rfl (by exact Rd.p T rfl) rfl (by kernel_rfl) ?_
     refine D.q (o := _) 8 [] hQ hS rfl (.take 5 false 15 _ hb15 rfl rfl rfl) rfl rfl (by exact Rd.ix T rfl rfl rfl rfl rfl rfl hx14) rfl (by kernel_rfl) ?_
     refine D.q (o := _) 9 [] hQ hS rfl (.take 5 false 15 _ hb15 rfl rfl rfl) rfl rfl (by exact Rd.l T rfl rfl rfl) rfl (by kernel_rfl) ?_
     refine D.q (o := _) 10 [] hQ hS rfl (.take 5 false 15 _ hb15 rfl rfl rfl) rfl rfl (by exact Rd.p T rfl) rfl (by kernel_rfl) ?_
     refine D.q (o := _) 11 [] hQ hS rfl (.none rfl) rfl rfl (by exact Rd.pk' rfl rfl hb15 rfl) rfl (by kernel_rfl) ?_
     refine D.ps 1 [(12, [])] rfl hQ hS T rfl rfl (by kernel_rfl) ?_
     refine hm.cs (fun hb16 hm => ?_) (fun hb16 hm => ?_)
     ·refine D.sq (o := _) 13 [] hQ hS rfl (.skip 12 false 22 _ hb16 rfl rfl rfl) rfl rfl (by kernel_rfl) ?_
      refine D.sq (o := _) 14 [] hQ hS rfl (.skip 12 false 22 _ hb16 rfl rfl rfl) rfl rfl (by kernel_rfl) ?_
      refine D.sq (o := _) 15 [] hQ hS rfl (.skip 12 false 22 _ hb16 rfl rfl rfl) rfl rfl (by kernel_rfl) ?_
      refine D.sq (o := _) 16 [] hQ hS rfl (.und 15 true 25 rfl rfl rfl) rfl rfl (by kernel_rfl) ?_
      refine D.sq (o := _) 17 [] hQ hS rfl (.und 15 true 25 rfl rfl rfl) rfl rfl (by kernel_rfl) ?_
      refine D.sq (o := _) 18 [] hQ hS rfl (.und 15 true 25 rfl rfl rfl) rfl rfl (by kernel_rfl) ?_
      refine D.sq (o := _) 19 [] hQ hS rfl (.und 15 true 25 rfl rfl rfl) rfl rfl (by kernel_rfl) ?_
      refine D.sq (o := _) 20 [] hQ hS rfl (.und 15 true 25 rfl rfl rfl) rfl rfl (by kernel_rfl) ?_
      refine D.sq (o := _) 21 [] hQ hS rfl (.und 15 true 25 rfl rfl rfl) rfl rfl (by kernel_rfl) ?_
      refine D.sq (o := _) 22 [] hQ hS rfl (.und 15 true 25 rfl rfl rfl) rfl rfl (by kernel_rfl) ?_
      refine D.sq (o := _) 23 [] hQ hS rfl (.und 15 true 25 rfl rfl rfl) rfl rfl (by kernel_rfl) ?_
      refine D.sq (o := _) 24 [] hQ hS rfl (.und 15 true 25 rfl rfl rfl) rfl rfl (by kernel_rfl) ?_
      refine D.sq (o := _) 25 [] hQ hS rfl (.und 15 true 25 rfl rfl rfl) rfl rfl (by kernel_rfl) ?_
      refine D.sq (o := _) 26 [] hQ hS rfl (.und 15 true 25 rfl rfl rfl) rfl rfl (by kernel_rfl) ?_
      refine D.sq (o := _) 27 [] hQ hS rfl (.skip 12 false 22 _ hb16 rfl rfl rfl) rfl rfl (by kernel_rfl) ?_
      refine D.q (o := _) 28 [] hQ hS rfl (.none rfl) rfl rfl (by exact Rd.pk rfl rfl hb16 rfl) rfl (by kernel_rfl) ?_
      refine D.done (by kernel_rfl) ?_
      exact St.wk (hJ13 _ hm) (Wk.mk' [] rfl rfl (.eqs rfl) trivial rfl)
     ·refine D.q (o := _) 13 [] hQ hS rfl (.take 12 false 22 _ hb16 rfl rfl rfl) rfl rfl (by exact Rd.p T rfl) rfl (by kernel_rfl) ?_
      refine D.q (o := _) 14 [] hQ hS rfl (.take 12 false 22 _ hb16 rfl rfl rfl) rfl rfl (by exact Rd.p T rfl) rfl (by kernel_rfl) ?_
      refine D.q (o := _) 15 [] hQ hS rfl (.take 12 false 22 _ hb16 rfl rfl rfl) rfl rfl (by exact Rd.p T rfl) rfl (by kernel_rfl) ?_
      refine hm.cs (fun hb17 hm => ?_) (fun hb17 hm => ?_)
      ·refine D.q (o := _) 16 [] hQ hS rfl (.take 15 true 25 _ hb17 rfl rfl rfl) rfl rfl (by exact Rd.p T rfl) rfl (by kernel_rfl) ?_
       refine D.q (o := _) 17 [] hQ hS rfl (.take 15 true 25 _ hb17 rfl rfl rfl) rfl rfl (by exact Rd.p T rfl) rfl (by kernel_rfl) ?_
       refine D.q (o := _) 18 [] hQ hS rfl (.take 15 true 25 _ hb17 rfl rfl rfl) rfl rfl (by exact Rd.p T rfl) rfl (by kernel_rfl) ?_
       refine D.q (o := _) 19 [] hQ hS rfl (.take 15 true 25 _ hb17 rfl rfl rfl) rfl rfl (by exact Rd.p T rfl) rfl (by kernel_rfl) ?_
       obtain ⟨x18, hx18, hm⟩ := hm
       refine D.q (o := _) 20 [] hQ hS rfl (.take 15 true 25 _ hb17 rfl rfl rfl) rfl rfl (by exact Rd.ix T rfl rfl rfl rfl rfl rfl hx18) rfl (by kernel_rfl) ?_
       refine D.q (o := _) 21 [] hQ hS rfl (.take 15 true 25 _ hb17 rfl rfl rfl) rfl rfl (by exact Rd.l T rfl rfl rfl) rfl (by kernel_rfl) ?_
       refine D.q (o := _) 22 [] hQ hS rfl (.take 15 true 25 _ hb17 rfl rfl rfl) rfl rfl (by exact Rd.p T rfl) rfl (by kernel_rfl) ?_
       refine D.q (o := _) 23 [] hQ hS rfl (.take 15 true 25 _ hb17 rfl rfl rfl) rfl rfl (by exact Rd.p T rfl) rfl (by kernel_rfl) ?_
       refine D.q (o := _) 24 [] hQ hS rfl (.take 15 true 25 _ hb17 rfl rfl rfl) rfl rfl (by exact Rd.ix T rfl rfl rfl rfl rfl rfl hx14) rfl (by kernel_rfl) ?_
       refine D.q (o := _) 25 [] hQ hS rfl (.take 15 true 25 _ hb17 rfl rfl rfl) rfl rfl (by exact Rd.l T rfl rfl rfl) rfl (by kernel_rfl) ?_
       refine D.q (o := _) 26 [] hQ hS rfl (.take 15 true 25 _ hb17 rfl rfl rfl) rfl rfl (by exact Rd.p T rfl) rfl (by kernel_rfl) ?_
       refine D.q (o := _) 27 [] hQ hS rfl (.take 12 false 22 _ hb16 rfl rfl rfl) rfl rfl (by exact Rd.pk rfl rfl hb17 rfl) rfl (by kernel_rfl) ?_
       refine D.q (o := _) 28 [] hQ hS rfl (.none rfl) rfl rfl (by exact Rd.pk' rfl rfl hb16 rfl) rfl (by kernel_rfl) ?_
       refine D.done (by kernel_rfl) ?_
       exact St.wk (hJ13 _ hm) (Wk.mk' [] rfl rfl (.eqs rfl) trivial rfl)
      ·refine D.sq (o := _) 16 [] hQ hS rfl (.skip 15 true 25 _ hb17 rfl rfl rfl) rfl rfl (by kernel_rfl) ?_
       refine D.sq (o := _) 17 [] hQ hS rfl (.skip 15 true 25 _ hb17 rfl rfl rfl) rfl rfl (by kernel_rfl) ?_
       refine D.sq (o := _) 18 [] hQ hS rfl (.skip 15 true 25 _ hb17 rfl rfl rfl) rfl rfl (by kernel_rfl) ?_
       refine D.sq (o := _) 19 [] hQ hS rfl (.skip 15 true 25 _ hb17 rfl rfl rfl) rfl rfl (by kernel_rfl) ?_
       refine D.sq (o := _) 20 [] hQ hS rfl (.skip 15 true 25 _ hb17 rfl rfl rfl) rfl rfl (by kernel_rfl) ?_
       refine D.sq (o := _) 21 [] hQ hS rfl (.skip 15 true 25 _ hb17 rfl rfl rfl) rfl rfl (by kernel_rfl) ?_
       refine D.sq (o := _) 22 [] hQ hS rfl (.skip 15 true 25 _ hb17 rfl rfl rfl) rfl rfl (by kernel_rfl) ?_
       refine D.sq (o := _) 23 [] hQ hS rfl (.skip 15 true 25 _ hb17 rfl rfl rfl) rfl rfl (by kernel_rfl) ?_
       refine D.sq (o := _) 24 [] hQ hS rfl (.skip 15 true 25 _ hb17 rfl rfl rfl) rfl rfl (by kernel_rfl) ?_
       refine D.sq (o := _) 25 [] hQ hS rfl (.skip 15 true 25 _ hb17 rfl rfl rfl) rfl rfl (by kernel_rfl) ?_
       refine D.sq (o := _) 26 [] hQ hS rfl (.skip 15 true 25 _ hb17 rfl rfl rfl) rfl rfl (by kernel_rfl) ?_
       refine D.q (o := _) 27 [] hQ hS rfl (.take 12 false 22 _ hb16 rfl rfl rfl) rfl rfl (by exact Rd.pk' rfl rfl hb17 rfl) rfl (by kernel_rfl) ?_
       refine D.q (o := _) 28 [] hQ hS rfl (.none rfl) rfl rfl (by exact Rd.pk' rfl rfl hb16 rfl) rfl (by kernel_rfl) ?_
       refine D.done (by kernel_rfl) ?_
       exact St.wk (hJ13 _ hm) (Wk.mk' [] rfl rfl (.eqs rfl) trivial rfl)
  ·refine C.exit (C.ex (C.ex (C.bex ?_)))
   exact St.wk (hJ6 _ hm) (Wk.mk' [] rfl rfl trivial trivial rfl)
theorem T_taquinref25_Right (l : ApiLayout) (post : Bool → Prop) (hm : V_taquinref25_Right l post) :
    Tr Try.prog 29 [.agg [.sl 1 eB l.Full, .i l.Target]] [] 0 (fun A H' k => ∃ y, post y ∧ A = (.b y) ∧ H' = [] ∧ k = 0) := by
 refine Tr.intro (n := 32) Try.func29 rfl Try.ntmps29 rfl (fun w0 ok F β hβ => ?_)
 unfold V_taquinref25_Right at hm
 refine C.seq (U.start ?_)
 refine U.e1 (o := _) rfl (.none rfl) (by exact Eff1.box rfl rfl rfl rfl rfl) ?_
 refine U.ps 1 T rfl ?_
 refine U.done (C.nx (C.seq (C.seq ?_)))
 refine C.jn (fun (x3 : Bool) => [(1, .p 0 0), (25, .b x3)]) (fun (x3 : Bool) => [(0, .box [.sl 1 eB l.Full, .i l.Target])]) 1 hm (fun x3 hm => ?_) (fun J4 hm hJ4 => ?_)
 ·refine C.nx ?_
  refine C.ite rfl hm (fun hb8 hm => ?_) (fun hb8 hm => ?_)
  ·refine C.seq (U.start ?_)
   refine U.ps 1 T rfl ?_
   refine U.done (C.nx (C.ret (C.rt ?_)))
   exact C.fin T (rs' := [.b false]) (H' := []) (nl' := 0) [] rfl rfl (.eq rfl) trivial rfl rfl rfl rfl hβ ⟨false, hm, rfl, rfl, rfl⟩
  ·refine C.skip (C.nx (C.seq (U.start ?_)))
   refine U.ps 4 T rfl ?_
   obtain ⟨x13, hx13, hm⟩ := hm
   refine U.r (o := _) rfl (.none rfl) rfl rfl (by exact Rd.ix T rfl rfl rfl rfl rfl rfl hx13) ?_
   refine U.ps 2 T rfl ?_
   refine U.done (C.nx (C.ret ?_))
   exact C.fin T (rs' := [.b x13]) (H' := []) (nl' := 0) [] rfl rfl (.eq rfl) trivial rfl rfl rfl rfl hβ ⟨x13, hm, rfl, rfl, rfl⟩
 ·refine U.start ?_
  refine U.ps 5 T rfl ?_
  refine hm.cs (fun hb5 hm => ?_) (fun hb5 hm => ?_)
  ·refine U.sks 4 4 false 7 hb5 rfl rfl rfl ?_
   refine U.r (o := _) rfl (.none rfl) rfl rfl (by exact Rd.pk rfl rfl hb5 rfl) ?_
   refine U.ps 1 T rfl ?_
   refine U.sks 3 10 false 13 rfl rfl rfl rfl ?_
   refine U.r (o := _) rfl (.none rfl) rfl rfl (by exact Rd.pk rfl rfl rfl rfl) ?_
   refine U.ps 1 T rfl ?_
   refine U.sks 6 15 false 18 rfl rfl rfl rfl ?_
   refine U.r (o := _) rfl (.none rfl) rfl rfl (by exact Rd.pk rfl rfl rfl rfl) ?_
   refine U.done ?_
   exact St.wk (hJ4 _ hm) (Wk.mk' [some 0] rfl rfl (.eqs rfl) ⟨⟨_, rfl, .box rfl (.eq rfl)⟩, trivial⟩ rfl)
  ·refine U.pg 4 4 false 7 hb5 T rfl rfl rfl rfl ?_
   refine U.r (o := _) rfl (.none rfl) rfl rfl (by exact Rd.pk' rfl rfl hb5 rfl) ?_
   refine U.ps 1 T rfl ?_
   refine hm.cs (fun hb6 hm => ?_) (fun hb6 hm => ?_)
   ·refine U.sks 3 10 false 13 hb6 rfl rfl rfl ?_
    refine U.r (o := _) rfl (.none rfl) rfl rfl (by exact Rd.pk rfl rfl hb6 rfl) ?_
    refine U.ps 1 T rfl ?_
    refine U.sks 6 15 false 18 rfl rfl rfl rfl ?_
    refine U.r (o := _) rfl (.none rfl) rfl rfl (by exact Rd.pk rfl rfl rfl rfl) ?_
    refine U.done ?_
    exact St.wk (hJ4 _ hm) (Wk.mk' [some 0] rfl rfl (.eqs rfl) ⟨⟨_, rfl, .box rfl (.eq rfl)⟩, trivial⟩ rfl)
   ·refine U.pg 3 10 false 13 hb6 T rfl rfl rfl rfl ?_
    refine U.r (o := _) rfl (.none rfl) rfl rfl (by exact Rd.pk' rfl rfl hb6 rfl) ?_
    refine U.ps 1 T rfl ?_
    refine hm.cs (fun hb7 hm => ?_) (fun hb7 hm => ?_)
    ·refine U.sks 6 15 false 18 hb7 rfl rfl rfl ?_
     refine U.r (o := _) rfl (.none rfl) rfl rfl (by exact Rd.pk rfl rfl hb7 rfl) ?_
     refine U.done ?_
     exact St.wk (hJ4 _ hm) (Wk.mk' [some 0] rfl rfl (.eqs rfl) ⟨⟨_, rfl, .box rfl (.eq rfl)⟩, trivial⟩ rfl)
    ·refine U.pg 6 15 false 18 hb7 T rfl rfl rfl rfl ?_
     refine U.r (o := _) rfl (.none rfl) rfl rfl (by exact Rd.pk' rfl rfl hb7 rfl) ?_
     refine U.done ?_
     exact St.wk (hJ4 _ hm) (Wk.mk' [some 0] rfl rfl (.eqs rfl) ⟨⟨_, rfl, .box rfl (.eq rfl)⟩, trivial⟩ rfl)
theorem T_taquinlaw26_fair (f : ApiFloor) (r : List Int) (l : ApiLayout) (post : Bool → Prop) (hm : V_taquinlaw26_fair f r l post) :
    Tr Try.prog 9 [.agg (eApiFloor f), .sl 1 eI r, .agg [.sl 1 eB l.Full, .i l.Target]] [] 0 (fun A H' k => ∃ y, post y ∧ A = (.b y) ∧ H' = [] ∧ k = 0) := by
 refine Tr.intro (n := 34) Try.func9 rfl Try.ntmps9 rfl (fun w0 ok F β hβ => ?_)
 unfold V_taquinlaw26_fair at hm
 refine C.seq (U.start ?_)
 refine U.e1 (o := _) rfl (.none rfl) (by exact Eff1.box rfl rfl rfl rfl rfl) ?_
 refine U.e1 (o := _) rfl (.none rfl) (by exact Eff1.box rfl rfl rfl rfl rfl) ?_
 refine U.ps 1 T rfl ?_
 refine U.done (C.nx (C.seq ?_))
 refine C.jn (fun (x3 : Bool) => [(6, .b x3)]) (fun (x3 : Bool) => []) 0 hm (fun x3 hm => ?_) (fun J4 hm hJ4 => ?_)
 ·refine C.nx (C.ret ?_)
  exact C.fin T (rs' := [.b x3]) (H' := []) (nl' := 0) [] rfl rfl (.eq rfl) trivial rfl rfl rfl rfl hβ ⟨x3, hm, rfl, rfl, rfl⟩
 ·refine U.start ?_
  refine U.ps 1 T rfl ?_
  refine U.e (o := _) rfl (.none rfl) (by exact Eff.c [] (v := true) (T_taquinref07_Few f 100 _ hm) en18 rfl rfl rfl (.eq rfl) trivial rfl rfl rfl rfl rfl rfl (fun _ _ => ⟨(.v _), trivial⟩) (.inr ⟨rfl, rfl⟩) (fun _ => rfl) (fun _ => rfl) rfl) (fun x5' hm => ?_)
  obtain ⟨x5⟩ := x5'
  refine U.ps 1 T rfl ?_
  refine hm.cs (fun hb6 hm => ?_) (fun hb6 hm => ?_)
  ·refine U.pg 1 2 true 9 hb6 T rfl rfl rfl rfl ?_
   refine U.e (o := _) rfl (.take 2 true 9 _ hb6 rfl rfl rfl) (by exact Eff.c [] (v := true) (T_taquinref07_Right f _ hm) en19 rfl rfl rfl (.eq rfl) trivial rfl rfl rfl rfl rfl rfl (fun _ _ => ⟨(.v _), trivial⟩) (.inr ⟨rfl, rfl⟩) (fun _ => rfl) (fun _ => rfl) rfl) (fun x7' hm => ?_)
   obtain ⟨x7⟩ := x7'
   refine U.r (o := _) rfl (.none rfl) rfl rfl (by exact Rd.pk rfl rfl hb6 rfl) ?_
   refine U.ps 1 T rfl ?_
   refine hm.cs (fun hb8 hm => ?_) (fun hb8 hm => ?_)
   ·refine U.pg 3 6 true 13 hb8 T rfl rfl rfl rfl ?_
    refine U.r (o := _) rfl (.none rfl) rfl rfl (by exact Rd.pk rfl rfl hb8 rfl) ?_
    refine U.ps 1 T rfl ?_
    refine hm.cs (fun hb9 hm => ?_) (fun hb9 hm => ?_)
    ·refine U.pg 1 11 true 18 hb9 T rfl rfl rfl rfl ?_
     refine U.e (o := _) rfl (.take 11 true 18 _ hb9 rfl rfl rfl) (by exact Eff.c [] (v := true) (T_taquinref08_Right r _ hm) en20 rfl rfl rfl (.eq rfl) trivial rfl rfl rfl rfl rfl rfl (fun _ _ => ⟨(.v _), trivial⟩) (.inr ⟨rfl, rfl⟩) (fun _ => rfl) (fun _ => rfl) rfl) (fun x10' hm => ?_)
     obtain ⟨x10⟩ := x10'
     refine U.r (o := _) rfl (.none rfl) rfl rfl (by exact Rd.pk rfl rfl hb9 rfl) ?_
     refine U.ps 1 T rfl ?_
     refine hm.cs (fun hb11 hm => ?_) (fun hb11 hm => ?_)
     ·refine U.pg 1 15 true 22 hb11 T rfl rfl rfl rfl ?_
      refine U.e (o := _) rfl (.take 15 true 22 _ hb11 rfl rfl rfl) (by exact Eff.c [] (v := true) (T_taquinref25_Right l _ hm) en29 rfl rfl rfl (.eq rfl) trivial rfl rfl rfl rfl rfl rfl (fun _ _ => ⟨(.v _), trivial⟩) (.inr ⟨rfl, rfl⟩) (fun _ => rfl) (fun _ => rfl) rfl) (fun x12' hm => ?_)
      obtain ⟨x12⟩ := x12'
      refine U.r (o := _) rfl (.none rfl) rfl rfl (by exact Rd.pk rfl rfl hb11 rfl) ?_
      refine U.ps 1 T rfl ?_
      refine hm.cs (fun hb13 hm => ?_) (fun hb13 hm => ?_)
      ·refine U.pg 6 19 true 26 hb13 T rfl rfl rfl rfl ?_
       refine U.r (o := _) rfl (.none rfl) rfl rfl (by exact Rd.pk rfl rfl hb13 rfl) ?_
       refine U.ps 1 T rfl ?_
       refine U.done ?_
       exact St.wk (hJ4 _ hm) (Wk.mk' [] rfl rfl (.eqs rfl) trivial rfl)
      ·refine U.sks 6 19 true 26 hb13 rfl rfl rfl ?_
       refine U.r (o := _) rfl (.none rfl) rfl rfl (by exact Rd.pk' rfl rfl hb13 rfl) ?_
       refine U.ps 1 T rfl ?_
       refine U.done ?_
       exact St.wk (hJ4 _ hm) (Wk.mk' [] rfl rfl (.eqs rfl) trivial rfl)
     ·refine U.sks 2 15 true 22 hb11 rfl rfl rfl ?_
      refine U.r (o := _) rfl (.none rfl) rfl rfl (by exact Rd.pk' rfl rfl hb11 rfl) ?_
      refine U.ps 1 T rfl ?_
      refine U.sks 6 19 true 26 rfl rfl rfl rfl ?_
      refine U.r (o := _) rfl (.none rfl) rfl rfl (by exact Rd.pk' rfl rfl rfl rfl) ?_
      refine U.ps 1 T rfl ?_
      refine U.done ?_
      exact St.wk (hJ4 _ hm) (Wk.mk' [] rfl rfl (.eqs rfl) trivial rfl)
    ·refine U.sks 2 11 true 18 hb9 rfl rfl rfl ?_
     refine U.r (o := _) rfl (.none rfl) rfl rfl (by exact Rd.pk' rfl rfl hb9 rfl) ?_
     refine U.ps 1 T rfl ?_
     refine U.sks 2 15 true 22 rfl rfl rfl rfl ?_
     refine U.r (o := _) rfl (.none rfl) rfl rfl (by exact Rd.pk' rfl rfl rfl rfl) ?_
     refine U.ps 1 T rfl ?_
     refine U.sks 6 19 true 26 rfl rfl rfl rfl ?_
     refine U.r (o := _) rfl (.none rfl) rfl rfl (by exact Rd.pk' rfl rfl rfl rfl) ?_
     refine U.ps 1 T rfl ?_
     refine U.done ?_
     exact St.wk (hJ4 _ hm) (Wk.mk' [] rfl rfl (.eqs rfl) trivial rfl)
   ·refine U.sks 3 6 true 13 hb8 rfl rfl rfl ?_
    refine U.r (o := _) rfl (.none rfl) rfl rfl (by exact Rd.pk' rfl rfl hb8 rfl) ?_
    refine U.ps 1 T rfl ?_
    refine U.sks 2 11 true 18 rfl rfl rfl rfl ?_
    refine U.r (o := _) rfl (.none rfl) rfl rfl (by exact Rd.pk' rfl rfl rfl rfl) ?_
    refine U.ps 1 T rfl ?_
    refine U.sks 2 15 true 22 rfl rfl rfl rfl ?_
    refine U.r (o := _) rfl (.none rfl) rfl rfl (by exact Rd.pk' rfl rfl rfl rfl) ?_
    refine U.ps 1 T rfl ?_
    refine U.sks 6 19 true 26 rfl rfl rfl rfl ?_
    refine U.r (o := _) rfl (.none rfl) rfl rfl (by exact Rd.pk' rfl rfl rfl rfl) ?_
    refine U.ps 1 T rfl ?_
    refine U.done ?_
    exact St.wk (hJ4 _ hm) (Wk.mk' [] rfl rfl (.eqs rfl) trivial rfl)
  ·refine U.sks 2 2 true 9 hb6 rfl rfl rfl ?_
   refine U.r (o := _) rfl (.none rfl) rfl rfl (by exact Rd.pk' rfl rfl hb6 rfl) ?_
   refine U.ps 1 T rfl ?_
   refine U.sks 3 6 true 13 rfl rfl rfl rfl ?_
   refine U.r (o := _) rfl (.none rfl) rfl rfl (by exact Rd.pk' rfl rfl rfl rfl) ?_
   refine U.ps 1 T rfl ?_
   refine U.sks 2 11 true 18 rfl rfl rfl rfl ?_
   refine U.r (o := _) rfl (.none rfl) rfl rfl (by exact Rd.pk' rfl rfl rfl rfl) ?_
   refine U.ps 1 T rfl ?_
   refine U.sks 2 15 true 22 rfl rfl rfl rfl ?_
   refine U.r (o := _) rfl (.none rfl) rfl rfl (by exact Rd.pk' rfl rfl rfl rfl) ?_
   refine U.ps 1 T rfl ?_
   refine U.sks 6 19 true 26 rfl rfl rfl rfl ?_
   refine U.r (o := _) rfl (.none rfl) rfl rfl (by exact Rd.pk' rfl rfl rfl rfl) ?_
   refine U.ps 1 T rfl ?_
   refine U.done ?_
   exact St.wk (hJ4 _ hm) (Wk.mk' [] rfl rfl (.eqs rfl) trivial rfl)
end Go.Proofs.Ytenplejkcfhplaa
