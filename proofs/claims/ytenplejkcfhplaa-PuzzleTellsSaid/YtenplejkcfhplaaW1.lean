/- The walks: each Go function does what its verification condition says (written by a program of the prover). -/
import Derived.Test.YtenplejkcfhplaaW0
import Derived.KernelRfl
set_option maxRecDepth 100000
set_option maxHeartbeats 8000000
set_option linter.unusedVariables false
namespace Go.Proofs.Ytenplejkcfhplaa
open Go Go.Taq
theorem T_taquinref07_At (f : ApiFloor) (c : Int) (post : (Int × Int × Int) → Prop) (hm : V_taquinref07_At f c post) :
    Tr Try.prog 74 [.agg (eApiFloor f), .i c] [] 0 (fun A H' k => ∃ y, post y ∧ A = (.tup [.i y.1, .i y.2.1, .i y.2.2]) ∧ H' = [] ∧ k = 0) := by
 refine Tr.intro (n := 29) Try.func74 rfl Try.ntmps74 rfl (fun w0 ok F β hβ => ?_)
 unfold V_taquinref07_At at hm
 refine C.seq (U.start ?_)
 refine U.e1 (o := _) rfl (.none rfl) (by exact Eff1.box rfl rfl rfl rfl rfl) ?_
 refine U.ps 3 T rfl ?_
 refine U.done (C.nx (C.seq (C.seq (U.start ?_))))
 refine U.ps 2 T rfl ?_
 refine U.e (o := _) rfl (.none rfl) (by exact Eff.c [] (v := true) (T_taquinref07_Is f c _ hm) en73 rfl rfl rfl (.eq rfl) trivial rfl rfl rfl rfl rfl rfl (fun _ _ => ⟨(.v _), trivial⟩) (.inr ⟨rfl, rfl⟩) (fun _ => rfl) (fun _ => rfl) rfl) (fun x5' hm => ?_)
 obtain ⟨x5⟩ := x5'
 refine U.ps 1 T rfl ?_
 refine U.done (C.nx ?_)
 refine C.ite rfl hm (fun hb6 hm => ?_) (fun hb6 hm => ?_)
 ·refine C.seq (U.start ?_)
  refine U.ps 3 T rfl ?_
  refine U.done (C.nx (C.ret (C.rt ?_)))
  exact C.fin T (rs' := [.i ((0, 0, 0).1), .i ((0, 0, 0).2.1), .i ((0, 0, 0).2.2)]) (H' := []) (nl' := 0) [] rfl rfl (.eq rfl) trivial rfl rfl rfl rfl hβ ⟨(0, 0, 0), hm, rfl, rfl, rfl⟩
 ·refine C.skip (C.nx (C.seq ?_))
  refine D.beg 9999 [0] [] mix rfl rfl (by kernel_rfl) (by repeat (first | exact NoPanicQ.body | refine NoPanicQ.th ?_ | refine NoPanicQ.blk ?_)) (fun hQ hS ws M' => ?_)
  refine D.ps 3 [(0, []), (1, []), (2, [])] rfl hQ hS T rfl rfl (by kernel_rfl) ?_
  obtain ⟨hx11, hm⟩ := hm
  refine D.q (o := _) 3 [] hQ hS rfl (.none rfl) rfl rfl (by exact Rd.rm rfl rfl rfl rfl hx11) rfl (by kernel_rfl) ?_
  refine D.ps 3 [(4, []), (5, []), (6, [])] rfl hQ hS T rfl rfl (by kernel_rfl) ?_
  obtain ⟨hx12, hm⟩ := hm
  refine D.q (o := _) 7 [] hQ hS rfl (.none rfl) rfl rfl (by exact Rd.dv rfl rfl rfl rfl hx12) rfl (by kernel_rfl) ?_
  refine D.ps 2 [(8, []), (9, [])] rfl hQ hS T rfl rfl (by kernel_rfl) ?_
  obtain ⟨hx13, hm⟩ := hm
  refine D.q (o := _) 10 [] hQ hS rfl (.none rfl) rfl rfl (by exact Rd.rm rfl rfl rfl rfl hx13) rfl (by kernel_rfl) ?_
  refine D.ps 3 [(11, []), (12, []), (13, [])] rfl hQ hS T rfl rfl (by kernel_rfl) ?_
  obtain ⟨hx14, hm⟩ := hm
  refine D.q (o := _) 14 [] hQ hS rfl (.none rfl) rfl rfl (by exact Rd.dv rfl rfl rfl rfl hx14) rfl (by kernel_rfl) ?_
  refine D.ps 2 [(15, []), (16, [])] rfl hQ hS T rfl rfl (by kernel_rfl) ?_
  obtain ⟨hx15, hm⟩ := hm
  refine D.q (o := _) 17 [] hQ hS rfl (.none rfl) rfl rfl (by exact Rd.dv rfl rfl rfl rfl hx15) rfl (by kernel_rfl) ?_
  refine D.ps 3 [(18, []), (19, []), (20, [])] rfl hQ hS T rfl rfl (by kernel_rfl) ?_
  refine D.done (by kernel_rfl) ?_
  refine C.nx (C.ret ?_)
  exact C.fin T (rs' := [.i ((c.tmod f.W, (w64 (c.tdiv f.W)).tmod f.H, w64 ((w64 (c.tdiv f.W)).tdiv f.H)).1), .i ((c.tmod f.W, (w64 (c.tdiv f.W)).tmod f.H, w64 ((w64 (c.tdiv f.W)).tdiv f.H)).2.1), .i ((c.tmod f.W, (w64 (c.tdiv f.W)).tmod f.H, w64 ((w64 (c.tdiv f.W)).tdiv f.H)).2.2)]) (H' := []) (nl' := 0) [] rfl rfl (.eq rfl) trivial rfl rfl rfl rfl hβ ⟨(c.tmod f.W, (w64 (c.tdiv f.W)).tmod f.H, w64 ((w64 (c.tdiv f.W)).tdiv f.H)), hm, rfl, rfl, rfl⟩
theorem T_taquinref07_Cell (f : ApiFloor) (x_1 : Int) (y_1 : Int) (z : Int) (post : Int → Prop) (hm : V_taquinref07_Cell f x_1 y_1 z post) :
    Tr Try.prog 75 [.agg (eApiFloor f), .i x_1, .i y_1, .i z] [] 0 (fun A H' k => ∃ y, post y ∧ A = (.i y) ∧ H' = [] ∧ k = 0) := by
 refine Tr.intro (n := 48) Try.func75 rfl Try.ntmps75 rfl (fun w0 ok F β hβ => ?_)
 unfold V_taquinref07_Cell at hm
 refine C.seq (U.start ?_)
 refine U.e1 (o := _) rfl (.none rfl) (by exact Eff1.box rfl rfl rfl rfl rfl) ?_
 refine U.ps 1 T rfl ?_
 refine U.done (C.nx (C.seq (C.seq ?_)))
 refine C.jn (fun (x3 : Bool) => [(1, .i x_1), (2, .i y_1), (3, .i z), (4, .p 0 0), (36, .b x3)]) (fun (x3 : Bool) => [(0, .box (eApiFloor f))]) 1 hm (fun x3 hm => ?_) (fun J4 hm hJ4 => ?_)
 ·refine C.nx ?_
  refine C.ite rfl hm (fun hb10 hm => ?_) (fun hb10 hm => ?_)
  ·refine C.seq (U.start ?_)
   refine U.ps 1 T rfl ?_
   refine U.done (C.nx (C.ret (C.rt ?_)))
   exact C.fin T (rs' := [.i (-1)]) (H' := []) (nl' := 0) [] rfl rfl (.eq rfl) trivial rfl rfl rfl rfl hβ ⟨(-1), hm, rfl, rfl, rfl⟩
  ·refine C.skip (C.nx (C.seq (U.start ?_)))
   refine U.ps 12 T rfl ?_
   refine U.done (C.nx (C.ret ?_))
   exact C.fin T (rs' := [.i (w64 ((w64 ((w64 ((w64 (z * f.H)) + y_1)) * f.W)) + x_1))]) (H' := []) (nl' := 0) [] rfl rfl (.eq rfl) trivial rfl rfl rfl rfl hβ ⟨w64 ((w64 ((w64 ((w64 (z * f.H)) + y_1)) * f.W)) + x_1), hm, rfl, rfl, rfl⟩
 ·refine U.start ?_
  refine U.ps 3 T rfl ?_
  refine hm.cs (fun hb5 hm => ?_) (fun hb5 hm => ?_)
  ·refine U.sks 4 2 false 11 hb5 rfl rfl rfl ?_
   refine U.r (o := _) rfl (.none rfl) rfl rfl (by exact Rd.pk rfl rfl hb5 rfl) ?_
   refine U.ps 1 T rfl ?_
   refine U.sks 2 8 false 17 rfl rfl rfl rfl ?_
   refine U.r (o := _) rfl (.none rfl) rfl rfl (by exact Rd.pk rfl rfl rfl rfl) ?_
   refine U.ps 1 T rfl ?_
   refine U.sks 4 12 false 21 rfl rfl rfl rfl ?_
   refine U.r (o := _) rfl (.none rfl) rfl rfl (by exact Rd.pk rfl rfl rfl rfl) ?_
   refine U.ps 1 T rfl ?_
   refine U.sks 2 18 false 27 rfl rfl rfl rfl ?_
   refine U.r (o := _) rfl (.none rfl) rfl rfl (by exact Rd.pk rfl rfl rfl rfl) ?_
   refine U.ps 1 T rfl ?_
   refine U.sks 4 22 false 31 rfl rfl rfl rfl ?_
   refine U.r (o := _) rfl (.none rfl) rfl rfl (by exact Rd.pk rfl rfl rfl rfl) ?_
   refine U.done ?_
   exact St.wk (hJ4 _ hm) (Wk.mk' [some 0] rfl rfl (.eqs rfl) ⟨⟨_, rfl, .box rfl (.eq rfl)⟩, trivial⟩ rfl)
  ·refine U.pg 4 2 false 11 hb5 T rfl rfl rfl rfl ?_
   refine U.r (o := _) rfl (.none rfl) rfl rfl (by exact Rd.pk' rfl rfl hb5 rfl) ?_
   refine U.ps 1 T rfl ?_
   refine hm.cs (fun hb6 hm => ?_) (fun hb6 hm => ?_)
   ·refine U.sks 2 8 false 17 hb6 rfl rfl rfl ?_
    refine U.r (o := _) rfl (.none rfl) rfl rfl (by exact Rd.pk rfl rfl hb6 rfl) ?_
    refine U.ps 1 T rfl ?_
    refine U.sks 4 12 false 21 rfl rfl rfl rfl ?_
    refine U.r (o := _) rfl (.none rfl) rfl rfl (by exact Rd.pk rfl rfl rfl rfl) ?_
    refine U.ps 1 T rfl ?_
    refine U.sks 2 18 false 27 rfl rfl rfl rfl ?_
    refine U.r (o := _) rfl (.none rfl) rfl rfl (by exact Rd.pk rfl rfl rfl rfl) ?_
    refine U.ps 1 T rfl ?_
    refine U.sks 4 22 false 31 rfl rfl rfl rfl ?_
    refine U.r (o := _) rfl (.none rfl) rfl rfl (by exact Rd.pk rfl rfl rfl rfl) ?_
    refine U.done ?_
    exact St.wk (hJ4 _ hm) (Wk.mk' [some 0] rfl rfl (.eqs rfl) ⟨⟨_, rfl, .box rfl (.eq rfl)⟩, trivial⟩ rfl)
   ·refine U.pg 2 8 false 17 hb6 T rfl rfl rfl rfl ?_
    refine U.r (o := _) rfl (.none rfl) rfl rfl (by exact Rd.pk' rfl rfl hb6 rfl) ?_
    refine U.ps 1 T rfl ?_
    refine hm.cs (fun hb7 hm => ?_) (fun hb7 hm => ?_)
    ·refine U.sks 4 12 false 21 hb7 rfl rfl rfl ?_
     refine U.r (o := _) rfl (.none rfl) rfl rfl (by exact Rd.pk rfl rfl hb7 rfl) ?_
     refine U.ps 1 T rfl ?_
     refine U.sks 2 18 false 27 rfl rfl rfl rfl ?_
     refine U.r (o := _) rfl (.none rfl) rfl rfl (by exact Rd.pk rfl rfl rfl rfl) ?_
     refine U.ps 1 T rfl ?_
     refine U.sks 4 22 false 31 rfl rfl rfl rfl ?_
     refine U.r (o := _) rfl (.none rfl) rfl rfl (by exact Rd.pk rfl rfl rfl rfl) ?_
     refine U.done ?_
     exact St.wk (hJ4 _ hm) (Wk.mk' [some 0] rfl rfl (.eqs rfl) ⟨⟨_, rfl, .box rfl (.eq rfl)⟩, trivial⟩ rfl)
    ·refine U.pg 4 12 false 21 hb7 T rfl rfl rfl rfl ?_
     refine U.r (o := _) rfl (.none rfl) rfl rfl (by exact Rd.pk' rfl rfl hb7 rfl) ?_
     refine U.ps 1 T rfl ?_
     refine hm.cs (fun hb8 hm => ?_) (fun hb8 hm => ?_)
     ·refine U.sks 2 18 false 27 hb8 rfl rfl rfl ?_
      refine U.r (o := _) rfl (.none rfl) rfl rfl (by exact Rd.pk rfl rfl hb8 rfl) ?_
      refine U.ps 1 T rfl ?_
      refine U.sks 4 22 false 31 rfl rfl rfl rfl ?_
      refine U.r (o := _) rfl (.none rfl) rfl rfl (by exact Rd.pk rfl rfl rfl rfl) ?_
      refine U.done ?_
      exact St.wk (hJ4 _ hm) (Wk.mk' [some 0] rfl rfl (.eqs rfl) ⟨⟨_, rfl, .box rfl (.eq rfl)⟩, trivial⟩ rfl)
     ·refine U.pg 2 18 false 27 hb8 T rfl rfl rfl rfl ?_
      refine U.r (o := _) rfl (.none rfl) rfl rfl (by exact Rd.pk' rfl rfl hb8 rfl) ?_
      refine U.ps 1 T rfl ?_
      refine hm.cs (fun hb9 hm => ?_) (fun hb9 hm => ?_)
      ·refine U.sks 4 22 false 31 hb9 rfl rfl rfl ?_
       refine U.r (o := _) rfl (.none rfl) rfl rfl (by exact Rd.pk rfl rfl hb9 rfl) ?_
       refine U.done ?_
       exact St.wk (hJ4 _ hm) (Wk.mk' [some 0] rfl rfl (.eqs rfl) ⟨⟨_, rfl, .box rfl (.eq rfl)⟩, trivial⟩ rfl)
      ·refine U.pg 4 22 false 31 hb9 T rfl rfl rfl rfl ?_
       refine U.r (o := _) rfl (.none rfl) rfl rfl (by exact Rd.pk' rfl rfl hb9 rfl) ?_
       refine U.done ?_
       exact St.wk (hJ4 _ hm) (Wk.mk' [some 0] rfl rfl (.eqs rfl) ⟨⟨_, rfl, .box rfl (.eq rfl)⟩, trivial⟩ rfl)
theorem T_taquinref07_Beside (f : ApiFloor) (c : Int) (d : Int) (post : Int → Prop) (hm : V_taquinref07_Beside f c d post) :
    Tr Try.prog 57 [.agg (eApiFloor f), .i c, .i d] [] 0 (fun A H' k => ∃ y, post y ∧ A = (.i y) ∧ H' = [] ∧ k = 0) := by
 refine Tr.intro (n := 70) Try.func57 rfl Try.ntmps57 rfl (fun w0 ok F β hβ => ?_)
 unfold V_taquinref07_Beside at hm
 refine C.seq (U.start ?_)
 refine U.e1 (o := _) rfl (.none rfl) (by exact Eff1.box rfl rfl rfl rfl rfl) ?_
 refine U.ps 1 T rfl ?_
 refine U.done (C.nx (C.seq (C.seq (U.start ?_))))
 refine U.ps 2 T rfl ?_
 refine U.e (o := _) rfl (.none rfl) (by exact Eff.c [] (v := true) (T_taquinref07_Is f c _ hm) en73 rfl rfl rfl (.eq rfl) trivial rfl rfl rfl rfl rfl rfl (fun _ _ => ⟨(.v _), trivial⟩) (.inr ⟨rfl, rfl⟩) (fun _ => rfl) (fun _ => rfl) rfl) (fun x5' hm => ?_)
 obtain ⟨x5⟩ := x5'
 refine U.ps 1 T rfl ?_
 refine U.done (C.nx ?_)
 refine C.ite rfl hm (fun hb6 hm => ?_) (fun hb6 hm => ?_)
 ·refine C.seq (U.start ?_)
  refine U.ps 1 T rfl ?_
  refine U.done (C.nx (C.ret (C.rt ?_)))
  exact C.fin T (rs' := [.i (-1)]) (H' := []) (nl' := 0) [] rfl rfl (.eq rfl) trivial rfl rfl rfl rfl hβ ⟨(-1), hm, rfl, rfl, rfl⟩
 ·refine C.skip (C.nx (C.seq (U.start ?_)))
  refine U.ps 2 T rfl ?_
  refine U.e (o := _) rfl (.none rfl) (by exact Eff.c [] (v := true) (T_taquinref07_At f c _ hm) en74 rfl rfl rfl (.eq rfl) trivial rfl rfl rfl rfl rfl rfl (fun _ _ => ⟨(.tup (.cons (.v _) (.cons (.v _) (.cons (.v _) .nil)))), trivial⟩) (.inr ⟨rfl, rfl⟩) (fun _ => rfl) (fun _ => rfl) rfl) (fun x11' hm => ?_)
  obtain ⟨x11⟩ := x11'
  refine U.ps 7 T rfl ?_
  refine U.done (C.nx (C.seq (C.seq (U.start ?_))))
  refine U.ps 1 T rfl ?_
  refine U.done (C.nx (C.block (C.seq (U.start ?_))))
  refine U.ps 2 T rfl ?_
  refine U.done (C.nx ?_)
  refine C.ite rfl hm (fun hb16 hm => ?_) (fun hb16 hm => ?_)
  ·refine C.seq (U.start ?_)
   refine U.ps 5 T rfl ?_
   refine U.e (o := _) rfl (.none rfl) (by exact Eff.c [] (v := true) (T_taquinref07_Cell f (w64 (x11.1 + 1)) x11.2.1 x11.2.2 _ hm) en75 rfl rfl rfl (.eq rfl) trivial rfl rfl rfl rfl rfl rfl (fun _ _ => ⟨(.v _), trivial⟩) (.inr ⟨rfl, rfl⟩) (fun _ => rfl) (fun _ => rfl) rfl) (fun x19' hm => ?_)
   obtain ⟨x19⟩ := x19'
   refine U.ps 1 T rfl ?_
   refine U.done (C.nx (C.ret (C.brt (C.rt ?_))))
   exact C.fin T (rs' := [.i x19]) (H' := []) (nl' := 0) [] rfl rfl (.eq rfl) trivial rfl rfl rfl rfl hβ ⟨x19, hm, rfl, rfl, rfl⟩
  ·refine C.seq (U.start ?_)
   refine U.ps 2 T rfl ?_
   refine U.done (C.nx ?_)
   refine C.ite rfl hm (fun hb22 hm => ?_) (fun hb22 hm => ?_)
   ·refine C.seq (U.start ?_)
    refine U.ps 5 T rfl ?_
    refine U.e (o := _) rfl (.none rfl) (by exact Eff.c [] (v := true) (T_taquinref07_Cell f x11.1 (w64 (x11.2.1 + 1)) x11.2.2 _ hm) en75 rfl rfl rfl (.eq rfl) trivial rfl rfl rfl rfl rfl rfl (fun _ _ => ⟨(.v _), trivial⟩) (.inr ⟨rfl, rfl⟩) (fun _ => rfl) (fun _ => rfl) rfl) (fun x25' hm => ?_)
    obtain ⟨x25⟩ := x25'
    refine U.ps 1 T rfl ?_
    refine U.done (C.nx (C.ret (C.brt (C.rt ?_))))
    exact C.fin T (rs' := [.i x25]) (H' := []) (nl' := 0) [] rfl rfl (.eq rfl) trivial rfl rfl rfl rfl hβ ⟨x25, hm, rfl, rfl, rfl⟩
   ·refine C.seq (U.start ?_)
    refine U.ps 2 T rfl ?_
    refine U.done (C.nx ?_)
    refine C.ite rfl hm (fun hb28 hm => ?_) (fun hb28 hm => ?_)
    ·refine C.seq (U.start ?_)
     refine U.ps 5 T rfl ?_
     refine U.e (o := _) rfl (.none rfl) (by exact Eff.c [] (v := true) (T_taquinref07_Cell f (w64 (x11.1 - 1)) x11.2.1 x11.2.2 _ hm) en75 rfl rfl rfl (.eq rfl) trivial rfl rfl rfl rfl rfl rfl (fun _ _ => ⟨(.v _), trivial⟩) (.inr ⟨rfl, rfl⟩) (fun _ => rfl) (fun _ => rfl) rfl) (fun x31' hm => ?_)
     obtain ⟨x31⟩ := x31'
     refine U.ps 1 T rfl ?_
     refine U.done (C.nx (C.ret (C.brt (C.rt ?_))))
     exact C.fin T (rs' := [.i x31]) (H' := []) (nl' := 0) [] rfl rfl (.eq rfl) trivial rfl rfl rfl rfl hβ ⟨x31, hm, rfl, rfl, rfl⟩
    ·refine C.seq (U.start ?_)
     refine U.ps 2 T rfl ?_
     refine U.done (C.nx ?_)
     refine C.ite rfl hm (fun hb34 hm => ?_) (fun hb34 hm => ?_)
     ·refine C.seq (U.start ?_)
      refine U.ps 5 T rfl ?_
      refine U.e (o := _) rfl (.none rfl) (by exact Eff.c [] (v := true) (T_taquinref07_Cell f x11.1 (w64 (x11.2.1 - 1)) x11.2.2 _ hm) en75 rfl rfl rfl (.eq rfl) trivial rfl rfl rfl rfl rfl rfl (fun _ _ => ⟨(.v _), trivial⟩) (.inr ⟨rfl, rfl⟩) (fun _ => rfl) (fun _ => rfl) rfl) (fun x37' hm => ?_)
      obtain ⟨x37⟩ := x37'
      refine U.ps 1 T rfl ?_
      refine U.done (C.nx (C.ret (C.brt (C.rt ?_))))
      exact C.fin T (rs' := [.i x37]) (H' := []) (nl' := 0) [] rfl rfl (.eq rfl) trivial rfl rfl rfl rfl hβ ⟨x37, hm, rfl, rfl, rfl⟩
     ·refine C.seq (U.start ?_)
      refine U.ps 2 T rfl ?_
      refine U.done (C.nx ?_)
      refine C.ite rfl hm (fun hb40 hm => ?_) (fun hb40 hm => ?_)
      ·refine C.seq (U.start ?_)
       refine U.ps 5 T rfl ?_
       refine U.e (o := _) rfl (.none rfl) (by exact Eff.c [] (v := true) (T_taquinref07_Cell f x11.1 x11.2.1 (w64 (x11.2.2 + 1)) _ hm) en75 rfl rfl rfl (.eq rfl) trivial rfl rfl rfl rfl rfl rfl (fun _ _ => ⟨(.v _), trivial⟩) (.inr ⟨rfl, rfl⟩) (fun _ => rfl) (fun _ => rfl) rfl) (fun x43' hm => ?_)
       obtain ⟨x43⟩ := x43'
       refine U.ps 1 T rfl ?_
       refine U.done (C.nx (C.ret (C.brt (C.rt ?_))))
       exact C.fin T (rs' := [.i x43]) (H' := []) (nl' := 0) [] rfl rfl (.eq rfl) trivial rfl rfl rfl rfl hβ ⟨x43, hm, rfl, rfl, rfl⟩
      ·refine C.seq (U.start ?_)
       refine U.ps 2 T rfl ?_
       refine U.done (C.nx ?_)
       refine C.ite rfl hm (fun hb46 hm => ?_) (fun hb46 hm => ?_)
       ·refine C.seq (U.start ?_)
        refine U.ps 5 T rfl ?_
        refine U.e (o := _) rfl (.none rfl) (by exact Eff.c [] (v := true) (T_taquinref07_Cell f x11.1 x11.2.1 (w64 (x11.2.2 - 1)) _ hm) en75 rfl rfl rfl (.eq rfl) trivial rfl rfl rfl rfl rfl rfl (fun _ _ => ⟨(.v _), trivial⟩) (.inr ⟨rfl, rfl⟩) (fun _ => rfl) (fun _ => rfl) rfl) (fun x49' hm => ?_)
        obtain ⟨x49⟩ := x49'
        refine U.ps 1 T rfl ?_
        refine U.done (C.nx (C.ret (C.brt (C.rt ?_))))
        exact C.fin T (rs' := [.i x49]) (H' := []) (nl' := 0) [] rfl rfl (.eq rfl) trivial rfl rfl rfl rfl hβ ⟨x49, hm, rfl, rfl, rfl⟩
       ·refine C.skip (C.bnx (C.nx (C.seq (U.start ?_))))
        refine U.ps 1 T rfl ?_
        refine U.done (C.nx (C.ret ?_))
        exact C.fin T (rs' := [.i (-1)]) (H' := []) (nl' := 0) [] rfl rfl (.eq rfl) trivial rfl rfl rfl rfl hβ ⟨(-1), hm, rfl, rfl, rfl⟩
theorem T_taquinref07_Next (f : ApiFloor) (c : Int) (d : Int) (post : (Int × Bool) → Prop) (hm : V_taquinref07_Next f c d post) :
    Tr Try.prog 51 [.agg (eApiFloor f), .i c, .i d] [] 0 (fun A H' k => ∃ y, post y ∧ A = (.tup [.i y.1, .b y.2]) ∧ H' = [] ∧ k = 0) := by
 refine Tr.intro (n := 60) Try.func51 rfl Try.ntmps51 rfl (fun w0 ok F β hβ => ?_)
 unfold V_taquinref07_Next at hm
 refine C.seq (U.start ?_)
 refine U.e1 (o := _) rfl (.none rfl) (by exact Eff1.box rfl rfl rfl rfl rfl) ?_
 refine U.ps 2 T rfl ?_
 refine U.done (C.nx (C.seq (U.start ?_)))
 refine U.ps 3 T rfl ?_
 refine U.e (o := _) rfl (.none rfl) (by exact Eff.c [] (v := true) (T_taquinref07_Beside f c d _ hm) en57 rfl rfl rfl (.eq rfl) trivial rfl rfl rfl rfl rfl rfl (fun _ _ => ⟨(.v _), trivial⟩) (.inr ⟨rfl, rfl⟩) (fun _ => rfl) (fun _ => rfl) rfl) (fun x5' hm => ?_)
 obtain ⟨x5⟩ := x5'
 refine U.ps 1 T rfl ?_
 refine U.done (C.nx (C.seq (C.seq (U.start ?_))))
 refine U.ps 2 T rfl ?_
 refine U.done (C.nx ?_)
 refine C.ite rfl hm (fun hb8 hm => ?_) (fun hb8 hm => ?_)
 ·refine C.seq (U.start ?_)
  refine U.ps 2 T rfl ?_
  refine U.done (C.nx (C.ret (C.rt ?_)))
  exact C.fin T (rs' := [.i ((0, false).1), .b ((0, false).2)]) (H' := []) (nl' := 0) [] rfl rfl (.eq rfl) trivial rfl rfl rfl rfl hβ ⟨(0, false), hm, rfl, rfl, rfl⟩
 ·refine C.skip (C.nx (C.seq (C.seq ?_)))
  refine C.jn (fun (x11 : Bool) => [(1, .i c), (2, .i d), (3, .p 0 0), (8, .i x5), (40, .b x11)]) (fun (x11 : Bool) => [(0, .box (eApiFloor f))]) 1 hm (fun x11 hm => ?_) (fun J12 hm hJ12 => ?_)
  ·refine C.nx ?_
   refine C.ite rfl hm (fun hb19 hm => ?_) (fun hb19 hm => ?_)
   ·refine C.seq (U.start ?_)
    refine U.ps 2 T rfl ?_
    refine U.done (C.nx (C.ret (C.rt ?_)))
    exact C.fin T (rs' := [.i ((0, false).1), .b ((0, false).2)]) (H' := []) (nl' := 0) [] rfl rfl (.eq rfl) trivial rfl rfl rfl rfl hβ ⟨(0, false), hm, rfl, rfl, rfl⟩
   ·refine C.skip (C.nx (C.seq (C.seq ?_)))
    refine C.jn (fun (x22 : Bool) => [(8, .i x5), (58, .b x22)]) (fun (x22 : Bool) => []) 0 hm (fun x22 hm => ?_) (fun J23 hm hJ23 => ?_)
    ·refine C.nx ?_
     refine C.ite rfl hm (fun hb28 hm => ?_) (fun hb28 hm => ?_)
     ·refine C.seq (U.start ?_)
      refine U.ps 2 T rfl ?_
      refine U.done (C.nx (C.ret (C.rt ?_)))
      exact C.fin T (rs' := [.i ((0, false).1), .b ((0, false).2)]) (H' := []) (nl' := 0) [] rfl rfl (.eq rfl) trivial rfl rfl rfl rfl hβ ⟨(0, false), hm, rfl, rfl, rfl⟩
     ·refine C.skip (C.nx (C.seq (U.start ?_)))
      refine U.ps 3 T rfl ?_
      refine U.done (C.nx (C.ret ?_))
      exact C.fin T (rs' := [.i ((x5, true).1), .b ((x5, true).2)]) (H' := []) (nl' := 0) [] rfl rfl (.eq rfl) trivial rfl rfl rfl rfl hβ ⟨(x5, true), hm, rfl, rfl, rfl⟩
    ·refine U.start ?_
     refine U.ps 3 T rfl ?_
     refine hm.cs (fun hb24 hm => ?_) (fun hb24 hm => ?_)
     ·refine U.pg 3 2 true 43 hb24 T rfl rfl rfl rfl ?_
      obtain ⟨x25, hx25, hm⟩ := hm
      refine U.r (o := _) rfl (.take 2 true 43 _ hb24 rfl rfl rfl) rfl rfl (by exact Rd.ix T rfl rfl rfl rfl rfl rfl hx25) ?_
      refine U.pg 3 2 true 43 hb24 T rfl rfl rfl rfl ?_
      refine hm.cs (fun hb26 hm => ?_) (fun hb26 hm => ?_)
      ·refine U.sks 6 9 false 50 hb26 rfl rfl rfl ?_
       refine U.r (o := _) rfl (.take 2 true 43 _ hb24 rfl rfl rfl) rfl rfl (by exact Rd.pk rfl rfl hb26 rfl) ?_
       refine U.r (o := _) rfl (.none rfl) rfl rfl (by exact Rd.pk rfl rfl hb24 rfl) ?_
       refine U.done ?_
       exact St.wk (hJ23 _ hm) (Wk.mk' [] rfl rfl (.eqs rfl) trivial rfl)
      ·refine U.pg 3 9 false 50 hb26 T rfl rfl rfl rfl ?_
       obtain ⟨x27, hx27, hm⟩ := hm
       refine U.r (o := _) rfl (.take 9 false 50 _ hb26 rfl rfl rfl) rfl rfl (by exact Rd.ix T rfl rfl rfl rfl rfl rfl hx27) ?_
       refine U.pg 2 9 false 50 hb26 T rfl rfl rfl rfl ?_
       refine U.r (o := _) rfl (.take 2 true 43 _ hb24 rfl rfl rfl) rfl rfl (by exact Rd.pk' rfl rfl hb26 rfl) ?_
       refine U.r (o := _) rfl (.none rfl) rfl rfl (by exact Rd.pk rfl rfl hb24 rfl) ?_
       refine U.done ?_
       exact St.wk (hJ23 _ hm) (Wk.mk' [] rfl rfl (.eqs rfl) trivial rfl)
     ·refine U.sks 7 2 true 43 hb24 rfl rfl rfl ?_
      refine U.sku 6 9 false 50 rfl rfl rfl ?_
      refine U.sks 1 2 true 43 hb24 rfl rfl rfl ?_
      refine U.r (o := _) rfl (.none rfl) rfl rfl (by exact Rd.pk' rfl rfl hb24 rfl) ?_
      refine U.done ?_
      exact St.wk (hJ23 _ hm) (Wk.mk' [] rfl rfl (.eqs rfl) trivial rfl)
  ·refine U.start ?_
   refine U.ps 3 T rfl ?_
   obtain ⟨x13, hx13, hm⟩ := hm
   refine U.r (o := _) rfl (.none rfl) rfl rfl (by exact Rd.ix T rfl rfl rfl rfl rfl rfl hx13) ?_
   refine U.ps 3 T rfl ?_
   refine hm.cs (fun hb14 hm => ?_) (fun hb14 hm => ?_)
   ·refine U.sks 6 6 false 21 hb14 rfl rfl rfl ?_
    refine U.r (o := _) rfl (.none rfl) rfl rfl (by exact Rd.pk rfl rfl hb14 rfl) ?_
    refine U.ps 1 T rfl ?_
    refine U.sks 10 14 false 29 rfl rfl rfl rfl ?_
    refine U.r (o := _) rfl (.none rfl) rfl rfl (by exact Rd.pk rfl rfl rfl rfl) ?_
    refine U.done ?_
    exact St.wk (hJ12 _ hm) (Wk.mk' [some 0] rfl rfl (.eqs rfl) ⟨⟨_, rfl, .box rfl (.eq rfl)⟩, trivial⟩ rfl)
   ·refine U.pg 3 6 false 21 hb14 T rfl rfl rfl rfl ?_
    obtain ⟨x15, hx15, hm⟩ := hm
    refine U.r (o := _) rfl (.take 6 false 21 _ hb14 rfl rfl rfl) rfl rfl (by exact Rd.ix T rfl rfl rfl rfl rfl rfl hx15) ?_
    refine U.pg 2 6 false 21 hb14 T rfl rfl rfl rfl ?_
    refine U.r (o := _) rfl (.none rfl) rfl rfl (by exact Rd.pk' rfl rfl hb14 rfl) ?_
    refine U.ps 1 T rfl ?_
    refine hm.cs (fun hb16 hm => ?_) (fun hb16 hm => ?_)
    ·refine U.sks 10 14 false 29 hb16 rfl rfl rfl ?_
     refine U.r (o := _) rfl (.none rfl) rfl rfl (by exact Rd.pk rfl rfl hb16 rfl) ?_
     refine U.done ?_
     exact St.wk (hJ12 _ hm) (Wk.mk' [some 0] rfl rfl (.eqs rfl) ⟨⟨_, rfl, .box rfl (.eq rfl)⟩, trivial⟩ rfl)
    ·refine U.pg 3 14 false 29 hb16 T rfl rfl rfl rfl ?_
     obtain ⟨x17, hx17, hm⟩ := hm
     refine U.r (o := _) rfl (.take 14 false 29 _ hb16 rfl rfl rfl) rfl rfl (by exact Rd.ix T rfl rfl rfl rfl rfl rfl hx17) ?_
     refine U.pg 3 14 false 29 hb16 T rfl rfl rfl rfl ?_
     obtain ⟨hx18, hm⟩ := hm
     refine U.r (o := _) rfl (.take 14 false 29 _ hb16 rfl rfl rfl) rfl rfl (by exact Rd.sh rfl rfl rfl rfl hx18) ?_
     refine U.pg 2 14 false 29 hb16 T rfl rfl rfl rfl ?_
     refine U.r (o := _) rfl (.none rfl) rfl rfl (by exact Rd.pk' rfl rfl hb16 rfl) ?_
     refine U.done ?_
     exact St.wk (hJ12 _ hm) (Wk.mk' [some 0] rfl rfl (.eqs rfl) ⟨⟨_, rfl, .box rfl (.eq rfl)⟩, trivial⟩ rfl)
theorem T_taquinref25_Gets (f : ApiFloor) (a : Int) (b : Int) (post : Bool → Prop) (hm : V_taquinref25_Gets f a b post) :
    Tr Try.prog 43 [.agg (eApiFloor f), .i a, .i b] [] 0 (fun A H' k => ∃ y, post y ∧ A = (.b y) ∧ H' = [] ∧ k = 0) := by
 refine Tr.intro (n := 27) Try.func43 rfl Try.ntmps43 rfl (fun w0 ok F β hβ => ?_)
 unfold V_taquinref25_Gets at hm
 refine C.seq (U.start ?_)
 refine U.e1 (o := _) rfl (.none rfl) (by exact Eff1.box rfl rfl rfl rfl rfl) ?_
 refine U.ps 1 T rfl ?_
 refine U.done (C.nx (C.seq (C.seq (U.start ?_))))
 refine U.ps 1 T rfl ?_
 refine U.done (C.nx ?_)
 refine C.jn (fun (x5 : Unit) => []) (fun (x5 : Unit) => []) 0 hm (fun x5 hm => ?_) (fun J6 hm hJ6 => ?_)
 ·refine C.nx (C.seq (U.start ?_))
  refine U.ps 1 T rfl ?_
  refine U.done (C.nx (C.ret ?_))
  exact C.fin T (rs' := [.b false]) (H' := []) (nl' := 0) [] rfl rfl (.eq rfl) trivial rfl rfl rfl rfl hβ ⟨false, hm, rfl, rfl, rfl⟩
 ·refine C.block ?_
  refine St.wk (C.loop (fun (s7 : Int) => [(1, .i a), (2, .i b), (3, .p 0 0), (7, .i s7)]) (fun (s7 : Int) => [(0, .box (eApiFloor f))]) hm (fun s7 Y8 hm => ?_)) (Wk.mk' [some 0] rfl rfl (.eqs rfl) ⟨⟨_, rfl, .box rfl (.eq rfl)⟩, trivial⟩ rfl)
  refine C.seq (C.seq (U.start ?_))
  refine U.ps 2 T rfl ?_
  refine U.done (C.nx ?_)
  refine C.ite rfl hm (fun hb11 hm => ?_) (fun hb11 hm => ?_)
  ·refine C.skip (C.nx (C.seq (C.block (C.seq (U.start ?_)))))
   refine U.ps 3 T rfl ?_
   refine U.e (o := _) rfl (.none rfl) (by exact Eff.c [] (v := true) (T_taquinref07_Next f a s7 _ hm) en51 rfl rfl rfl (.eq rfl) trivial rfl rfl rfl rfl rfl rfl (fun _ _ => ⟨(.tup (.cons (.v _) (.cons (.v _) .nil))), trivial⟩) (.inr ⟨rfl, rfl⟩) (fun _ => rfl) (fun _ => rfl) rfl) (fun x14' hm => ?_)
   obtain ⟨x14⟩ := x14'
   refine U.ps 5 T rfl ?_
   refine U.done (C.nx (C.seq ?_))
   refine C.jn (fun (x15 : Bool) => [(1, .i a), (2, .i b), (3, .p 0 0), (7, .i s7), (26, .b x15)]) (fun (x15 : Bool) => [(0, .box (eApiFloor f))]) 1 hm (fun x15 hm => ?_) (fun J16 hm hJ16 => ?_)
   ·refine C.nx ?_
    refine C.ite rfl hm (fun hb18 hm => ?_) (fun hb18 hm => ?_)
    ·refine C.seq (U.start ?_)
     refine U.ps 1 T rfl ?_
     refine U.done (C.nx (C.ret (C.brt (C.rt (C.rt (C.brt (C.rt ?_)))))))
     exact C.fin T (rs' := [.b true]) (H' := []) (nl' := 0) [] rfl rfl (.eq rfl) trivial rfl rfl rfl rfl hβ ⟨true, hm, rfl, rfl, rfl⟩
    ·refine C.skip (C.bnx (C.nx (U.start ?_)))
     refine U.ps 3 T rfl ?_
     refine U.done (C.nx ?_)
     exact St.wk (C.next hm) (Wk.mk' [some 0] rfl rfl (.eqs rfl) ⟨⟨_, rfl, .box rfl (.eq rfl)⟩, trivial⟩ rfl)
   ·refine U.start ?_
    refine U.ps 2 T rfl ?_
    refine hm.cs (fun hb17 hm => ?_) (fun hb17 hm => ?_)
    ·refine U.pg 3 1 true 22 hb17 T rfl rfl rfl rfl ?_
     refine U.r (o := _) rfl (.none rfl) rfl rfl (by exact Rd.pk rfl rfl hb17 rfl) ?_
     refine U.done ?_
     exact St.wk (hJ16 _ hm) (Wk.mk' [some 0] rfl rfl (.eqs rfl) ⟨⟨_, rfl, .box rfl (.eq rfl)⟩, trivial⟩ rfl)
    ·refine U.sks 3 1 true 22 hb17 rfl rfl rfl ?_
     refine U.r (o := _) rfl (.none rfl) rfl rfl (by exact Rd.pk' rfl rfl hb17 rfl) ?_
     refine U.done ?_
     exact St.wk (hJ16 _ hm) (Wk.mk' [some 0] rfl rfl (.eqs rfl) ⟨⟨_, rfl, .box rfl (.eq rfl)⟩, trivial⟩ rfl)
  ·refine C.exit (C.ex (C.ex (C.bex ?_)))
   exact St.wk (hJ6 _ hm) (Wk.mk' [] rfl rfl trivial trivial rfl)
theorem T_taquinref25_between (f : ApiFloor) (r : List Int) (l : ApiLayout) (full : Bool) (post : (List ApiShift) → Prop) (hm : V_taquinref25_between f r l full post) :
    Tr Try.prog 45 [.agg (eApiFloor f), .sl 1 eI r, .agg [.sl 1 eB l.Full, .i l.Target], .b full] [] 0 (fun A H' k => ∃ y, post y ∧ A = (.o 0) ∧ H' = [(0, .val (.os 2 eApiShift y))] ∧ k = 1) := by
 refine Tr.intro (n := 73) Try.func45 rfl Try.ntmps45 rfl (fun w0 ok F β hβ => ?_)
 unfold V_taquinref25_between at hm
 refine C.seq (U.start ?_)
 refine U.e1 (o := _) rfl (.none rfl) (by exact Eff1.box rfl rfl rfl rfl rfl) ?_
 refine U.e1 (o := _) rfl (.none rfl) (by exact Eff1.box rfl rfl rfl rfl rfl) ?_
 refine U.ps 1 T rfl ?_
 refine U.done (C.nx (C.seq (U.start ?_)))
 refine U.ps 1 T rfl ?_
 refine U.done (C.nx (C.seq (C.seq (U.start ?_))))
 refine U.ps 1 T rfl ?_
 refine U.done (C.nx ?_)
 refine C.jn (fun (x7 : List ApiShift) => [(9, .o 0)]) (fun (x7 : List ApiShift) => [(0, .val (.os 2 eApiShift x7))]) 1 hm (fun x7 hm => ?_) (fun J8 hm hJ8 => ?_)
 ·refine C.nx (C.seq (U.start ?_))
  refine U.ps 2 T rfl ?_
  refine U.done (C.nx (C.ret ?_))
  exact C.fin T (rs' := [.o 0]) (H' := [(0, .val (.os 2 eApiShift x7))]) (nl' := 1) [some 0] rfl rfl (.eq rfl) ⟨⟨_, rfl, .val rfl⟩, trivial⟩ rfl rfl rfl rfl hβ ⟨x7, hm, rfl, rfl, rfl⟩
 ·refine C.block ?_
  refine St.wk (C.loop (fun (s9 : List ApiShift × Int) => [(1, .sl 1 eI r), (3, .b full), (4, .p 0 0), (6, .p 1 0), (9, .o 2), (10, .i s9.2)]) (fun (s9 : List ApiShift × Int) => [(0, .box (eApiFloor f)), (1, .box [.sl 1 eB l.Full, .i l.Target]), (2, .val (.os 2 eApiShift s9.1))]) hm (fun s9 Y10 hm => ?_)) (Wk.mk' [some 0, some 1, none] rfl rfl ⟨⟨_, rfl, (.eq rfl)⟩, ⟨_, rfl, (.eq rfl)⟩, ⟨_, rfl, (.eq rfl)⟩, ⟨_, rfl, (.eq rfl)⟩, ⟨_, rfl, (.nilO _ _ ⟨rfl, rfl⟩ rfl)⟩, ChkG.eqs rfl⟩ ⟨⟨_, rfl, .box rfl (.eq rfl)⟩, ⟨_, rfl, .box rfl (.eq rfl)⟩, ⟨_, rfl, .nil _ _⟩, trivial⟩ rfl)
  refine C.seq (C.seq ?_)
  refine C.jn (fun (x11 : Bool) => [(1, .sl 1 eI r), (3, .b full), (4, .p 0 0), (6, .p 1 0), (9, .o 2), (10, .i s9.2), (22, .b x11)]) (fun (x11 : Bool) => [(0, .box (eApiFloor f)), (1, .box [.sl 1 eB l.Full, .i l.Target]), (2, .val (.os 2 eApiShift s9.1))]) 3 hm (fun x11 hm => ?_) (fun J12 hm hJ12 => ?_)
  ·refine C.nx ?_
   refine C.ite rfl hm (fun hb14 hm => ?_) (fun hb14 hm => ?_)
   ·refine C.skip (C.nx (C.seq ?_))
    refine C.jn (fun (x15 : List ApiShift) => [(1, .sl 1 eI r), (3, .b full), (4, .p 0 0), (6, .p 1 0), (9, .o 2), (10, .i s9.2)]) (fun (x15 : List ApiShift) => [(0, .box (eApiFloor f)), (1, .box [.sl 1 eB l.Full, .i l.Target]), (2, .val (.os 2 eApiShift x15))]) 3 hm (fun x15 hm => ?_) (fun J16 hm hJ16 => ?_)
    ·refine C.nx (U.start ?_)
     refine U.ps 3 T rfl ?_
     refine U.done (C.nx ?_)
     exact St.wk (C.next hm) (Wk.mk' [some 0, some 1, some 2] rfl rfl (.eqs rfl) ⟨⟨_, rfl, .box rfl (.eq rfl)⟩, ⟨_, rfl, .box rfl (.eq rfl)⟩, ⟨_, rfl, .val rfl⟩, trivial⟩ rfl)
    ·refine C.block (C.seq (U.start ?_))
     refine U.ps 1 T rfl ?_
     refine U.done (C.nx ?_)
     refine C.jn (fun (x19 : List ApiShift) => [(1, .sl 1 eI r), (3, .b full), (4, .p 0 0), (6, .p 1 0), (9, .o 2), (10, .i s9.2)]) (fun (x19 : List ApiShift) => [(0, .box (eApiFloor f)), (1, .box [.sl 1 eB l.Full, .i l.Target]), (2, .val (.os 2 eApiShift x19))]) 3 hm (fun x19 hm => ?_) (fun J20 hm hJ20 => ?_)
     ·refine C.bnx ?_
      exact St.wk (hJ16 _ hm) (Wk.mk' [some 0, some 1, some 2] rfl rfl (.eqs rfl) ⟨⟨_, rfl, .box rfl (.eq rfl)⟩, ⟨_, rfl, .box rfl (.eq rfl)⟩, ⟨_, rfl, .val rfl⟩, trivial⟩ rfl)
     ·refine C.block ?_
      refine St.wk (C.loop (fun (s21 : List ApiShift × Int) => [(1, .sl 1 eI r), (3, .b full), (4, .p 0 0), (6, .p 1 0), (9, .o 2), (10, .i s9.2), (11, .i s21.2)]) (fun (s21 : List ApiShift × Int) => [(0, .box (eApiFloor f)), (1, .box [.sl 1 eB l.Full, .i l.Target]), (2, .val (.os 2 eApiShift s21.1))]) hm (fun s21 Y22 hm => ?_)) (Wk.mk' [some 0, some 1, some 2] rfl rfl (.eqs rfl) ⟨⟨_, rfl, .box rfl (.eq rfl)⟩, ⟨_, rfl, .box rfl (.eq rfl)⟩, ⟨_, rfl, .val rfl⟩, trivial⟩ rfl)
      refine C.seq (C.seq ?_)
      refine C.jn (fun (x23 : Bool) => [(1, .sl 1 eI r), (3, .b full), (4, .p 0 0), (6, .p 1 0), (9, .o 2), (10, .i s9.2), (11, .i s21.2), (35, .b x23)]) (fun (x23 : Bool) => [(0, .box (eApiFloor f)), (1, .box [.sl 1 eB l.Full, .i l.Target]), (2, .val (.os 2 eApiShift s21.1))]) 3 hm (fun x23 hm => ?_) (fun J24 hm hJ24 => ?_)
      ·refine C.nx ?_
       refine C.ite rfl hm (fun hb26 hm => ?_) (fun hb26 hm => ?_)
       ·refine C.skip (C.nx (C.seq (C.block (C.seq ?_))))
        refine C.jn (fun (x27 : Bool) => [(1, .sl 1 eI r), (3, .b full), (4, .p 0 0), (6, .p 1 0), (9, .o 2), (10, .i s9.2), (11, .i s21.2), (65, .b x27)]) (fun (x27 : Bool) => [(0, .box (eApiFloor f)), (1, .box [.sl 1 eB l.Full, .i l.Target]), (2, .val (.os 2 eApiShift s21.1))]) 3 hm (fun x27 hm => ?_) (fun J28 hm hJ28 => ?_)
        ·refine C.nx ?_
         refine C.jn (fun (x36 : List ApiShift) => [(1, .sl 1 eI r), (3, .b full), (4, .p 0 0), (6, .p 1 0), (9, .o 2), (10, .i s9.2), (11, .i s21.2)]) (fun (x36 : List ApiShift) => [(0, .box (eApiFloor f)), (1, .box [.sl 1 eB l.Full, .i l.Target]), (2, .val (.os 2 eApiShift x36))]) 3 hm (fun x36 hm => ?_) (fun J37 hm hJ37 => ?_)
         ·refine C.bnx (C.nx (U.start ?_))
          refine U.ps 3 T rfl ?_
          refine U.done (C.nx ?_)
          exact St.wk (C.next hm) (Wk.mk' [some 0, some 1, some 2] rfl rfl (.eqs rfl) ⟨⟨_, rfl, .box rfl (.eq rfl)⟩, ⟨_, rfl, .box rfl (.eq rfl)⟩, ⟨_, rfl, .val rfl⟩, trivial⟩ rfl)
         ·refine C.ite rfl hm (fun hb38 hm => ?_) (fun hb38 hm => ?_)
          ·refine U.start ?_
           refine U.ps 4 T rfl ?_
           refine U.e1 (o := _) rfl (.none rfl) (by exact Eff1.bs T (enc := eApiShift) (xs := ([({ From := s9.2, To := s21.2 : ApiShift })] : List ApiShift)) rfl rfl rfl rfl rfl rfl rfl rfl rfl rfl (fun _ _ => rfl) rfl rfl) ?_
           obtain ⟨hx41, hm⟩ := hm
           refine U.e1 (o := _) rfl (.none rfl) (by exact Eff1.ap T rfl rfl rfl rfl rfl rfl (.inr ⟨_, rfl, rfl⟩) rfl rfl rfl (fun _ => rfl) rfl hx41) ?_
           refine U.ps 1 T rfl ?_
           refine U.done ?_
           exact St.wk (hJ37 _ hm) (Wk.mk' [some 0, some 1, some 4] rfl rfl (.eqs rfl) ⟨⟨_, rfl, .box rfl (.eq rfl)⟩, ⟨_, rfl, .box rfl (.eq rfl)⟩, ⟨_, rfl, .val rfl⟩, trivial⟩ rfl)
          ·refine C.skip ?_
           exact St.wk (hJ37 _ hm) (Wk.mk' [some 0, some 1, some 2] rfl rfl (.eqs rfl) ⟨⟨_, rfl, .box rfl (.eq rfl)⟩, ⟨_, rfl, .box rfl (.eq rfl)⟩, ⟨_, rfl, .val rfl⟩, trivial⟩ rfl)
        ·refine D.beg 9999 [0, 1] [] mix rfl rfl (by kernel_rfl) (by repeat (first | exact NoPanicQ.body | refine NoPanicQ.th ?_ | refine NoPanicQ.blk ?_)) (fun hQ hS ws M' => ?_)
         refine D.ps 3 [(0, []), (1, []), (2, [])] rfl hQ hS T rfl rfl (by kernel_rfl) ?_
         obtain ⟨x29, hx29, hm⟩ := hm
         refine D.q (o := _) 3 [] hQ hS rfl (.none rfl) rfl rfl (by exact Rd.ix T rfl rfl rfl rfl rfl rfl hx29) rfl (by kernel_rfl) ?_
         refine D.ps 4 [(4, []), (5, []), (6, []), (7, [])] rfl hQ hS T rfl rfl (by kernel_rfl) ?_
         refine hm.cs (fun hb30 hm => ?_) (fun hb30 hm => ?_)
         ·refine D.q (o := _) 8 [] hQ hS rfl (.take 7 true 45 _ hb30 rfl rfl rfl) rfl rfl (by exact Rd.p T rfl) rfl (by kernel_rfl) ?_
          refine D.q (o := _) 9 [] hQ hS rfl (.take 7 true 45 _ hb30 rfl rfl rfl) rfl rfl (by exact Rd.l T rfl rfl rfl) rfl (by kernel_rfl) ?_
          refine D.q (o := _) 10 [] hQ hS rfl (.take 7 true 45 _ hb30 rfl rfl rfl) rfl rfl (by exact Rd.p T rfl) rfl (by kernel_rfl) ?_
          obtain ⟨x31, hx31, hm⟩ := hm
          refine D.q (o := _) 11 [] hQ hS rfl (.take 7 true 45 _ hb30 rfl rfl rfl) rfl rfl (by exact Rd.ix T rfl rfl rfl rfl rfl rfl hx31) rfl (by kernel_rfl) ?_
          refine D.q (o := _) 12 [] hQ hS rfl (.take 7 true 45 _ hb30 rfl rfl rfl) rfl rfl (by exact Rd.l T rfl rfl rfl) rfl (by kernel_rfl) ?_
          refine D.q (o := _) 13 [] hQ hS rfl (.take 7 true 45 _ hb30 rfl rfl rfl) rfl rfl (by exact Rd.p T rfl) rfl (by kernel_rfl) ?_
          refine D.q (o := _) 14 [] hQ hS rfl (.take 7 true 45 _ hb30 rfl rfl rfl) rfl rfl (by exact Rd.p T rfl) rfl (by kernel_rfl) ?_
          refine D.q (o := _) 15 [] hQ hS rfl (.none rfl) rfl rfl (by exact Rd.pk rfl rfl hb30 rfl) rfl (by kernel_rfl) ?_
          refine D.ps 1 [(16, [])] rfl hQ hS T rfl rfl (by kernel_rfl) ?_
          refine hm.cs (fun hb32 hm => ?_) (fun hb32 hm => ?_)
          ·refine D.sq (o := _) 17 [] hQ hS rfl (.skip 16 true 54 _ (ntF hb32) rfl rfl rfl) rfl rfl (by kernel_rfl) ?_
           refine D.sq (o := _) 18 [] hQ hS rfl (.skip 16 true 54 _ (ntF hb32) rfl rfl rfl) rfl rfl (by kernel_rfl) ?_
           refine D.sq (o := _) 19 [] hQ hS rfl (.skip 16 true 54 _ (ntF hb32) rfl rfl rfl) rfl rfl (by kernel_rfl) ?_
           refine D.sq (o := _) 20 [] hQ hS rfl (.skip 16 true 54 _ (ntF hb32) rfl rfl rfl) rfl rfl (by kernel_rfl) ?_
           refine D.sq (o := _) 21 [] hQ hS rfl (.skip 16 true 54 _ (ntF hb32) rfl rfl rfl) rfl rfl (by kernel_rfl) ?_
           refine D.sq (o := _) 22 [] hQ hS rfl (.skip 16 true 54 _ (ntF hb32) rfl rfl rfl) rfl rfl (by kernel_rfl) ?_
           refine D.sq (o := _) 23 [] hQ hS rfl (.skip 16 true 54 _ (ntF hb32) rfl rfl rfl) rfl rfl (by kernel_rfl) ?_
           refine D.sq (o := _) 24 [] hQ hS rfl (.skip 16 true 54 _ (ntF hb32) rfl rfl rfl) rfl rfl (by kernel_rfl) ?_
           refine D.sq (o := _) 25 [] hQ hS rfl (.skip 16 true 54 _ (ntF hb32) rfl rfl rfl) rfl rfl (by kernel_rfl) ?_
           refine D.sq (o := _) 26 [] hQ hS rfl (.skip 16 true 54 _ (ntF hb32) rfl rfl rfl) rfl rfl (by kernel_rfl) ?_
           refine D.q (o := _) 27 [] hQ hS rfl (.none rfl) rfl rfl (by exact Rd.pk' rfl rfl (ntF hb32) rfl) rfl (by kernel_rfl) ?_
           refine D.done (by kernel_rfl) ?_
           exact St.wk (hJ28 _ hm) (Wk.mk' [some 0, some 1, some 2] rfl rfl (.eqs rfl) ⟨⟨_, rfl, .box rfl (.eq rfl)⟩, ⟨_, rfl, .box rfl (.eq rfl)⟩, ⟨_, rfl, .val rfl⟩, trivial⟩ rfl)
          ·refine D.q (o := _) 17 [] hQ hS rfl (.take 16 true 54 _ (ntT hb32) rfl rfl rfl) rfl rfl (by exact Rd.l T rfl rfl rfl) rfl (by kernel_rfl) ?_
           refine D.q (o := _) 18 [] hQ hS rfl (.take 16 true 54 _ (ntT hb32) rfl rfl rfl) rfl rfl (by exact Rd.p T rfl) rfl (by kernel_rfl) ?_
           refine D.q (o := _) 19 [] hQ hS rfl (.take 16 true 54 _ (ntT hb32) rfl rfl rfl) rfl rfl (by exact Rd.p T rfl) rfl (by kernel_rfl) ?_
           obtain ⟨x33, hx33, hm⟩ := hm
           refine D.q (o := _) 20 [] hQ hS rfl (.take 16 true 54 _ (ntT hb32) rfl rfl rfl) rfl rfl (by exact Rd.ix T rfl rfl rfl rfl rfl rfl hx33) rfl (by kernel_rfl) ?_
           refine D.q (o := _) 21 [] hQ hS rfl (.take 16 true 54 _ (ntT hb32) rfl rfl rfl) rfl rfl (by exact Rd.l T rfl rfl rfl) rfl (by kernel_rfl) ?_
           refine D.q (o := _) 22 [] hQ hS rfl (.take 16 true 54 _ (ntT hb32) rfl rfl rfl) rfl rfl (by exact Rd.p T rfl) rfl (by kernel_rfl) ?_
           refine D.q (o := _) 23 [] hQ hS rfl (.take 16 true 54 _ (ntT hb32) rfl rfl rfl) rfl rfl (by exact Rd.p T rfl) rfl (by kernel_rfl) ?_
           obtain ⟨x34, hx34, hm⟩ := hm
           refine D.q (o := _) 24 [] hQ hS rfl (.take 16 true 54 _ (ntT hb32) rfl rfl rfl) rfl rfl (by exact Rd.ix T rfl rfl rfl rfl rfl rfl hx34) rfl (by kernel_rfl) ?_
           refine D.q (o := _) 25 [] hQ hS rfl (.take 16 true 54 _ (ntT hb32) rfl rfl rfl) rfl rfl (by exact Rd.l T rfl rfl rfl) rfl (by kernel_rfl) ?_
           refine D.e (o := _) 26 rfl (.take 16 true 54 _ (ntT hb32) rfl rfl rfl) (by exact Eff.c [] (v := true) (T_taquinref25_Gets f x33 x34 _ hm) en43 rfl rfl rfl (.eq rfl) trivial rfl rfl rfl rfl rfl rfl (fun _ _ => ⟨(.v _), trivial⟩) (.inr ⟨rfl, rfl⟩) (fun _ => rfl) (fun _ => rfl) rfl) (by kernel_rfl) rfl rfl (fun x35' hm => ?_)
           obtain ⟨x35⟩ := x35'
           refine D.q (o := _) 27 [] hQ hS rfl (.none rfl) rfl rfl (by exact Rd.pk rfl rfl (ntT hb32) rfl) rfl (by kernel_rfl) ?_
           refine D.done (by kernel_rfl) ?_
           exact St.wk (hJ28 _ hm) (Wk.mk' [some 0, some 1, some 2] rfl rfl (.eqs rfl) ⟨⟨_, rfl, .box rfl (.eq rfl)⟩, ⟨_, rfl, .box rfl (.eq rfl)⟩, ⟨_, rfl, .val rfl⟩, trivial⟩ rfl)
         ·refine D.sq (o := _) 8 [] hQ hS rfl (.skip 7 true 45 _ hb30 rfl rfl rfl) rfl rfl (by kernel_rfl) ?_
          refine D.sq (o := _) 9 [] hQ hS rfl (.skip 7 true 45 _ hb30 rfl rfl rfl) rfl rfl (by kernel_rfl) ?_
          refine D.sq (o := _) 10 [] hQ hS rfl (.skip 7 true 45 _ hb30 rfl rfl rfl) rfl rfl (by kernel_rfl) ?_
          refine D.sq (o := _) 11 [] hQ hS rfl (.skip 7 true 45 _ hb30 rfl rfl rfl) rfl rfl (by kernel_rfl) ?_
          refine D.sq (o := _) 12 [] hQ hS rfl (.skip 7 true 45 _ hb30 rfl rfl rfl) rfl rfl (by kernel_rfl) ?_
          refine D.sq (o := _) 13 [] hQ hS rfl (.skip 7 true 45 _ hb30 rfl rfl rfl) rfl rfl (by kernel_rfl) ?_
          refine D.sq (o := _) 14 [] hQ hS rfl (.skip 7 true 45 _ hb30 rfl rfl rfl) rfl rfl (by kernel_rfl) ?_
          refine D.q (o := _) 15 [] hQ hS rfl (.none rfl) rfl rfl (by exact Rd.pk' rfl rfl hb30 rfl) rfl (by kernel_rfl) ?_
          refine D.ps 1 [(16, [])] rfl hQ hS T rfl rfl (by kernel_rfl) ?_
          refine D.sq (o := _) 17 [] hQ hS rfl (.skip 16 true 54 _ rfl rfl rfl rfl) rfl rfl (by kernel_rfl) ?_
          refine D.sq (o := _) 18 [] hQ hS rfl (.skip 16 true 54 _ rfl rfl rfl rfl) rfl rfl (by kernel_rfl) ?_
          refine D.sq (o := _) 19 [] hQ hS rfl (.skip 16 true 54 _ rfl rfl rfl rfl) rfl rfl (by kernel_rfl) ?_
          refine D.sq (o := _) 20 [] hQ hS rfl (.skip 16 true 54 _ rfl rfl rfl rfl) rfl rfl (by kernel_rfl) ?_
          refine D.sq (o := _) 21 [] hQ hS rfl (.skip 16 true 54 _ rfl rfl rfl rfl) rfl rfl (by kernel_rfl) ?_
          refine D.sq (o := _) 22 [] hQ hS rfl (.skip 16 true 54 _ rfl rfl rfl rfl) rfl rfl (by kernel_rfl) ?_
          refine D.sq (o := _) 23 [] hQ hS rfl (.skip 16 true 54 _ rfl rfl rfl rfl) rfl rfl (by kernel_rfl) ?_
          refine D.sq (o := _) 24 [] hQ hS rfl (.skip 16 true 54 _ rfl rfl rfl rfl) rfl rfl (by kernel_rfl) ?_
          refine D.sq (o := _) 25 [] hQ hS rfl (.skip 16 true 54 _ rfl rfl rfl rfl) rfl rfl (by kernel_rfl) ?_
          refine D.sq (o := _) 26 [] hQ hS rfl (.skip 16 true 54 _ rfl rfl rfl rfl) rfl rfl (by kernel_rfl) ?_
          refine D.q (o := _) 27 [] hQ hS rfl (.none rfl) rfl rfl (by exact Rd.pk' rfl rfl rfl rfl) rfl (by kernel_rfl) ?_
          refine D.done (by kernel_rfl) ?_
          exact St.wk (hJ28 _ hm) (Wk.mk' [some 0, some 1, some 2] rfl rfl (.eqs rfl) ⟨⟨_, rfl, .box rfl (.eq rfl)⟩, ⟨_, rfl, .box rfl (.eq rfl)⟩, ⟨_, rfl, .val rfl⟩, trivial⟩ rfl)
       ·refine C.exit (C.ex (C.ex (C.bex ?_)))
        exact St.wk (hJ20 _ hm) (Wk.mk' [some 0, some 1, some 2] rfl rfl (.eqs rfl) ⟨⟨_, rfl, .box rfl (.eq rfl)⟩, ⟨_, rfl, .box rfl (.eq rfl)⟩, ⟨_, rfl, .val rfl⟩, trivial⟩ rfl)
      ·refine U.start ?_
       refine U.ps 5 T rfl ?_
       refine hm.cs (fun hb25 hm => ?_) (fun hb25 hm => ?_)
       ·refine U.pg 5 4 true 29 hb25 T rfl rfl rfl rfl ?_
        refine U.r (o := _) rfl (.none rfl) rfl rfl (by exact Rd.pk rfl rfl hb25 rfl) ?_
        refine U.done ?_
        exact St.wk (hJ24 _ hm) (Wk.mk' [some 0, some 1, some 2] rfl rfl (.eqs rfl) ⟨⟨_, rfl, .box rfl (.eq rfl)⟩, ⟨_, rfl, .box rfl (.eq rfl)⟩, ⟨_, rfl, .val rfl⟩, trivial⟩ rfl)
       ·refine U.sks 5 4 true 29 hb25 rfl rfl rfl ?_
        refine U.r (o := _) rfl (.none rfl) rfl rfl (by exact Rd.pk' rfl rfl hb25 rfl) ?_
        refine U.done ?_
        exact St.wk (hJ24 _ hm) (Wk.mk' [some 0, some 1, some 2] rfl rfl (.eqs rfl) ⟨⟨_, rfl, .box rfl (.eq rfl)⟩, ⟨_, rfl, .box rfl (.eq rfl)⟩, ⟨_, rfl, .val rfl⟩, trivial⟩ rfl)
   ·refine C.exit (C.ex (C.ex (C.bex ?_)))
    exact St.wk (hJ8 _ hm) (Wk.mk' [some 2] rfl rfl (.eqs rfl) ⟨⟨_, rfl, .val rfl⟩, trivial⟩ rfl)
  ·refine U.start ?_
   refine U.ps 5 T rfl ?_
   refine hm.cs (fun hb13 hm => ?_) (fun hb13 hm => ?_)
   ·refine U.pg 5 4 true 16 hb13 T rfl rfl rfl rfl ?_
    refine U.r (o := _) rfl (.none rfl) rfl rfl (by exact Rd.pk rfl rfl hb13 rfl) ?_
    refine U.done ?_
    exact St.wk (hJ12 _ hm) (Wk.mk' [some 0, some 1, some 2] rfl rfl (.eqs rfl) ⟨⟨_, rfl, .box rfl (.eq rfl)⟩, ⟨_, rfl, .box rfl (.eq rfl)⟩, ⟨_, rfl, .val rfl⟩, trivial⟩ rfl)
   ·refine U.sks 5 4 true 16 hb13 rfl rfl rfl ?_
    refine U.r (o := _) rfl (.none rfl) rfl rfl (by exact Rd.pk' rfl rfl hb13 rfl) ?_
    refine U.done ?_
    exact St.wk (hJ12 _ hm) (Wk.mk' [some 0, some 1, some 2] rfl rfl (.eqs rfl) ⟨⟨_, rfl, .box rfl (.eq rfl)⟩, ⟨_, rfl, .box rfl (.eq rfl)⟩, ⟨_, rfl, .val rfl⟩, trivial⟩ rfl)
theorem T_taquinref25_Backs (f : ApiFloor) (r : List Int) (l : ApiLayout) (post : (List ApiShift) → Prop) (hm : V_taquinref25_Backs f r l post) :
    Tr Try.prog 34 [.agg (eApiFloor f), .sl 1 eI r, .agg [.sl 1 eB l.Full, .i l.Target]] [] 0 (fun A H' k => ∃ y, post y ∧ A = (.o 0) ∧ H' = [(0, .val (.os 2 eApiShift y))] ∧ k = 1) := by
 refine Tr.intro (n := 11) Try.func34 rfl Try.ntmps34 rfl (fun w0 ok F β hβ => ?_)
 unfold V_taquinref25_Backs at hm
 refine C.seq (U.start ?_)
 refine U.e1 (o := _) rfl (.none rfl) (by exact Eff1.box rfl rfl rfl rfl rfl) ?_
 refine U.e1 (o := _) rfl (.none rfl) (by exact Eff1.box rfl rfl rfl rfl rfl) ?_
 refine U.ps 1 T rfl ?_
 refine U.done (C.nx (C.seq (U.start ?_)))
 refine U.ps 3 T rfl ?_
 refine U.e (o := _) rfl (.none rfl) (by exact Eff.c [] (v := true) (T_taquinref25_between f r l false _ hm) en45 rfl rfl rfl (.eq rfl) trivial rfl rfl rfl rfl rfl rfl (fun _ _ => ⟨(.o _), ⟨.val (.os _ _ _ fun _ => (.cons (.v _) (.cons (.v _) .nil))), trivial⟩⟩) (.inr ⟨rfl, rfl⟩) (fun _ => rfl) (fun _ => rfl) rfl) (fun x5' hm => ?_)
 obtain ⟨x5⟩ := x5'
 refine U.ps 1 T rfl ?_
 refine U.done (C.nx (C.ret ?_))
 exact C.fin T (rs' := [.o 0]) (H' := [(0, .val (.os 2 eApiShift x5))]) (nl' := 1) [some 2] rfl rfl (.eq rfl) ⟨⟨_, rfl, .val rfl⟩, trivial⟩ rfl rfl rfl rfl hβ ⟨x5, hm, rfl, rfl, rfl⟩
theorem T_taquinref25_Do (l : ApiLayout) (s_1 : ApiShift) (post : (ApiLayout × Int) → Prop) (hm : V_taquinref25_Do l s_1 post) :
    Tr Try.prog 35 [.agg [.sl 1 eB l.Full, .i l.Target], .agg [.i s_1.From, .i s_1.To]] [] 0 (fun A H' k => ∃ y, post y ∧ A = (.tup [.agg [.o 0, .i y.1.Target], .i y.2]) ∧ H' = [(0, .val (.os 1 eB y.1.Full))] ∧ k = 1) := by
 refine Tr.intro (n := 74) Try.func35 rfl Try.ntmps35 rfl (fun w0 ok F β hβ => ?_)
 unfold V_taquinref25_Do at hm
 refine C.seq (U.start ?_)
 refine U.e1 (o := _) rfl (.none rfl) (by exact Eff1.box rfl rfl rfl rfl rfl) ?_
 refine U.e1 (o := _) rfl (.none rfl) (by exact Eff1.box rfl rfl rfl rfl rfl) ?_
 refine U.e1 (o := _) rfl (.none rfl) (by exact Eff1.al T rfl rfl rfl rfl) ?_
 refine U.ps 1 T rfl ?_
 refine U.done (C.nx (C.seq (C.seq ?_)))
 refine C.jn (fun (x3 : Bool) => [(2, .p 0 0), (3, .p 1 0), (4, .p 2 0), (30, .b x3)]) (fun (x3 : Bool) => [(0, .box [.sl 1 eB l.Full, .i l.Target]), (1, .box [.i s_1.From, .i s_1.To]), (2, .box [.v (.slice none 0 0), .i 0])]) 3 hm (fun x3 hm => ?_) (fun J4 hm hJ4 => ?_)
 ·refine C.nx ?_
  refine C.ite rfl hm (fun hb8 hm => ?_) (fun hb8 hm => ?_)
  ·refine C.seq (U.start ?_)
   refine U.ps 1 T rfl ?_
   refine U.e1 (o := _) rfl (.none rfl) (by exact Eff1.st T rfl rfl rfl rfl rfl rfl rfl rfl rfl rfl) ?_
   refine U.ps 1 T rfl ?_
   refine U.done (C.nx (C.ret (C.rt ?_)))
   exact C.fin T (rs' := [.agg [.o 0, .i (((({ Full := [], Target := 0 : ApiLayout }), 3).1).Target)], .i ((({ Full := [], Target := 0 : ApiLayout }), 3).2)]) (H' := [(0, .val (.os 1 eB (((({ Full := [], Target := 0 : ApiLayout }), 3).1).Full)))]) (nl' := 1) [none] rfl rfl (.cons (.agg (.cons (.nilO _ _ ⟨rfl, rfl⟩ rfl) (.eq rfl))) (.eq rfl)) ⟨⟨_, rfl, .nil _ _⟩, trivial⟩ rfl rfl rfl rfl hβ ⟨(({ Full := [], Target := 0 : ApiLayout }), 3), hm, rfl, rfl, rfl⟩
  ·refine C.skip (C.nx (C.seq (C.seq ?_)))
   refine C.jn (fun (x11 : Bool) => [(2, .p 0 0), (3, .p 1 0), (4, .p 2 0), (46, .b x11)]) (fun (x11 : Bool) => [(0, .box [.sl 1 eB l.Full, .i l.Target]), (1, .box [.i s_1.From, .i s_1.To]), (2, .box [.v (.slice none 0 0), .i 0])]) 3 hm (fun x11 hm => ?_) (fun J12 hm hJ12 => ?_)
   ·refine C.nx ?_
    refine C.ite rfl hm (fun hb16 hm => ?_) (fun hb16 hm => ?_)
    ·refine C.seq (U.start ?_)
     refine U.ps 1 T rfl ?_
     refine U.e1 (o := _) rfl (.none rfl) (by exact Eff1.st T rfl rfl rfl rfl rfl rfl rfl rfl rfl rfl) ?_
     refine U.ps 1 T rfl ?_
     refine U.done (C.nx (C.ret (C.rt ?_)))
     exact C.fin T (rs' := [.agg [.o 0, .i (((({ Full := [], Target := 0 : ApiLayout }), 13).1).Target)], .i ((({ Full := [], Target := 0 : ApiLayout }), 13).2)]) (H' := [(0, .val (.os 1 eB (((({ Full := [], Target := 0 : ApiLayout }), 13).1).Full)))]) (nl' := 1) [none] rfl rfl (.cons (.agg (.cons (.nilO _ _ ⟨rfl, rfl⟩ rfl) (.eq rfl))) (.eq rfl)) ⟨⟨_, rfl, .nil _ _⟩, trivial⟩ rfl rfl rfl rfl hβ ⟨(({ Full := [], Target := 0 : ApiLayout }), 13), hm, rfl, rfl, rfl⟩
    ·refine C.skip (C.nx (C.seq ?_))
     refine D.beg 8 [0] [3, 4, 5] mix rfl rfl (by kernel_rfl) (by repeat (first | exact NoPanicQ.body | refine NoPanicQ.th ?_ | refine NoPanicQ.blk ?_)) (fun hQ hS ws M' => ?_)
     refine D.ps 4 [(1, []), (2, []), (4, []), (5, [])] rfl hQ hS T rfl rfl (by kernel_rfl) ?_
     obtain ⟨hx21, hm⟩ := hm
     refine D.have false [(2, .p 0 0), (3, .p 1 0), (4, .p 2 0), (6, .p 4 0), (46, .b x11), (48, .o 3), (49, .p 0 0), (50, .sl 1 eB l.Full), (51, .o 5), (52, .p 0 1), (53, .i l.Target), (54, .agg [.o 5, .i l.Target])] [(0, .box [.sl 1 eB l.Full, .i l.Target]), (1, .box [.i s_1.From, .i s_1.To]), (2, .box [.v (.slice none 0 0), .i 0]), (4, .box [.v (.slice none 0 0), .i 0]), (5, .val (.os 1 eB (([] : List Bool) ++ l.Full)))] 6 1 #[true, true, true, true, true, true, true, true, false] ?_ (fun hd20_5 => ?_)
     ·refine D.ze1 (o := _) rfl (.none rfl) (by exact Eff1.st T rfl rfl rfl rfl rfl rfl rfl rfl rfl rfl) (by kernel_rfl) (by kernel_rfl) ?_
      refine C.nx (C.seq (U.start ?_))
      refine U.ps 4 T rfl ?_
      obtain ⟨x24, hx24, hm⟩ := hm
      refine U.r (o := _) rfl (.none rfl) rfl rfl (by exact Rd.io T rfl rfl rfl rfl rfl rfl rfl hx24) ?_
      refine U.e1 (o := _) rfl (.none rfl) (by exact Eff1.se T (z' := false) rfl rfl rfl (idx_some hx24).2.2 rfl rfl rfl rfl rfl rfl rfl rfl (fun _ => rfl) rfl) ?_
      refine U.done (C.nx (C.seq (U.start ?_)))
      refine U.ps 4 T rfl ?_
      obtain ⟨x27, hx27, hm⟩ := hm
      refine U.r (o := _) rfl (.none rfl) rfl rfl (by exact Rd.io T rfl rfl rfl rfl rfl rfl rfl hx27) ?_
      refine U.e1 (o := _) rfl (.none rfl) (by exact Eff1.se T (z' := true) rfl rfl rfl (idx_some hx27).2.2 rfl rfl rfl rfl rfl rfl rfl rfl (fun _ => rfl) rfl) ?_
      refine U.done (C.nx (C.seq (C.seq (U.start ?_))))
      refine U.ps 5 T rfl ?_
      refine U.done (C.nx ?_)
      refine C.jn (fun (x30 : Int) => [(4, .p 0 0), (6, .p 1 0)]) (fun (x30 : Int) => [(0, .box [.v (.slice none 0 0), .i 0]), (1, .box [.o 2, .i x30]), (2, .val (.os 1 eB (((([] : List Bool) ++ l.Full).set (Int.toNat s_1.From) false).set (Int.toNat s_1.To) true)))]) 3 hm (fun x30 hm => ?_) (fun J31 hm hJ31 => ?_)
      ·refine C.nx (C.seq (U.start ?_))
       refine U.ps 1 T rfl ?_
       refine U.e1 (o := _) rfl (.none rfl) (by exact Eff1.st T rfl rfl rfl rfl rfl rfl rfl rfl rfl rfl) ?_
       refine U.ps 1 T rfl ?_
       refine U.done (C.nx (C.ret ?_))
       exact C.fin T (rs' := [.agg [.o 0, .i (((({ Full := (((([] : List Bool) ++ l.Full).set (Int.toNat s_1.From) false).set (Int.toNat s_1.To) true), Target := x30 : ApiLayout }), 0).1).Target)], .i ((({ Full := (((([] : List Bool) ++ l.Full).set (Int.toNat s_1.From) false).set (Int.toNat s_1.To) true), Target := x30 : ApiLayout }), 0).2)]) (H' := [(0, .val (.os 1 eB (((({ Full := (((([] : List Bool) ++ l.Full).set (Int.toNat s_1.From) false).set (Int.toNat s_1.To) true), Target := x30 : ApiLayout }), 0).1).Full)))]) (nl' := 1) [some 2] rfl rfl (.eq rfl) ⟨⟨_, rfl, .val rfl⟩, trivial⟩ rfl rfl rfl rfl hβ ⟨(({ Full := (((([] : List Bool) ++ l.Full).set (Int.toNat s_1.From) false).set (Int.toNat s_1.To) true), Target := x30 : ApiLayout }), 0), hm, rfl, rfl, rfl⟩
      ·refine C.ite rfl hm (fun hb32 hm => ?_) (fun hb32 hm => ?_)
       ·refine U.start ?_
        refine U.ps 3 T rfl ?_
        refine U.e1 (o := _) rfl (.none rfl) (by exact Eff1.st T rfl rfl rfl rfl rfl rfl rfl rfl rfl rfl) ?_
        refine U.done ?_
        exact St.wk (hJ31 _ hm) (Wk.mk' [some 2, some 4, some 5] rfl rfl (.eqs rfl) ⟨⟨_, rfl, .box rfl (.eq rfl)⟩, ⟨_, rfl, .box rfl (.eq rfl)⟩, ⟨_, rfl, .val rfl⟩, trivial⟩ rfl)
       ·refine C.skip ?_
        exact St.wk (hJ31 _ hm) (Wk.mk' [some 2, some 4, some 5] rfl rfl (.eqs rfl) ⟨⟨_, rfl, .box rfl (.eq rfl)⟩, ⟨_, rfl, .box rfl (.eq rfl)⟩, ⟨_, rfl, .val rfl⟩, trivial⟩ rfl)
     refine D.have false [(2, .p 0 0), (3, .p 1 0), (4, .p 2 0), (46, .b x11), (48, .o 3), (49, .p 0 0), (50, .sl 1 eB l.Full), (51, .o 4), (52, .p 0 1), (53, .i l.Target), (54, .agg [.o 4, .i l.Target])] [(0, .box [.sl 1 eB l.Full, .i l.Target]), (1, .box [.i s_1.From, .i s_1.To]), (2, .box [.v (.slice none 0 0), .i 0]), (4, .val (.os 1 eB (([] : List Bool) ++ l.Full)))] 5 2 #[true, true, true, true, true, true, true, false, false] ?_ (fun hd20_4 => ?_)
     ·refine D.all 7 [] (by kernel_rfl) ⟨?_, trivial⟩
      ·refine D.ef1 (o := _) rfl (.none rfl) (by exact Eff1.al T rfl rfl rfl rfl) rfl rfl ?_
       exact D.to [some 0, some 1, some 2, some 3, some 5, some 4] hd20_5 (by kernel_rfl) rfl rfl (.eqs rfl) ⟨⟨_, rfl, .box rfl (.eq rfl)⟩, ⟨_, rfl, .box rfl (.eq rfl)⟩, ⟨_, rfl, .box rfl (.eq rfl)⟩, ⟨_, rfl, .box rfl (.eq rfl)⟩, ⟨_, rfl, .val rfl⟩, trivial⟩ rfl rfl rfl
     refine D.have false [(2, .p 0 0), (3, .p 1 0), (4, .p 2 0), (6, .p 4 0), (46, .b x11), (48, .o 3), (49, .p 0 0), (50, .sl 1 eB l.Full), (52, .p 0 1), (53, .i l.Target)] [(0, .box [.sl 1 eB l.Full, .i l.Target]), (1, .box [.i s_1.From, .i s_1.To]), (2, .box [.v (.slice none 0 0), .i 0]), (3, .val (.os 1 eB ([] : List Bool))), (4, .box [.v (.slice none 0 0), .i 0])] 5 3 #[true, true, true, false, true, true, false, true, false] ?_ (fun hd20_3 => ?_)
     ·refine D.all 3 [] (by kernel_rfl) ⟨?_, trivial⟩
      ·refine D.ef1 (o := _) rfl (.none rfl) (by exact Eff1.ap T rfl rfl rfl rfl rfl rfl (.inl rfl) rfl rfl rfl (fun _ => rfl) rfl hx21) rfl rfl ?_
       refine D.ps 1 [(6, [])] rfl hQ hS T rfl rfl (by kernel_rfl) ?_
       exact D.to [some 0, some 1, some 2, some 3, some 4, some 5] hd20_5 (by kernel_rfl) rfl rfl (.eqs rfl) ⟨⟨_, rfl, .box rfl (.eq rfl)⟩, ⟨_, rfl, .box rfl (.eq rfl)⟩, ⟨_, rfl, .box rfl (.eq rfl)⟩, ⟨_, rfl, .box rfl (.eq rfl)⟩, ⟨_, rfl, .val rfl⟩, trivial⟩ rfl rfl rfl
     refine D.have false [(2, .p 0 0), (3, .p 1 0), (4, .p 2 0), (46, .b x11), (48, .o 3), (49, .p 0 0), (50, .sl 1 eB l.Full), (52, .p 0 1), (53, .i l.Target)] [(0, .box [.sl 1 eB l.Full, .i l.Target]), (1, .box [.i s_1.From, .i s_1.To]), (2, .box [.v (.slice none 0 0), .i 0]), (3, .val (.os 1 eB ([] : List Bool)))] 4 4 #[true, true, true, false, true, true, false, false, false] ?_ (fun hd20_1 => ?_)
     ·refine D.all 3 [7] (by kernel_rfl) ⟨?_, ?_, trivial⟩
      ·refine D.ef1 (o := _) rfl (.none rfl) (by exact Eff1.ap T rfl rfl rfl rfl rfl rfl (.inl rfl) rfl rfl rfl (fun _ => rfl) rfl hx21) rfl rfl ?_
       refine D.ps 1 [(6, [])] rfl hQ hS T rfl rfl (by kernel_rfl) ?_
       exact D.to [some 0, some 1, some 2, some 3, some 4] hd20_4 (by kernel_rfl) rfl rfl (.eqs rfl) ⟨⟨_, rfl, .box rfl (.eq rfl)⟩, ⟨_, rfl, .box rfl (.eq rfl)⟩, ⟨_, rfl, .box rfl (.eq rfl)⟩, ⟨_, rfl, .val rfl⟩, trivial⟩ rfl rfl rfl
      ·refine D.ef1 (o := _) rfl (.none rfl) (by exact Eff1.al T rfl rfl rfl rfl) rfl rfl ?_
       exact D.to [some 0, some 1, some 2, some 3, some 4] hd20_3 (by kernel_rfl) rfl rfl (.eqs rfl) ⟨⟨_, rfl, .box rfl (.eq rfl)⟩, ⟨_, rfl, .box rfl (.eq rfl)⟩, ⟨_, rfl, .box rfl (.eq rfl)⟩, ⟨_, rfl, .val rfl⟩, ⟨_, rfl, .box rfl (.eq rfl)⟩, trivial⟩ rfl rfl rfl
     refine D.have false [(2, .p 0 0), (3, .p 1 0), (4, .p 2 0), (6, .p 3 0), (46, .b x11), (49, .p 0 0), (50, .sl 1 eB l.Full), (52, .p 0 1), (53, .i l.Target)] [(0, .box [.sl 1 eB l.Full, .i l.Target]), (1, .box [.i s_1.From, .i s_1.To]), (2, .box [.v (.slice none 0 0), .i 0]), (3, .box [.v (.slice none 0 0), .i 0])] 4 4 #[false, true, true, false, true, true, false, true, false] ?_ (fun hd20_2 => ?_)
     ·refine D.all 0 [] (by kernel_rfl) ⟨?_, trivial⟩
      ·refine D.ef1 (o := _) rfl (.none rfl) (by exact Eff1.bs T (enc := eB) (xs := ([] : List Bool)) rfl rfl rfl rfl rfl rfl rfl rfl rfl rfl (fun _ _ => rfl) rfl rfl) rfl rfl ?_
       exact D.to [some 0, some 1, some 2, some 4, some 3] hd20_3 (by kernel_rfl) rfl rfl (.eqs rfl) ⟨⟨_, rfl, .box rfl (.eq rfl)⟩, ⟨_, rfl, .box rfl (.eq rfl)⟩, ⟨_, rfl, .box rfl (.eq rfl)⟩, ⟨_, rfl, .val rfl⟩, ⟨_, rfl, .box rfl (.eq rfl)⟩, trivial⟩ rfl rfl rfl
     refine D.all 0 [7] (by kernel_rfl) ⟨?_, ?_, trivial⟩
     ·refine D.ef1 (o := _) rfl (.none rfl) (by exact Eff1.bs T (enc := eB) (xs := ([] : List Bool)) rfl rfl rfl rfl rfl rfl rfl rfl rfl rfl (fun _ _ => rfl) rfl rfl) rfl rfl ?_
      exact D.to [some 0, some 1, some 2, some 3] hd20_1 (by kernel_rfl) rfl rfl (.eqs rfl) ⟨⟨_, rfl, .box rfl (.eq rfl)⟩, ⟨_, rfl, .box rfl (.eq rfl)⟩, ⟨_, rfl, .box rfl (.eq rfl)⟩, ⟨_, rfl, .val rfl⟩, trivial⟩ rfl rfl rfl
     ·refine D.ef1 (o := _) rfl (.none rfl) (by exact Eff1.al T rfl rfl rfl rfl) rfl rfl ?_
      exact D.to [some 0, some 1, some 2, some 3] hd20_2 (by kernel_rfl) rfl rfl (.eqs rfl) ⟨⟨_, rfl, .box rfl (.eq rfl)⟩, ⟨_, rfl, .box rfl (.eq rfl)⟩, ⟨_, rfl, .box rfl (.eq rfl)⟩, ⟨_, rfl, .box rfl (.eq rfl)⟩, trivial⟩ rfl rfl rfl
   ·refine U.start ?_
    refine U.ps 4 T rfl ?_
    obtain ⟨x13, hx13, hm⟩ := hm
    refine U.r (o := _) rfl (.none rfl) rfl rfl (by exact Rd.ix T rfl rfl rfl rfl rfl rfl hx13) ?_
    refine U.ps 3 T rfl ?_
    refine hm.cs (fun hb14 hm => ?_) (fun hb14 hm => ?_)
    ·refine U.pg 4 7 false 39 (ntF hb14) T rfl rfl rfl rfl ?_
     obtain ⟨x15, hx15, hm⟩ := hm
     refine U.r (o := _) rfl (.take 7 false 39 _ (ntF hb14) rfl rfl rfl) rfl rfl (by exact Rd.ix T rfl rfl rfl rfl rfl rfl hx15) ?_
     refine U.pg 1 7 false 39 (ntF hb14) T rfl rfl rfl rfl ?_
     refine U.r (o := _) rfl (.none rfl) rfl rfl (by exact Rd.pk' rfl rfl (ntF hb14) rfl) ?_
     refine U.done ?_
     exact St.wk (hJ12 _ hm) (Wk.mk' [some 0, some 1, some 2] rfl rfl (.eqs rfl) ⟨⟨_, rfl, .box rfl (.eq rfl)⟩, ⟨_, rfl, .box rfl (.eq rfl)⟩, ⟨_, rfl, .box rfl (.eq rfl)⟩, trivial⟩ rfl)
    ·refine U.sks 6 7 false 39 (ntT hb14) rfl rfl rfl ?_
     refine U.r (o := _) rfl (.none rfl) rfl rfl (by exact Rd.pk rfl rfl (ntT hb14) rfl) ?_
     refine U.done ?_
     exact St.wk (hJ12 _ hm) (Wk.mk' [some 0, some 1, some 2] rfl rfl (.eqs rfl) ⟨⟨_, rfl, .box rfl (.eq rfl)⟩, ⟨_, rfl, .box rfl (.eq rfl)⟩, ⟨_, rfl, .box rfl (.eq rfl)⟩, trivial⟩ rfl)
 ·refine U.start ?_
  refine U.ps 4 T rfl ?_
  refine hm.cs (fun hb5 hm => ?_) (fun hb5 hm => ?_)
  ·refine U.sks 6 3 false 10 hb5 rfl rfl rfl ?_
   refine U.r (o := _) rfl (.none rfl) rfl rfl (by exact Rd.pk rfl rfl hb5 rfl) ?_
   refine U.ps 1 T rfl ?_
   refine U.sks 3 11 false 18 rfl rfl rfl rfl ?_
   refine U.r (o := _) rfl (.none rfl) rfl rfl (by exact Rd.pk rfl rfl rfl rfl) ?_
   refine U.ps 1 T rfl ?_
   refine U.sks 6 16 false 23 rfl rfl rfl rfl ?_
   refine U.r (o := _) rfl (.none rfl) rfl rfl (by exact Rd.pk rfl rfl rfl rfl) ?_
   refine U.done ?_
   exact St.wk (hJ4 _ hm) (Wk.mk' [some 0, some 1, some 2] rfl rfl (.eqs rfl) ⟨⟨_, rfl, .box rfl (.eq rfl)⟩, ⟨_, rfl, .box rfl (.eq rfl)⟩, ⟨_, rfl, .box rfl (.eq rfl)⟩, trivial⟩ rfl)
  ·refine U.pg 6 3 false 10 hb5 T rfl rfl rfl rfl ?_
   refine U.r (o := _) rfl (.none rfl) rfl rfl (by exact Rd.pk' rfl rfl hb5 rfl) ?_
   refine U.ps 1 T rfl ?_
   refine hm.cs (fun hb6 hm => ?_) (fun hb6 hm => ?_)
   ·refine U.sks 3 11 false 18 hb6 rfl rfl rfl ?_
    refine U.r (o := _) rfl (.none rfl) rfl rfl (by exact Rd.pk rfl rfl hb6 rfl) ?_
    refine U.ps 1 T rfl ?_
    refine U.sks 6 16 false 23 rfl rfl rfl rfl ?_
    refine U.r (o := _) rfl (.none rfl) rfl rfl (by exact Rd.pk rfl rfl rfl rfl) ?_
    refine U.done ?_
    exact St.wk (hJ4 _ hm) (Wk.mk' [some 0, some 1, some 2] rfl rfl (.eqs rfl) ⟨⟨_, rfl, .box rfl (.eq rfl)⟩, ⟨_, rfl, .box rfl (.eq rfl)⟩, ⟨_, rfl, .box rfl (.eq rfl)⟩, trivial⟩ rfl)
   ·refine U.pg 3 11 false 18 hb6 T rfl rfl rfl rfl ?_
    refine U.r (o := _) rfl (.none rfl) rfl rfl (by exact Rd.pk' rfl rfl hb6 rfl) ?_
    refine U.ps 1 T rfl ?_
    refine hm.cs (fun hb7 hm => ?_) (fun hb7 hm => ?_)
    ·refine U.sks 6 16 false 23 hb7 rfl rfl rfl ?_
     refine U.r (o := _) rfl (.none rfl) rfl rfl (by exact Rd.pk rfl rfl hb7 rfl) ?_
     refine U.done ?_
     exact St.wk (hJ4 _ hm) (Wk.mk' [some 0, some 1, some 2] rfl rfl (.eqs rfl) ⟨⟨_, rfl, .box rfl (.eq rfl)⟩, ⟨_, rfl, .box rfl (.eq rfl)⟩, ⟨_, rfl, .box rfl (.eq rfl)⟩, trivial⟩ rfl)
    ·refine U.pg 6 16 false 23 hb7 T rfl rfl rfl rfl ?_
     refine U.r (o := _) rfl (.none rfl) rfl rfl (by exact Rd.pk' rfl rfl hb7 rfl) ?_
     refine U.done ?_
     exact St.wk (hJ4 _ hm) (Wk.mk' [some 0, some 1, some 2] rfl rfl (.eqs rfl) ⟨⟨_, rfl, .box rfl (.eq rfl)⟩, ⟨_, rfl, .box rfl (.eq rfl)⟩, ⟨_, rfl, .box rfl (.eq rfl)⟩, trivial⟩ rfl)
theorem T_taquinref25_Shelves (l : ApiLayout) (post : Int → Prop) (hm : V_taquinref25_Shelves l post) :
    Tr Try.prog 38 [.agg [.sl 1 eB l.Full, .i l.Target]] [] 0 (fun A H' k => ∃ y, post y ∧ A = (.i y) ∧ H' = [] ∧ k = 0) := by
 refine Tr.intro (n := 20) Try.func38 rfl Try.ntmps38 rfl (fun w0 ok F β hβ => ?_)
 unfold V_taquinref25_Shelves at hm
 refine C.seq (U.start ?_)
 refine U.e1 (o := _) rfl (.none rfl) (by exact Eff1.box rfl rfl rfl rfl rfl) ?_
 refine U.ps 1 T rfl ?_
 refine U.done (C.nx (C.seq (U.start ?_)))
 refine U.ps 1 T rfl ?_
 refine U.done (C.nx (C.seq (C.seq (U.start ?_))))
 refine U.ps 1 T rfl ?_
 refine U.done (C.nx ?_)
 refine C.jn (fun (x7 : Int) => [(3, .i x7)]) (fun (x7 : Int) => []) 0 hm (fun x7 hm => ?_) (fun J8 hm hJ8 => ?_)
 ·refine C.nx (C.seq (U.start ?_))
  refine U.ps 2 T rfl ?_
  refine U.done (C.nx (C.ret ?_))
  exact C.fin T (rs' := [.i x7]) (H' := []) (nl' := 0) [] rfl rfl (.eq rfl) trivial rfl rfl rfl rfl hβ ⟨x7, hm, rfl, rfl, rfl⟩
 ·refine C.block ?_
  refine St.wk (C.loop (fun (s9 : Int × Int) => [(1, .p 0 0), (3, .i s9.1), (4, .i s9.2)]) (fun (s9 : Int × Int) => [(0, .box [.sl 1 eB l.Full, .i l.Target])]) hm (fun s9 Y10 hm => ?_)) (Wk.mk' [some 0] rfl rfl (.eqs rfl) ⟨⟨_, rfl, .box rfl (.eq rfl)⟩, trivial⟩ rfl)
  refine C.seq (C.seq (U.start ?_))
  refine U.ps 5 T rfl ?_
  refine U.done (C.nx ?_)
  refine C.ite rfl hm (fun hb13 hm => ?_) (fun hb13 hm => ?_)
  ·refine C.skip (C.nx (C.seq (C.block (C.seq (U.start ?_)))))
   refine U.ps 3 T rfl ?_
   obtain ⟨x16, hx16, hm⟩ := hm
   refine U.r (o := _) rfl (.none rfl) rfl rfl (by exact Rd.ix T rfl rfl rfl rfl rfl rfl hx16) ?_
   refine U.ps 1 T rfl ?_
   refine U.done (C.nx ?_)
   refine C.jn (fun (x17 : Int) => [(1, .p 0 0), (3, .i x17), (4, .i s9.2)]) (fun (x17 : Int) => [(0, .box [.sl 1 eB l.Full, .i l.Target])]) 1 hm (fun x17 hm => ?_) (fun J18 hm hJ18 => ?_)
   ·refine C.bnx (C.nx (U.start ?_))
    refine U.ps 3 T rfl ?_
    refine U.done (C.nx ?_)
    exact St.wk (C.next hm) (Wk.mk' [some 0] rfl rfl (.eqs rfl) ⟨⟨_, rfl, .box rfl (.eq rfl)⟩, trivial⟩ rfl)
   ·refine C.ite rfl hm (fun hb19 hm => ?_) (fun hb19 hm => ?_)
    ·refine U.start ?_
     refine U.ps 3 T rfl ?_
     refine U.done ?_
     exact St.wk (hJ18 _ hm) (Wk.mk' [some 0] rfl rfl (.eqs rfl) ⟨⟨_, rfl, .box rfl (.eq rfl)⟩, trivial⟩ rfl)
    ·refine C.skip ?_
     exact St.wk (hJ18 _ hm) (Wk.mk' [some 0] rfl rfl (.eqs rfl) ⟨⟨_, rfl, .box rfl (.eq rfl)⟩, trivial⟩ rfl)
  ·refine C.exit (C.ex (C.ex (C.bex ?_)))
   exact St.wk (hJ8 _ hm) (Wk.mk' [] rfl rfl (.eqs rfl) trivial rfl)
theorem T_taquinref25_Rank (l : ApiLayout) (post : Int → Prop) (hm : V_taquinref25_Rank l post) :
    Tr Try.prog 36 [.agg [.sl 1 eB l.Full, .i l.Target]] [] 0 (fun A H' k => ∃ y, post y ∧ A = (.i y) ∧ H' = [] ∧ k = 0) := by
 refine Tr.intro (n := 58) Try.func36 rfl Try.ntmps36 rfl (fun w0 ok F β hβ => ?_)
 unfold V_taquinref25_Rank at hm
 refine C.seq (U.start ?_)
 refine U.e1 (o := _) rfl (.none rfl) (by exact Eff1.box rfl rfl rfl rfl rfl) ?_
 refine U.ps 1 T rfl ?_
 refine U.done (C.nx (C.seq (U.start ?_)))
 refine U.ps 4 T rfl ?_
 refine U.done (C.nx (C.seq (U.start ?_)))
 refine U.ps 1 T rfl ?_
 refine U.e (o := _) rfl (.none rfl) (by exact Eff.c [] (v := true) (T_taquinref25_Shelves l _ hm) en38 rfl rfl rfl (.eq rfl) trivial rfl rfl rfl rfl rfl rfl (fun _ _ => ⟨(.v _), trivial⟩) (.inr ⟨rfl, rfl⟩) (fun _ => rfl) (fun _ => rfl) rfl) (fun x7' hm => ?_)
 obtain ⟨x7⟩ := x7'
 refine U.ps 2 T rfl ?_
 refine U.done (C.nx (C.seq ?_))
 refine D.beg 9999 [0] [] mix rfl rfl (by kernel_rfl) (by repeat (first | exact NoPanicQ.body | refine NoPanicQ.th ?_ | refine NoPanicQ.blk ?_)) (fun hQ hS ws M' => ?_)
 refine D.ps 5 [(0, []), (1, []), (2, []), (3, []), (4, [])] rfl hQ hS T rfl rfl (by kernel_rfl) ?_
 refine D.e (o := _) 5 rfl (.none rfl) (by exact Eff.c [] (v := true) (T_taquinref25_Choose (w64 ((l.Full.length : Int) - 1)) (w64 (x7 - 1)) _ hm) en44 rfl rfl rfl (.eq rfl) trivial rfl rfl rfl rfl rfl rfl (fun _ _ => ⟨(.v _), trivial⟩) (.inr ⟨rfl, rfl⟩) (fun _ => rfl) (fun _ => rfl) rfl) (by kernel_rfl) rfl rfl (fun x10' hm => ?_)
 obtain ⟨x10⟩ := x10'
 refine D.ps 2 [(6, []), (7, [])] rfl hQ hS T rfl rfl (by kernel_rfl) ?_
 refine D.done (by kernel_rfl) ?_
 refine C.nx (C.seq (C.seq (U.start ?_)))
 refine U.ps 1 T rfl ?_
 refine U.done (C.nx ?_)
 refine C.jn (fun (x13 : Int) => [(5, .i x13)]) (fun (x13 : Int) => []) 0 hm (fun x13 hm => ?_) (fun J14 hm hJ14 => ?_)
 ·refine C.nx (C.seq (U.start ?_))
  refine U.ps 2 T rfl ?_
  refine U.done (C.nx (C.ret ?_))
  exact C.fin T (rs' := [.i x13]) (H' := []) (nl' := 0) [] rfl rfl (.eq rfl) trivial rfl rfl rfl rfl hβ ⟨x13, hm, rfl, rfl, rfl⟩
 ·refine C.block ?_
  refine St.wk (C.loop (fun (s15 : Int × Int × Int) => [(1, .p 0 0), (3, .i (l.Full.length : Int)), (4, .i s15.1), (5, .i s15.2.1), (6, .i s15.2.2)]) (fun (s15 : Int × Int × Int) => [(0, .box [.sl 1 eB l.Full, .i l.Target])]) hm (fun s15 Y16 hm => ?_)) (Wk.mk' [some 0] rfl rfl (.eqs rfl) ⟨⟨_, rfl, .box rfl (.eq rfl)⟩, trivial⟩ rfl)
  refine C.seq (C.seq (U.start ?_))
  refine U.ps 3 T rfl ?_
  refine U.done (C.nx ?_)
  refine C.ite rfl hm (fun hb19 hm => ?_) (fun hb19 hm => ?_)
  ·refine C.skip (C.nx (C.seq ?_))
   refine C.jn (fun (x20 : Int × Int) => [(1, .p 0 0), (3, .i (l.Full.length : Int)), (4, .i x20.1), (5, .i x20.2), (6, .i s15.2.2)]) (fun (x20 : Int × Int) => [(0, .box [.sl 1 eB l.Full, .i l.Target])]) 1 hm (fun x20 hm => ?_) (fun J21 hm hJ21 => ?_)
   ·refine C.nx (U.start ?_)
    refine U.ps 3 T rfl ?_
    refine U.done (C.nx ?_)
    exact St.wk (C.next hm) (Wk.mk' [some 0] rfl rfl (.eqs rfl) ⟨⟨_, rfl, .box rfl (.eq rfl)⟩, trivial⟩ rfl)
   ·refine C.block (C.seq (C.seq (U.start ?_)))
    refine U.ps 4 T rfl ?_
    refine U.done (C.nx ?_)
    refine C.ite rfl hm (fun hb24 hm => ?_) (fun hb24 hm => ?_)
    ·refine C.exit (C.ex (C.bex ?_))
     exact St.wk (hJ21 _ hm) (Wk.mk' [some 0] rfl rfl (.eqs rfl) ⟨⟨_, rfl, .box rfl (.eq rfl)⟩, trivial⟩ rfl)
    ·refine C.skip (C.nx (C.seq (U.start ?_)))
     refine U.ps 1 T rfl ?_
     refine U.done (C.nx (C.seq (C.seq (U.start ?_))))
     refine U.ps 3 T rfl ?_
     refine U.done (C.nx ?_)
     refine C.jn (fun (x29 : Int) => [(1, .p 0 0), (3, .i (l.Full.length : Int)), (4, .i s15.1), (5, .i s15.2.1), (6, .i s15.2.2), (7, .i x29)]) (fun (x29 : Int) => [(0, .box [.sl 1 eB l.Full, .i l.Target])]) 1 hm (fun x29 hm => ?_) (fun J30 hm hJ30 => ?_)
     ·refine C.nx (C.seq (U.start ?_))
      refine U.ps 3 T rfl ?_
      obtain ⟨x47, hx47, hm⟩ := hm
      refine U.r (o := _) rfl (.none rfl) rfl rfl (by exact Rd.ix T rfl rfl rfl rfl rfl rfl hx47) ?_
      refine U.ps 1 T rfl ?_
      refine U.done (C.nx ?_)
      refine C.jn (fun (x48 : Int × Int) => [(1, .p 0 0), (3, .i (l.Full.length : Int)), (4, .i x48.1), (5, .i x48.2), (6, .i s15.2.2)]) (fun (x48 : Int × Int) => [(0, .box [.sl 1 eB l.Full, .i l.Target])]) 1 hm (fun x48 hm => ?_) (fun J49 hm hJ49 => ?_)
      ·refine C.bnx ?_
       exact St.wk (hJ21 _ hm) (Wk.mk' [some 0] rfl rfl (.eqs rfl) ⟨⟨_, rfl, .box rfl (.eq rfl)⟩, trivial⟩ rfl)
      ·refine C.ite rfl hm (fun hb50 hm => ?_) (fun hb50 hm => ?_)
       ·refine U.start ?_
        refine U.ps 3 T rfl ?_
        refine U.done ?_
        exact St.wk (hJ49 _ hm) (Wk.mk' [some 0] rfl rfl (.eqs rfl) ⟨⟨_, rfl, .box rfl (.eq rfl)⟩, trivial⟩ rfl)
       ·refine U.start ?_
        refine U.ps 4 T rfl ?_
        refine U.e (o := _) rfl (.none rfl) (by exact Eff.c [] (v := true) (T_taquinref25_Choose x29 (w64 (s15.1 - 1)) _ hm) en44 rfl rfl rfl (.eq rfl) trivial rfl rfl rfl rfl rfl rfl (fun _ _ => ⟨(.v _), trivial⟩) (.inr ⟨rfl, rfl⟩) (fun _ => rfl) (fun _ => rfl) rfl) (fun x55' hm => ?_)
        obtain ⟨x55⟩ := x55'
        refine U.ps 2 T rfl ?_
        refine U.done ?_
        exact St.wk (hJ49 _ hm) (Wk.mk' [some 0] rfl rfl (.eqs rfl) ⟨⟨_, rfl, .box rfl (.eq rfl)⟩, trivial⟩ rfl)
     ·refine C.block ?_
      refine St.wk (C.loop (fun (s31 : Int × Int) => [(1, .p 0 0), (3, .i (l.Full.length : Int)), (4, .i s15.1), (5, .i s15.2.1), (6, .i s15.2.2), (7, .i s31.1), (8, .i s31.2)]) (fun (s31 : Int × Int) => [(0, .box [.sl 1 eB l.Full, .i l.Target])]) hm (fun s31 Y32 hm => ?_)) (Wk.mk' [some 0] rfl rfl (.eqs rfl) ⟨⟨_, rfl, .box rfl (.eq rfl)⟩, trivial⟩ rfl)
      refine C.seq (C.seq (U.start ?_))
      refine U.ps 3 T rfl ?_
      refine U.done (C.nx ?_)
      refine C.ite rfl hm (fun hb35 hm => ?_) (fun hb35 hm => ?_)
      ·refine C.skip (C.nx (C.seq (C.block (C.seq (U.start ?_)))))
       refine U.ps 4 T rfl ?_
       refine U.done (C.nx ?_)
       refine C.jn (fun (x38 : Int) => [(1, .p 0 0), (3, .i (l.Full.length : Int)), (4, .i s15.1), (5, .i s15.2.1), (6, .i s15.2.2), (7, .i x38), (8, .i s31.2)]) (fun (x38 : Int) => [(0, .box [.sl 1 eB l.Full, .i l.Target])]) 1 hm (fun x38 hm => ?_) (fun J39 hm hJ39 => ?_)
       ·refine C.bnx (C.nx (U.start ?_))
        refine U.ps 3 T rfl ?_
        refine U.done (C.nx ?_)
        exact St.wk (C.next hm) (Wk.mk' [some 0] rfl rfl (.eqs rfl) ⟨⟨_, rfl, .box rfl (.eq rfl)⟩, trivial⟩ rfl)
       ·refine C.ite rfl hm (fun hb40 hm => ?_) (fun hb40 hm => ?_)
        ·refine U.start ?_
         refine U.ps 3 T rfl ?_
         refine U.done ?_
         exact St.wk (hJ39 _ hm) (Wk.mk' [some 0] rfl rfl (.eqs rfl) ⟨⟨_, rfl, .box rfl (.eq rfl)⟩, trivial⟩ rfl)
        ·refine C.skip ?_
         exact St.wk (hJ39 _ hm) (Wk.mk' [some 0] rfl rfl (.eqs rfl) ⟨⟨_, rfl, .box rfl (.eq rfl)⟩, trivial⟩ rfl)
      ·refine C.exit (C.ex (C.ex (C.bex ?_)))
       exact St.wk (hJ30 _ hm) (Wk.mk' [some 0] rfl rfl (.eqs rfl) ⟨⟨_, rfl, .box rfl (.eq rfl)⟩, trivial⟩ rfl)
  ·refine C.exit (C.ex (C.ex (C.bex ?_)))
   exact St.wk (hJ14 _ hm) (Wk.mk' [] rfl rfl (.eqs rfl) trivial rfl)
theorem T_taquinref26_Table (f : ApiFloor) (r : List Int) (k : Int) (goal : Int) (post : (List Int × Int) → Prop) (hm : V_taquinref26_Table f r k goal post) :
    Tr Try.prog 11 [.agg (eApiFloor f), .sl 1 eI r, .i k, .i goal] [] 0 (fun A H' k => ∃ y, post y ∧ A = (.tup [.o 0, .i y.2]) ∧ H' = [(0, .val (.os 1 eI y.1))] ∧ k = 1) := by
 refine Tr.intro (n := 143) Try.func11 rfl Try.ntmps11 rfl (fun w0 ok F β hβ => ?_)
 unfold V_taquinref26_Table at hm
 refine C.seq (U.start ?_)
 refine U.e1 (o := _) rfl (.none rfl) (by exact Eff1.box rfl rfl rfl rfl rfl) ?_
 refine U.ps 2 T rfl ?_
 refine U.done (C.nx (C.seq (C.seq (U.start ?_))))
 refine U.ps 3 T rfl ?_
 refine U.done (C.nx ?_)
 refine C.ite rfl hm (fun hb5 hm => ?_) (fun hb5 hm => ?_)
 ·refine C.seq (U.start ?_)
  refine U.ps 2 T rfl ?_
  refine U.done (C.nx (C.ret (C.rt ?_)))
  exact C.fin T (rs' := [.o 0, .i (([], 27).2)]) (H' := [(0, .val (.os 1 eI (([], 27).1)))]) (nl' := 1) [none] rfl rfl (.cons (.nilO _ _ ⟨rfl, rfl⟩ rfl) (.eq rfl)) ⟨⟨_, rfl, .nil _ _⟩, trivial⟩ rfl rfl rfl rfl hβ ⟨([], 27), hm, rfl, rfl, rfl⟩
 ·refine C.skip (C.nx (C.seq (C.seq ?_)))
  refine C.jn (fun (x8 : Bool) => [(1, .sl 1 eI r), (2, .i k), (3, .i goal), (4, .p 0 0), (43, .b x8)]) (fun (x8 : Bool) => [(0, .box (eApiFloor f))]) 1 hm (fun x8 hm => ?_) (fun J9 hm hJ9 => ?_)
  ·refine C.nx ?_
   refine C.ite rfl hm (fun hb13 hm => ?_) (fun hb13 hm => ?_)
   ·refine C.seq (U.start ?_)
    refine U.ps 2 T rfl ?_
    refine U.done (C.nx (C.ret (C.rt ?_)))
    exact C.fin T (rs' := [.o 0, .i (([], 3).2)]) (H' := [(0, .val (.os 1 eI (([], 3).1)))]) (nl' := 1) [none] rfl rfl (.cons (.nilO _ _ ⟨rfl, rfl⟩ rfl) (.eq rfl)) ⟨⟨_, rfl, .nil _ _⟩, trivial⟩ rfl rfl rfl rfl hβ ⟨([], 3), hm, rfl, rfl, rfl⟩
   ·refine C.skip (C.nx (C.seq (U.start ?_)))
    refine U.ps 3 T rfl ?_
    refine U.e (o := _) rfl (.none rfl) (by exact Eff.c [] (v := true) (T_taquinref25_Count (r.length : Int) k _ hm) en32 rfl rfl rfl (.eq rfl) trivial rfl rfl rfl rfl rfl rfl (fun _ _ => ⟨(.v _), trivial⟩) (.inr ⟨rfl, rfl⟩) (fun _ => rfl) (fun _ => rfl) rfl) (fun x18' hm => ?_)
    obtain ⟨x18⟩ := x18'
    obtain ⟨hx19, hm⟩ := hm
    refine U.e1 (o := _) rfl (.none rfl) (by exact Eff1.mk T (enc := eI) (z0 := 0) rfl rfl rfl rfl rfl rfl rfl rfl rfl rfl hx19) ?_
    refine U.ps 1 T rfl ?_
    refine U.done (C.nx (C.seq (U.start ?_)))
    refine U.ps 1 T rfl ?_
    refine U.done (C.nx (C.seq (C.seq (U.start ?_))))
    refine U.ps 1 T rfl ?_
    refine U.done (C.nx ?_)
    refine C.jn (fun (x24 : List Int × List Int) => [(1, .sl 1 eI r), (2, .i k), (4, .p 0 0), (10, .o 1), (11, .o 2)]) (fun (x24 : List Int × List Int) => [(0, .box (eApiFloor f)), (1, .val (.os 1 eI x24.1)), (2, .val (.os 1 eI x24.2))]) 3 hm (fun x24 hm => ?_) (fun J25 hm hJ25 => ?_)
    ·refine C.nx (C.seq (C.seq (U.start ?_)))
     refine U.ps 1 T rfl ?_
     refine U.done (C.nx ?_)
     refine C.jn (fun (x51 : List Int) => [(10, .o 0)]) (fun (x51 : List Int) => [(0, .val (.os 1 eI x51))]) 1 hm (fun x51 hm => ?_) (fun J52 hm hJ52 => ?_)
     ·refine C.nx (C.seq (U.start ?_))
      refine U.ps 3 T rfl ?_
      refine U.done (C.nx (C.ret ?_))
      exact C.fin T (rs' := [.o 0, .i ((x51, 0).2)]) (H' := [(0, .val (.os 1 eI ((x51, 0).1)))]) (nl' := 1) [some 0] rfl rfl (.eq rfl) ⟨⟨_, rfl, .val rfl⟩, trivial⟩ rfl rfl rfl rfl hβ ⟨(x51, 0), hm, rfl, rfl, rfl⟩
     ·refine C.block ?_
      refine St.wk (C.loop (fun (s53 : List Int × List Int × Int) => [(1, .sl 1 eI r), (2, .i k), (4, .p 0 0), (10, .o 1), (11, .o 2), (15, .i s53.2.2)]) (fun (s53 : List Int × List Int × Int) => [(0, .box (eApiFloor f)), (1, .val (.os 1 eI s53.1)), (2, .val (.os 1 eI s53.2.1))]) hm (fun s53 Y54 hm => ?_)) (Wk.mk' [some 0, some 1, some 2] rfl rfl (.eqs rfl) ⟨⟨_, rfl, .box rfl (.eq rfl)⟩, ⟨_, rfl, .val rfl⟩, ⟨_, rfl, .val rfl⟩, trivial⟩ rfl)
      refine C.seq (C.seq (U.start ?_))
      refine U.ps 4 T rfl ?_
      refine U.done (C.nx ?_)
      refine C.ite rfl hm (fun hb57 hm => ?_) (fun hb57 hm => ?_)
      ·refine C.skip (C.nx (C.seq ?_))
       refine C.jn (fun (x58 : List Int × List Int) => [(1, .sl 1 eI r), (2, .i k), (4, .p 0 0), (10, .o 1), (11, .o 2), (15, .i s53.2.2)]) (fun (x58 : List Int × List Int) => [(0, .box (eApiFloor f)), (1, .val (.os 1 eI x58.1)), (2, .val (.os 1 eI x58.2))]) 3 hm (fun x58 hm => ?_) (fun J59 hm hJ59 => ?_)
       ·refine C.nx (U.start ?_)
        refine U.ps 3 T rfl ?_
        refine U.done (C.nx ?_)
        exact St.wk (C.next hm) (Wk.mk' [some 0, some 1, some 2] rfl rfl (.eqs rfl) ⟨⟨_, rfl, .box rfl (.eq rfl)⟩, ⟨_, rfl, .val rfl⟩, ⟨_, rfl, .val rfl⟩, trivial⟩ rfl)
       ·refine C.block (C.seq (U.start ?_))
        refine U.ps 5 T rfl ?_
        obtain ⟨x62, hx62, hm⟩ := hm
        refine U.r (o := _) rfl (.none rfl) rfl rfl (by exact Rd.io T rfl rfl rfl rfl rfl rfl rfl hx62) ?_
        refine U.r (o := _) rfl (.none rfl) rfl rfl (by exact Rd.le T rfl rfl rfl (idx_some hx62).2.2 rfl rfl rfl) ?_
        refine U.e (o := _) rfl (.none rfl) (by exact Eff.c [] (v := true) (T_taquinref25_Unrank (r.length : Int) k x62 _ hm) en33 rfl rfl rfl (.eq rfl) trivial rfl rfl rfl rfl rfl rfl (fun _ _ => ⟨(.tup (.cons (.agg (.cons (.o _) (.cons (.v _) .nil))) (.cons (.v _) .nil))), ⟨.val (.os _ _ _ fun _ => (.cons (.v _) .nil)), trivial⟩⟩) (.inr ⟨rfl, rfl⟩) (fun _ => rfl) (fun _ => rfl) rfl) (fun x63' hm => ?_)
        obtain ⟨x63⟩ := x63'
        refine U.ps 3 T rfl ?_
        refine U.e1 (o := _) rfl (.none rfl) (by exact Eff1.al T rfl rfl rfl rfl) ?_
        refine U.e1 (o := _) rfl (.none rfl) (by exact Eff1.st T rfl rfl rfl rfl rfl rfl rfl rfl rfl rfl) ?_
        refine U.ps 1 T rfl ?_
        refine U.done (C.nx (C.seq (U.start ?_)))
        refine U.ps 3 T rfl ?_
        refine U.e (o := _) rfl (.none rfl) (by exact Eff.c [] (v := true) (T_taquinref25_Backs f r x63.1 _ hm) en34 rfl rfl rfl (.cons (.eq rfl) (.cons (.eq rfl) (.cons (.agg (.cons (.fz rfl rfl rfl (.os fun _ => .cons (.ro rfl) .nil)) (.eq rfl))) .nil))) trivial rfl rfl rfl rfl rfl rfl (fun _ _ => ⟨(.o _), ⟨.val (.os _ _ _ fun _ => (.cons (.v _) (.cons (.v _) .nil))), trivial⟩⟩) (.inr ⟨rfl, rfl⟩) (fun _ => rfl) (fun _ => rfl) rfl) (fun x66' hm => ?_)
        obtain ⟨x66⟩ := x66'
        refine U.ps 1 T rfl ?_
        refine U.done (C.nx (C.seq (U.start ?_)))
        refine U.ps 1 T rfl ?_
        refine U.done (C.nx ?_)
        refine C.jn (fun (x69 : List Int × List Int) => [(1, .sl 1 eI r), (2, .i k), (4, .p 0 0), (10, .o 1), (11, .o 2), (15, .i s53.2.2)]) (fun (x69 : List Int × List Int) => [(0, .box (eApiFloor f)), (1, .val (.os 1 eI x69.1)), (2, .val (.os 1 eI x69.2))]) 3 hm (fun x69 hm => ?_) (fun J70 hm hJ70 => ?_)
        ·refine C.bnx ?_
         exact St.wk (hJ59 _ hm) (Wk.mk' [some 0, some 1, some 2] rfl rfl (.eqs rfl) ⟨⟨_, rfl, .box rfl (.eq rfl)⟩, ⟨_, rfl, .val rfl⟩, ⟨_, rfl, .val rfl⟩, trivial⟩ rfl)
        ·refine C.block ?_
         refine St.wk (C.loop (fun (s71 : List Int × List Int × Int) => [(1, .sl 1 eI r), (2, .i k), (4, .p 0 0), (10, .o 1), (11, .o 2), (15, .i s53.2.2), (16, .p 3 0), (18, .o 5), (19, .i s71.2.2)]) (fun (s71 : List Int × List Int × Int) => [(0, .box (eApiFloor f)), (1, .val (.os 1 eI s71.1)), (2, .val (.os 1 eI s71.2.1)), (3, .box [.o 4, .i x63.1.Target]), (4, .val (.os 1 eB x63.1.Full)), (5, .val (.os 2 eApiShift x66))]) hm (fun s71 Y72 hm => ?_)) (Wk.mk' [some 0, some 1, some 2, some 4, some 3, some 5] rfl rfl (.eqs rfl) ⟨⟨_, rfl, .box rfl (.eq rfl)⟩, ⟨_, rfl, .val rfl⟩, ⟨_, rfl, .val rfl⟩, ⟨_, rfl, .box rfl (.eq rfl)⟩, ⟨_, rfl, .val rfl⟩, ⟨_, rfl, .val rfl⟩, trivial⟩ rfl)
         refine C.seq (C.seq (U.start ?_))
         refine U.ps 4 T rfl ?_
         refine U.done (C.nx ?_)
         refine C.ite rfl hm (fun hb75 hm => ?_) (fun hb75 hm => ?_)
         ·refine C.skip (C.nx (C.seq (C.block (C.seq ?_))))
          refine C.jn (fun (x76 : List Bool × Int) => [(1, .sl 1 eI r), (2, .i k), (4, .p 0 0), (10, .o 1), (11, .o 2), (15, .i s53.2.2), (16, .p 3 0), (18, .o 5), (19, .i s71.2.2), (20, .p 6 0)]) (fun (x76 : List Bool × Int) => [(0, .box (eApiFloor f)), (1, .val (.os 1 eI s71.1)), (2, .val (.os 1 eI s71.2.1)), (3, .box [.o 4, .i x63.1.Target]), (4, .val (.os 1 eB x63.1.Full)), (5, .val (.os 2 eApiShift x66)), (6, .box [.o 7, .i x76.2]), (7, .val (.os 1 eB x76.1))]) 8 hm (fun x76 hm => ?_) (fun J77 hm hJ77 => ?_)
          ·refine C.nx (C.seq (U.start ?_))
           refine U.ps 1 T rfl ?_
           refine U.e (o := _) rfl (.none rfl) (by exact Eff.c [] (v := true) (T_taquinref25_Rank ({ Full := x76.1, Target := x76.2 : ApiLayout }) _ hm) en36 rfl rfl rfl (.cons (.agg (.cons (.fz rfl rfl rfl (.os fun _ => .cons (.ro rfl) .nil)) (.eq rfl))) .nil) trivial rfl rfl rfl rfl rfl rfl (fun _ _ => ⟨(.v _), trivial⟩) (.inr ⟨rfl, rfl⟩) (fun _ => rfl) (fun _ => rfl) rfl) (fun x82' hm => ?_)
           obtain ⟨x82⟩ := x82'
           refine U.ps 1 T rfl ?_
           refine U.done (C.nx (C.seq (U.start ?_)))
           refine U.ps 2 T rfl ?_
           obtain ⟨x85, hx85, hm⟩ := hm
           refine U.r (o := _) rfl (.none rfl) rfl rfl (by exact Rd.io T rfl rfl rfl rfl rfl rfl rfl hx85) ?_
           refine U.r (o := _) rfl (.none rfl) rfl rfl (by exact Rd.le T rfl rfl rfl (idx_some hx85).2.2 rfl rfl rfl) ?_
           refine U.ps 1 T rfl ?_
           refine U.done (C.nx ?_)
           refine C.jn (fun (x86 : List Int × List Int) => [(1, .sl 1 eI r), (2, .i k), (4, .p 0 0), (10, .o 1), (11, .o 2), (15, .i s53.2.2), (16, .p 3 0), (18, .o 5), (19, .i s71.2.2)]) (fun (x86 : List Int × List Int) => [(0, .box (eApiFloor f)), (1, .val (.os 1 eI x86.1)), (2, .val (.os 1 eI x86.2)), (3, .box [.o 4, .i x63.1.Target]), (4, .val (.os 1 eB x63.1.Full)), (5, .val (.os 2 eApiShift x66))]) 6 hm (fun x86 hm => ?_) (fun J87 hm hJ87 => ?_)
           ·refine C.bnx (C.nx (U.start ?_))
            refine U.ps 3 T rfl ?_
            refine U.done (C.nx ?_)
            exact St.wk (C.next hm) (Wk.mk' [some 0, some 1, some 2, some 3, some 4, some 5] rfl rfl (.eqs rfl) ⟨⟨_, rfl, .box rfl (.eq rfl)⟩, ⟨_, rfl, .val rfl⟩, ⟨_, rfl, .val rfl⟩, ⟨_, rfl, .box rfl (.eq rfl)⟩, ⟨_, rfl, .val rfl⟩, ⟨_, rfl, .val rfl⟩, trivial⟩ rfl)
           ·refine C.ite rfl hm (fun hb88 hm => ?_) (fun hb88 hm => ?_)
            ·refine C.seq (U.start ?_)
             refine U.ps 5 T rfl ?_
             obtain ⟨x91, hx91, hm⟩ := hm
             refine U.r (o := _) rfl (.none rfl) rfl rfl (by exact Rd.io T rfl rfl rfl rfl rfl rfl rfl hx91) ?_
             refine U.r (o := _) rfl (.none rfl) rfl rfl (by exact Rd.le T rfl rfl rfl (idx_some hx91).2.2 rfl rfl rfl) ?_
             obtain ⟨x92, hx92, hm⟩ := hm
             refine U.r (o := _) rfl (.none rfl) rfl rfl (by exact Rd.io T rfl rfl rfl rfl rfl rfl rfl hx92) ?_
             refine U.r (o := _) rfl (.none rfl) rfl rfl (by exact Rd.le T rfl rfl rfl (idx_some hx92).2.2 rfl rfl rfl) ?_
             refine U.ps 1 T rfl ?_
             refine U.r (o := _) rfl (.none rfl) rfl rfl (by exact Rd.io T rfl rfl rfl rfl rfl rfl rfl hx85) ?_
             refine U.e1 (o := _) rfl (.none rfl) (by exact Eff1.se T (z' := w64 (x92 + 1)) rfl rfl rfl (idx_some hx85).2.2 rfl rfl rfl rfl rfl rfl rfl rfl (fun _ => rfl) rfl) ?_
             refine U.done (C.nx (U.start ?_))
             refine U.ps 2 T rfl ?_
             refine U.e1 (o := _) rfl (.none rfl) (by exact Eff1.bs T (enc := eI) (xs := ([x82] : List Int)) rfl rfl rfl rfl rfl rfl rfl rfl rfl rfl (fun _ _ => rfl) rfl rfl) ?_
             obtain ⟨hx95, hm⟩ := hm
             refine U.e1 (o := _) rfl (.none rfl) (by exact Eff1.ap T rfl rfl rfl rfl rfl rfl (.inr ⟨_, rfl, rfl⟩) rfl rfl rfl (fun _ => rfl) rfl hx95) ?_
             refine U.ps 1 T rfl ?_
             refine U.done ?_
             exact St.wk (hJ87 _ hm) (Wk.mk' [some 0, some 1, some 9, some 3, some 4, some 5] rfl rfl (.eqs rfl) ⟨⟨_, rfl, .box rfl (.eq rfl)⟩, ⟨_, rfl, .val rfl⟩, ⟨_, rfl, .val rfl⟩, ⟨_, rfl, .box rfl (.eq rfl)⟩, ⟨_, rfl, .val rfl⟩, ⟨_, rfl, .val rfl⟩, trivial⟩ rfl)
            ·refine C.skip ?_
             exact St.wk (hJ87 _ hm) (Wk.mk' [some 0, some 1, some 2, some 3, some 4, some 5] rfl rfl (.eqs rfl) ⟨⟨_, rfl, .box rfl (.eq rfl)⟩, ⟨_, rfl, .val rfl⟩, ⟨_, rfl, .val rfl⟩, ⟨_, rfl, .box rfl (.eq rfl)⟩, ⟨_, rfl, .val rfl⟩, ⟨_, rfl, .val rfl⟩, trivial⟩ rfl)
          ·refine D.beg 9999 [3, 5] [6, 7] mix rfl rfl (by kernel_rfl) (by repeat (first | exact NoPanicQ.body | refine NoPanicQ.th ?_ | refine NoPanicQ.blk ?_)) (fun hQ hS ws M' => ?_)
           refine D.ps 3 [(0, []), (1, []), (2, [])] rfl hQ hS T rfl rfl (by kernel_rfl) ?_
           obtain ⟨x78, hx78, hm⟩ := hm
           refine D.q (o := _) 3 [] hQ hS rfl (.none rfl) rfl rfl (by exact Rd.io T rfl rfl rfl rfl rfl rfl rfl hx78) rfl (by kernel_rfl) ?_
           refine D.ps 1 [(4, [])] rfl hQ hS T rfl rfl (by kernel_rfl) ?_
           refine D.q (o := _) 5 [] hQ hS rfl (.none rfl) rfl rfl (by exact Rd.le T rfl rfl rfl (idx_some hx78).2.2 rfl rfl rfl) rfl (by kernel_rfl) ?_
           refine D.ps 2 [(6, []), (7, [])] rfl hQ hS T rfl rfl (by kernel_rfl) ?_
           refine D.q (o := _) 8 [] hQ hS rfl (.none rfl) rfl rfl (by exact Rd.io T rfl rfl rfl rfl rfl rfl rfl hx78) rfl (by kernel_rfl) ?_
           refine D.ps 1 [(9, [])] rfl hQ hS T rfl rfl (by kernel_rfl) ?_
           refine D.q (o := _) 10 [] hQ hS rfl (.none rfl) rfl rfl (by exact Rd.le T rfl rfl rfl (idx_some hx78).2.2 rfl rfl rfl) rfl (by kernel_rfl) ?_
           refine D.ps 1 [(11, [])] rfl hQ hS T rfl rfl (by kernel_rfl) ?_
           refine D.two 12 16 (by kernel_rfl) ?_ ?_
           ·refine D.ef (o := _) rfl (.none rfl) (by exact Eff.c [] (v := true) (T_taquinref25_Do x63.1 ({ From := x78.To, To := x78.From : ApiShift }) _ hm) en35 rfl rfl rfl (.cons (.agg (.cons (.fz rfl rfl rfl (.os fun _ => .cons (.ro rfl) .nil)) (.eq rfl))) (.eq rfl)) trivial rfl rfl rfl rfl rfl rfl (fun _ _ => ⟨(.tup (.cons (.agg (.cons (.o _) (.cons (.v _) .nil))) (.cons (.v _) .nil))), ⟨.val (.os _ _ _ fun _ => (.cons (.v _) .nil)), trivial⟩⟩) (.inr ⟨rfl, rfl⟩) (fun _ => rfl) (fun _ => rfl) rfl) rfl rfl (fun x79' hm => ?_)
            obtain ⟨x79⟩ := x79'
            refine D.ps 3 [(13, []), (14, []), (15, [])] rfl hQ hS T rfl rfl (by kernel_rfl) ?_
            refine D.e1 (o := _) 16 rfl (.none rfl) (by exact Eff1.al T rfl rfl rfl rfl) (by kernel_rfl) rfl rfl ?_
            refine D.e1 (o := _) 17 rfl (.none rfl) (by exact Eff1.st T rfl rfl rfl rfl rfl rfl rfl rfl rfl rfl) (by kernel_rfl) rfl rfl ?_
            refine D.ps 1 [(18, [])] rfl hQ hS T rfl rfl (by kernel_rfl) ?_
            refine D.done (by kernel_rfl) ?_
            exact St.wk (hJ77 _ hm) (Wk.mk' [some 0, some 1, some 2, some 3, some 4, some 5, some 7, some 6] rfl rfl (.eqs rfl) ⟨⟨_, rfl, .box rfl (.eq rfl)⟩, ⟨_, rfl, .val rfl⟩, ⟨_, rfl, .val rfl⟩, ⟨_, rfl, .box rfl (.eq rfl)⟩, ⟨_, rfl, .val rfl⟩, ⟨_, rfl, .val rfl⟩, ⟨_, rfl, .box rfl (.eq rfl)⟩, ⟨_, rfl, .val rfl⟩, trivial⟩ rfl)
           ·refine D.ef1 (o := _) rfl (.none rfl) (by exact Eff1.al T rfl rfl rfl rfl) rfl rfl ?_
            refine D.e (o := _) 12 rfl (.none rfl) (by exact Eff.c [] (v := true) (T_taquinref25_Do x63.1 ({ From := x78.To, To := x78.From : ApiShift }) _ hm) en35 rfl rfl rfl (.cons (.agg (.cons (.fz rfl rfl rfl (.os fun _ => .cons (.ro rfl) .nil)) (.eq rfl))) (.eq rfl)) trivial rfl rfl rfl rfl rfl rfl (fun _ _ => ⟨(.tup (.cons (.agg (.cons (.o _) (.cons (.v _) .nil))) (.cons (.v _) .nil))), ⟨.val (.os _ _ _ fun _ => (.cons (.v _) .nil)), trivial⟩⟩) (.inr ⟨rfl, rfl⟩) (fun _ => rfl) (fun _ => rfl) rfl) (by kernel_rfl) rfl rfl (fun x79' hm => ?_)
            obtain ⟨x79⟩ := x79'
            refine D.ps 3 [(13, []), (14, []), (15, [])] rfl hQ hS T rfl rfl (by kernel_rfl) ?_
            refine D.e1 (o := _) 17 rfl (.none rfl) (by exact Eff1.st T rfl rfl rfl rfl rfl rfl rfl rfl rfl rfl) (by kernel_rfl) rfl rfl ?_
            refine D.ps 1 [(18, [])] rfl hQ hS T rfl rfl (by kernel_rfl) ?_
            refine D.done (by kernel_rfl) ?_
            exact St.wk (hJ77 _ hm) (Wk.mk' [some 0, some 1, some 2, some 3, some 4, some 5, some 6, some 7] rfl rfl (.eqs rfl) ⟨⟨_, rfl, .box rfl (.eq rfl)⟩, ⟨_, rfl, .val rfl⟩, ⟨_, rfl, .val rfl⟩, ⟨_, rfl, .box rfl (.eq rfl)⟩, ⟨_, rfl, .val rfl⟩, ⟨_, rfl, .val rfl⟩, ⟨_, rfl, .box rfl (.eq rfl)⟩, ⟨_, rfl, .val rfl⟩, trivial⟩ rfl)
         ·refine C.exit (C.ex (C.ex (C.bex ?_)))
          exact St.wk (hJ70 _ hm) (Wk.mk' [some 0, some 1, some 2] rfl rfl (.eqs rfl) ⟨⟨_, rfl, .box rfl (.eq rfl)⟩, ⟨_, rfl, .val rfl⟩, ⟨_, rfl, .val rfl⟩, trivial⟩ rfl)
      ·refine C.exit (C.ex (C.ex (C.bex ?_)))
       exact St.wk (hJ52 _ hm) (Wk.mk' [some 1] rfl rfl (.eqs rfl) ⟨⟨_, rfl, .val rfl⟩, trivial⟩ rfl)
    ·refine C.block ?_
     refine St.wk (C.loop (fun (s26 : List Int × List Int × Int) => [(1, .sl 1 eI r), (2, .i k), (3, .i goal), (4, .p 0 0), (10, .o 1), (11, .o 2), (12, .i s26.2.2)]) (fun (s26 : List Int × List Int × Int) => [(0, .box (eApiFloor f)), (1, .val (.os 1 eI s26.1)), (2, .val (.os 1 eI s26.2.1))]) hm (fun s26 Y27 hm => ?_)) (Wk.mk' [some 0, some 1, none] rfl rfl ⟨⟨_, rfl, (.eq rfl)⟩, ⟨_, rfl, (.eq rfl)⟩, ⟨_, rfl, (.eq rfl)⟩, ⟨_, rfl, (.eq rfl)⟩, ⟨_, rfl, (.eq rfl)⟩, ⟨_, rfl, (.nilO _ _ ⟨rfl, rfl⟩ rfl)⟩, ChkG.eqs rfl⟩ ⟨⟨_, rfl, .box rfl (.eq rfl)⟩, ⟨_, rfl, .val rfl⟩, ⟨_, rfl, .nil _ _⟩, trivial⟩ rfl)
     refine C.seq (C.seq (U.start ?_))
     refine U.ps 4 T rfl ?_
     refine U.done (C.nx ?_)
     refine C.ite rfl hm (fun hb30 hm => ?_) (fun hb30 hm => ?_)
     ·refine C.skip (C.nx (C.seq (C.block (C.seq (U.start ?_)))))
      refine U.ps 4 T rfl ?_
      refine U.e (o := _) rfl (.none rfl) (by exact Eff.c [] (v := true) (T_taquinref25_Unrank (r.length : Int) k s26.2.2 _ hm) en33 rfl rfl rfl (.eq rfl) trivial rfl rfl rfl rfl rfl rfl (fun _ _ => ⟨(.tup (.cons (.agg (.cons (.o _) (.cons (.v _) .nil))) (.cons (.v _) .nil))), ⟨.val (.os _ _ _ fun _ => (.cons (.v _) .nil)), trivial⟩⟩) (.inr ⟨rfl, rfl⟩) (fun _ => rfl) (fun _ => rfl) rfl) (fun x33' hm => ?_)
      obtain ⟨x33⟩ := x33'
      refine U.ps 3 T rfl ?_
      refine U.e1 (o := _) rfl (.none rfl) (by exact Eff1.al T rfl rfl rfl rfl) ?_
      refine U.e1 (o := _) rfl (.none rfl) (by exact Eff1.st T rfl rfl rfl rfl rfl rfl rfl rfl rfl rfl) ?_
      refine U.ps 1 T rfl ?_
      refine U.done (C.nx (C.seq (U.start ?_)))
      refine U.ps 2 T rfl ?_
      obtain ⟨x36, hx36, hm⟩ := hm
      refine U.r (o := _) rfl (.none rfl) rfl rfl (by exact Rd.io T rfl rfl rfl rfl rfl rfl rfl hx36) ?_
      refine U.e1 (o := _) rfl (.none rfl) (by exact Eff1.se T (z' := (-1)) rfl rfl rfl (idx_some hx36).2.2 rfl rfl rfl rfl rfl rfl rfl rfl (fun _ => rfl) rfl) ?_
      refine U.done (C.nx (C.seq (U.start ?_)))
      refine U.ps 4 T rfl ?_
      refine U.done (C.nx ?_)
      refine C.jn (fun (x39 : List Int × List Int) => [(1, .sl 1 eI r), (2, .i k), (3, .i goal), (4, .p 0 0), (10, .o 1), (11, .o 2), (12, .i s26.2.2)]) (fun (x39 : List Int × List Int) => [(0, .box (eApiFloor f)), (1, .val (.os 1 eI x39.1)), (2, .val (.os 1 eI x39.2))]) 3 hm (fun x39 hm => ?_) (fun J40 hm hJ40 => ?_)
      ·refine C.bnx (C.nx (U.start ?_))
       refine U.ps 3 T rfl ?_
       refine U.done (C.nx ?_)
       exact St.wk (C.next hm) (Wk.mk' [some 0, some 1, some 2] rfl rfl (.eqs rfl) ⟨⟨_, rfl, .box rfl (.eq rfl)⟩, ⟨_, rfl, .val rfl⟩, ⟨_, rfl, .val rfl⟩, trivial⟩ rfl)
      ·refine C.ite rfl hm (fun hb41 hm => ?_) (fun hb41 hm => ?_)
       ·refine C.seq (U.start ?_)
        refine U.ps 2 T rfl ?_
        refine U.r (o := _) rfl (.none rfl) rfl rfl (by exact Rd.io T rfl rfl rfl rfl rfl rfl rfl (idx_set hx36)) ?_
        refine U.e1 (o := _) rfl (.none rfl) (by exact Eff1.se T (z' := 0) rfl rfl rfl (set_get (idx_some hx36).2.2) rfl rfl rfl rfl rfl rfl rfl rfl (fun _ => rfl) rfl) ?_
        refine U.done (C.nx (U.start ?_))
        refine U.ps 2 T rfl ?_
        refine U.e1 (o := _) rfl (.none rfl) (by exact Eff1.bs T (enc := eI) (xs := ([s26.2.2] : List Int)) rfl rfl rfl rfl rfl rfl rfl rfl rfl rfl (fun _ _ => rfl) rfl rfl) ?_
        obtain ⟨hx46, hm⟩ := hm
        refine U.e1 (o := _) rfl (.none rfl) (by exact Eff1.ap T rfl rfl rfl rfl rfl rfl (.inr ⟨_, rfl, rfl⟩) rfl rfl rfl (fun _ => rfl) rfl hx46) ?_
        refine U.ps 1 T rfl ?_
        refine U.done ?_
        exact St.wk (hJ40 _ hm) (Wk.mk' [some 0, some 1, some 6] rfl rfl (.eqs rfl) ⟨⟨_, rfl, .box rfl (.eq rfl)⟩, ⟨_, rfl, .val rfl⟩, ⟨_, rfl, .val rfl⟩, trivial⟩ rfl)
       ·refine C.skip ?_
        exact St.wk (hJ40 _ hm) (Wk.mk' [some 0, some 1, some 2] rfl rfl (.eqs rfl) ⟨⟨_, rfl, .box rfl (.eq rfl)⟩, ⟨_, rfl, .val rfl⟩, ⟨_, rfl, .val rfl⟩, trivial⟩ rfl)
     ·refine C.exit (C.ex (C.ex (C.bex ?_)))
      exact St.wk (hJ25 _ hm) (Wk.mk' [some 0, some 1, some 2] rfl rfl (.eqs rfl) ⟨⟨_, rfl, .box rfl (.eq rfl)⟩, ⟨_, rfl, .val rfl⟩, ⟨_, rfl, .val rfl⟩, trivial⟩ rfl)
  ·refine U.start ?_
   refine U.ps 3 T rfl ?_
   refine hm.cs (fun hb10 hm => ?_) (fun hb10 hm => ?_)
   ·refine U.sks 4 2 false 28 hb10 rfl rfl rfl ?_
    refine U.r (o := _) rfl (.none rfl) rfl rfl (by exact Rd.pk rfl rfl hb10 rfl) ?_
    refine U.ps 1 T rfl ?_
    refine U.sks 2 8 false 34 rfl rfl rfl rfl ?_
    refine U.r (o := _) rfl (.none rfl) rfl rfl (by exact Rd.pk rfl rfl rfl rfl) ?_
    refine U.ps 1 T rfl ?_
    refine U.sks 4 12 false 38 rfl rfl rfl rfl ?_
    refine U.r (o := _) rfl (.none rfl) rfl rfl (by exact Rd.pk rfl rfl rfl rfl) ?_
    refine U.done ?_
    exact St.wk (hJ9 _ hm) (Wk.mk' [some 0] rfl rfl (.eqs rfl) ⟨⟨_, rfl, .box rfl (.eq rfl)⟩, trivial⟩ rfl)
   ·refine U.pg 4 2 false 28 hb10 T rfl rfl rfl rfl ?_
    refine U.r (o := _) rfl (.none rfl) rfl rfl (by exact Rd.pk' rfl rfl hb10 rfl) ?_
    refine U.ps 1 T rfl ?_
    refine hm.cs (fun hb11 hm => ?_) (fun hb11 hm => ?_)
    ·refine U.sks 2 8 false 34 hb11 rfl rfl rfl ?_
     refine U.r (o := _) rfl (.none rfl) rfl rfl (by exact Rd.pk rfl rfl hb11 rfl) ?_
     refine U.ps 1 T rfl ?_
     refine U.sks 4 12 false 38 rfl rfl rfl rfl ?_
     refine U.r (o := _) rfl (.none rfl) rfl rfl (by exact Rd.pk rfl rfl rfl rfl) ?_
     refine U.done ?_
     exact St.wk (hJ9 _ hm) (Wk.mk' [some 0] rfl rfl (.eqs rfl) ⟨⟨_, rfl, .box rfl (.eq rfl)⟩, trivial⟩ rfl)
    ·refine U.pg 2 8 false 34 hb11 T rfl rfl rfl rfl ?_
     refine U.r (o := _) rfl (.none rfl) rfl rfl (by exact Rd.pk' rfl rfl hb11 rfl) ?_
     refine U.ps 1 T rfl ?_
     refine hm.cs (fun hb12 hm => ?_) (fun hb12 hm => ?_)
     ·refine U.sks 4 12 false 38 hb12 rfl rfl rfl ?_
      refine U.r (o := _) rfl (.none rfl) rfl rfl (by exact Rd.pk rfl rfl hb12 rfl) ?_
      refine U.done ?_
      exact St.wk (hJ9 _ hm) (Wk.mk' [some 0] rfl rfl (.eqs rfl) ⟨⟨_, rfl, .box rfl (.eq rfl)⟩, trivial⟩ rfl)
     ·refine U.pg 4 12 false 38 hb12 T rfl rfl rfl rfl ?_
      refine U.r (o := _) rfl (.none rfl) rfl rfl (by exact Rd.pk' rfl rfl hb12 rfl) ?_
      refine U.done ?_
      exact St.wk (hJ9 _ hm) (Wk.mk' [some 0] rfl rfl (.eqs rfl) ⟨⟨_, rfl, .box rfl (.eq rfl)⟩, trivial⟩ rfl)
theorem T_taquinref26_Least (f : ApiFloor) (r : List Int) (l : ApiLayout) (goal : Int) (post : (Int × Int) → Prop) (hm : V_taquinref26_Least f r l goal post) :
    Tr Try.prog 13 [.agg (eApiFloor f), .sl 1 eI r, .agg [.sl 1 eB l.Full, .i l.Target], .i goal] [] 0 (fun A H' k => ∃ y, post y ∧ A = (.tup [.i y.1, .i y.2]) ∧ H' = [] ∧ k = 0) := by
 refine Tr.intro (n := 33) Try.func13 rfl Try.ntmps13 rfl (fun w0 ok F β hβ => ?_)
 unfold V_taquinref26_Least at hm
 refine C.seq (U.start ?_)
 refine U.e1 (o := _) rfl (.none rfl) (by exact Eff1.box rfl rfl rfl rfl rfl) ?_
 refine U.e1 (o := _) rfl (.none rfl) (by exact Eff1.box rfl rfl rfl rfl rfl) ?_
 refine U.ps 2 T rfl ?_
 refine U.done (C.nx (C.seq ?_))
 refine D.beg 9999 [0, 1] [] mix rfl rfl (by kernel_rfl) (by repeat (first | exact NoPanicQ.body | refine NoPanicQ.th ?_ | refine NoPanicQ.blk ?_)) (fun hQ hS ws M' => ?_)
 refine D.ps 4 [(0, []), (1, []), (2, []), (4, [])] rfl hQ hS T rfl rfl (by kernel_rfl) ?_
 refine D.e (o := _) 3 rfl (.none rfl) (by exact Eff.c [] (v := true) (T_taquinref25_Shelves l _ hm) en38 rfl rfl rfl (.eq rfl) trivial rfl rfl rfl rfl rfl rfl (fun _ _ => ⟨(.v _), trivial⟩) (.inr ⟨rfl, rfl⟩) (fun _ => rfl) (fun _ => rfl) rfl) (by kernel_rfl) rfl rfl (fun x5' hm => ?_)
 obtain ⟨x5⟩ := x5'
 refine D.e (o := _) 5 rfl (.none rfl) (by exact Eff.c [] (v := true) (T_taquinref26_Table f r x5 goal _ hm) en11 rfl rfl rfl (.eq rfl) trivial rfl rfl rfl rfl rfl rfl (fun _ _ => ⟨(.tup (.cons (.o _) (.cons (.v _) .nil))), ⟨.val (.os _ _ _ fun _ => (.cons (.v _) .nil)), trivial⟩⟩) (.inr ⟨rfl, rfl⟩) (fun _ => rfl) (fun _ => rfl) rfl) (by kernel_rfl) rfl rfl (fun x6' hm => ?_)
 obtain ⟨x6⟩ := x6'
 refine D.ps 5 [(6, []), (7, []), (8, []), (9, []), (10, [])] rfl hQ hS T rfl rfl (by kernel_rfl) ?_
 refine D.done (by kernel_rfl) ?_
 refine C.nx (C.seq (C.seq (U.start ?_)))
 refine U.ps 2 T rfl ?_
 refine U.done (C.nx ?_)
 refine C.ite rfl hm (fun hb9 hm => ?_) (fun hb9 hm => ?_)
 ·refine C.seq (U.start ?_)
  refine U.ps 3 T rfl ?_
  refine U.done (C.nx (C.ret (C.rt ?_)))
  exact C.fin T (rs' := [.i ((0, x6.2).1), .i ((0, x6.2).2)]) (H' := []) (nl' := 0) [] rfl rfl (.eq rfl) trivial rfl rfl rfl rfl hβ ⟨(0, x6.2), hm, rfl, rfl, rfl⟩
 ·refine C.skip (C.nx (C.seq (U.start ?_)))
  refine U.ps 2 T rfl ?_
  refine U.e (o := _) rfl (.none rfl) (by exact Eff.c [] (v := true) (T_taquinref25_Rank l _ hm) en36 rfl rfl rfl (.eq rfl) trivial rfl rfl rfl rfl rfl rfl (fun _ _ => ⟨(.v _), trivial⟩) (.inr ⟨rfl, rfl⟩) (fun _ => rfl) (fun _ => rfl) rfl) (fun x14' hm => ?_)
  obtain ⟨x14⟩ := x14'
  obtain ⟨x15, hx15, hm⟩ := hm
  refine U.r (o := _) rfl (.none rfl) rfl rfl (by exact Rd.io T rfl rfl rfl rfl rfl rfl rfl hx15) ?_
  refine U.r (o := _) rfl (.none rfl) rfl rfl (by exact Rd.le T rfl rfl rfl (idx_some hx15).2.2 rfl rfl rfl) ?_
  refine U.ps 1 T rfl ?_
  refine U.done (C.nx (C.seq (C.seq (U.start ?_))))
  refine U.ps 2 T rfl ?_
  refine U.done (C.nx ?_)
  refine C.ite rfl hm (fun hb18 hm => ?_) (fun hb18 hm => ?_)
  ·refine C.seq (U.start ?_)
   refine U.ps 2 T rfl ?_
   refine U.done (C.nx (C.ret (C.rt ?_)))
   exact C.fin T (rs' := [.i ((0, 14).1), .i ((0, 14).2)]) (H' := []) (nl' := 0) [] rfl rfl (.eq rfl) trivial rfl rfl rfl rfl hβ ⟨(0, 14), hm, rfl, rfl, rfl⟩
  ·refine C.skip (C.nx (C.seq (U.start ?_)))
   refine U.ps 3 T rfl ?_
   refine U.done (C.nx (C.ret ?_))
   exact C.fin T (rs' := [.i ((x15, 0).1), .i ((x15, 0).2)]) (H' := []) (nl' := 0) [] rfl rfl (.eq rfl) trivial rfl rfl rfl rfl hβ ⟨(x15, 0), hm, rfl, rfl, rfl⟩
theorem T_taquinref25_Shifts (f : ApiFloor) (r : List Int) (l : ApiLayout) (post : (List ApiShift) → Prop) (hm : V_taquinref25_Shifts f r l post) :
    Tr Try.prog 39 [.agg (eApiFloor f), .sl 1 eI r, .agg [.sl 1 eB l.Full, .i l.Target]] [] 0 (fun A H' k => ∃ y, post y ∧ A = (.o 0) ∧ H' = [(0, .val (.os 2 eApiShift y))] ∧ k = 1) := by
 refine Tr.intro (n := 11) Try.func39 rfl Try.ntmps39 rfl (fun w0 ok F β hβ => ?_)
 unfold V_taquinref25_Shifts at hm
 refine C.seq (U.start ?_)
 refine U.e1 (o := _) rfl (.none rfl) (by exact Eff1.box rfl rfl rfl rfl rfl) ?_
 refine U.e1 (o := _) rfl (.none rfl) (by exact Eff1.box rfl rfl rfl rfl rfl) ?_
 refine U.ps 1 T rfl ?_
 refine U.done (C.nx (C.seq (U.start ?_)))
 refine U.ps 3 T rfl ?_
 refine U.e (o := _) rfl (.none rfl) (by exact Eff.c [] (v := true) (T_taquinref25_between f r l true _ hm) en45 rfl rfl rfl (.eq rfl) trivial rfl rfl rfl rfl rfl rfl (fun _ _ => ⟨(.o _), ⟨.val (.os _ _ _ fun _ => (.cons (.v _) (.cons (.v _) .nil))), trivial⟩⟩) (.inr ⟨rfl, rfl⟩) (fun _ => rfl) (fun _ => rfl) rfl) (fun x5' hm => ?_)
 obtain ⟨x5⟩ := x5'
 refine U.ps 1 T rfl ?_
 refine U.done (C.nx (C.ret ?_))
 exact C.fin T (rs' := [.o 0]) (H' := [(0, .val (.os 2 eApiShift x5))]) (nl' := 1) [some 2] rfl rfl (.eq rfl) ⟨⟨_, rfl, .val rfl⟩, trivial⟩ rfl rfl rfl rfl hβ ⟨x5, hm, rfl, rfl, rfl⟩
theorem T_taquinref26_Solve (f : ApiFloor) (r : List Int) (l : ApiLayout) (goal : Int) (post : (List ApiShift × Int) → Prop) (hm : V_taquinref26_Solve f r l goal post) :
    Tr Try.prog 15 [.agg (eApiFloor f), .sl 1 eI r, .agg [.sl 1 eB l.Full, .i l.Target], .i goal] [] 0 (fun A H' k => ∃ y, post y ∧ A = (.tup [.o 0, .i y.2]) ∧ H' = [(0, .val (.os 2 eApiShift y.1))] ∧ k = 1) := by
 refine Tr.intro (n := 81) Try.func15 rfl Try.ntmps15 rfl (fun w0 ok F β hβ => ?_)
 unfold V_taquinref26_Solve at hm
 refine C.seq (U.start ?_)
 refine U.e1 (o := _) rfl (.none rfl) (by exact Eff1.box rfl rfl rfl rfl rfl) ?_
 refine U.e1 (o := _) rfl (.none rfl) (by exact Eff1.box rfl rfl rfl rfl rfl) ?_
 refine U.ps 2 T rfl ?_
 refine U.done (C.nx (C.seq ?_))
 refine D.beg 9999 [0, 1] [] mix rfl rfl (by kernel_rfl) (by repeat (first | exact NoPanicQ.body | refine NoPanicQ.th ?_ | refine NoPanicQ.blk ?_)) (fun hQ hS ws M' => ?_)
 refine D.ps 4 [(0, []), (1, []), (2, []), (4, [])] rfl hQ hS T rfl rfl (by kernel_rfl) ?_
 refine D.e (o := _) 3 rfl (.none rfl) (by exact Eff.c [] (v := true) (T_taquinref25_Shelves l _ hm) en38 rfl rfl rfl (.eq rfl) trivial rfl rfl rfl rfl rfl rfl (fun _ _ => ⟨(.v _), trivial⟩) (.inr ⟨rfl, rfl⟩) (fun _ => rfl) (fun _ => rfl) rfl) (by kernel_rfl) rfl rfl (fun x5' hm => ?_)
 obtain ⟨x5⟩ := x5'
 refine D.e (o := _) 5 rfl (.none rfl) (by exact Eff.c [] (v := true) (T_taquinref26_Table f r x5 goal _ hm) en11 rfl rfl rfl (.eq rfl) trivial rfl rfl rfl rfl rfl rfl (fun _ _ => ⟨(.tup (.cons (.o _) (.cons (.v _) .nil))), ⟨.val (.os _ _ _ fun _ => (.cons (.v _) .nil)), trivial⟩⟩) (.inr ⟨rfl, rfl⟩) (fun _ => rfl) (fun _ => rfl) rfl) (by kernel_rfl) rfl rfl (fun x6' hm => ?_)
 obtain ⟨x6⟩ := x6'
 refine D.ps 5 [(6, []), (7, []), (8, []), (9, []), (10, [])] rfl hQ hS T rfl rfl (by kernel_rfl) ?_
 refine D.done (by kernel_rfl) ?_
 refine C.nx (C.seq (C.seq (U.start ?_)))
 refine U.ps 2 T rfl ?_
 refine U.done (C.nx ?_)
 refine C.ite rfl hm (fun hb9 hm => ?_) (fun hb9 hm => ?_)
 ·refine C.seq (U.start ?_)
  refine U.ps 3 T rfl ?_
  refine U.done (C.nx (C.ret (C.rt ?_)))
  exact C.fin T (rs' := [.o 0, .i (([], x6.2).2)]) (H' := [(0, .val (.os 2 eApiShift (([], x6.2).1)))]) (nl' := 1) [none] rfl rfl (.cons (.nilO _ _ ⟨rfl, rfl⟩ rfl) (.eq rfl)) ⟨⟨_, rfl, .nil _ _⟩, trivial⟩ rfl rfl rfl rfl hβ ⟨([], x6.2), hm, rfl, rfl, rfl⟩
 ·refine C.skip (C.nx (C.seq (C.seq (U.start ?_))))
  refine U.ps 2 T rfl ?_
  refine U.e (o := _) rfl (.none rfl) (by exact Eff.c [] (v := true) (T_taquinref25_Rank l _ hm) en36 rfl rfl rfl (.eq rfl) trivial rfl rfl rfl rfl rfl rfl (fun _ _ => ⟨(.v _), trivial⟩) (.inr ⟨rfl, rfl⟩) (fun _ => rfl) (fun _ => rfl) rfl) (fun x14' hm => ?_)
  obtain ⟨x14⟩ := x14'
  obtain ⟨x15, hx15, hm⟩ := hm
  refine U.r (o := _) rfl (.none rfl) rfl rfl (by exact Rd.io T rfl rfl rfl rfl rfl rfl rfl hx15) ?_
  refine U.r (o := _) rfl (.none rfl) rfl rfl (by exact Rd.le T rfl rfl rfl (idx_some hx15).2.2 rfl rfl rfl) ?_
  refine U.ps 1 T rfl ?_
  refine U.done (C.nx ?_)
  refine C.ite rfl hm (fun hb16 hm => ?_) (fun hb16 hm => ?_)
  ·refine C.seq (U.start ?_)
   refine U.ps 2 T rfl ?_
   refine U.done (C.nx (C.ret (C.rt ?_)))
   exact C.fin T (rs' := [.o 0, .i (([], 14).2)]) (H' := [(0, .val (.os 2 eApiShift (([], 14).1)))]) (nl' := 1) [none] rfl rfl (.cons (.nilO _ _ ⟨rfl, rfl⟩ rfl) (.eq rfl)) ⟨⟨_, rfl, .nil _ _⟩, trivial⟩ rfl rfl rfl rfl hβ ⟨([], 14), hm, rfl, rfl, rfl⟩
  ·refine C.skip (C.nx (C.seq (U.start ?_)))
   refine U.ps 1 T rfl ?_
   refine U.done (C.nx (C.seq ?_))
   refine C.jn (fun (x21 : List ApiShift) => [(12, .o 0)]) (fun (x21 : List ApiShift) => [(0, .val (.os 2 eApiShift x21))]) 1 hm (fun x21 hm => ?_) (fun J22 hm hJ22 => ?_)
   ·refine C.nx (C.seq (U.start ?_))
    refine U.ps 3 T rfl ?_
    refine U.done (C.nx (C.ret ?_))
    exact C.fin T (rs' := [.o 0, .i ((x21, 0).2)]) (H' := [(0, .val (.os 2 eApiShift ((x21, 0).1)))]) (nl' := 1) [some 0] rfl rfl (.eq rfl) ⟨⟨_, rfl, .val rfl⟩, trivial⟩ rfl rfl rfl rfl hβ ⟨(x21, 0), hm, rfl, rfl, rfl⟩
   ·refine C.block ?_
    refine St.wk (C.loop (fun (s23 : List Bool × Int × List ApiShift) => [(1, .sl 1 eI r), (4, .p 0 0), (6, .p 1 0), (10, .o 2), (12, .o 3)]) (fun (s23 : List Bool × Int × List ApiShift) => [(0, .box (eApiFloor f)), (1, .box [.sl 1 eB s23.1, .i s23.2.1]), (2, .val (.os 1 eI x6.1)), (3, .val (.os 2 eApiShift s23.2.2))]) hm (fun s23 Y24 hm => ?_)) (Wk.mk' [some 0, some 1, some 2, none] rfl rfl ⟨⟨_, rfl, (.eq rfl)⟩, ⟨_, rfl, (.eq rfl)⟩, ⟨_, rfl, (.eq rfl)⟩, ⟨_, rfl, (.eq rfl)⟩, ⟨_, rfl, (.nilO _ _ ⟨rfl, rfl⟩ rfl)⟩, trivial⟩ ⟨⟨_, rfl, .box rfl (.eq rfl)⟩, ⟨_, rfl, .box rfl (.eq rfl)⟩, ⟨_, rfl, .val rfl⟩, ⟨_, rfl, .nil _ _⟩, trivial⟩ rfl)
    refine C.seq (C.seq (U.start ?_))
    refine U.ps 2 T rfl ?_
    refine U.e (o := _) rfl (.none rfl) (by exact Eff.c [] (v := true) (T_taquinref25_Rank ({ Full := s23.1, Target := s23.2.1 : ApiLayout }) _ hm) en36 rfl rfl rfl (.eq rfl) trivial rfl rfl rfl rfl rfl rfl (fun _ _ => ⟨(.v _), trivial⟩) (.inr ⟨rfl, rfl⟩) (fun _ => rfl) (fun _ => rfl) rfl) (fun x27' hm => ?_)
    obtain ⟨x27⟩ := x27'
    obtain ⟨x28, hx28, hm⟩ := hm
    refine U.r (o := _) rfl (.none rfl) rfl rfl (by exact Rd.io T rfl rfl rfl rfl rfl rfl rfl hx28) ?_
    refine U.r (o := _) rfl (.none rfl) rfl rfl (by exact Rd.le T rfl rfl rfl (idx_some hx28).2.2 rfl rfl rfl) ?_
    refine U.ps 1 T rfl ?_
    refine U.done (C.nx ?_)
    refine C.ite rfl hm (fun hb29 hm => ?_) (fun hb29 hm => ?_)
    ·refine C.skip (C.nx ?_)
     refine C.jn (fun (x30 : List Bool × Int × List ApiShift) => [(1, .sl 1 eI r), (4, .p 0 0), (6, .p 1 0), (10, .o 2), (12, .o 3)]) (fun (x30 : List Bool × Int × List ApiShift) => [(0, .box (eApiFloor f)), (1, .box [.sl 1 eB x30.1, .i x30.2.1]), (2, .val (.os 1 eI x6.1)), (3, .val (.os 2 eApiShift x30.2.2))]) 4 hm (fun x30 hm => ?_) (fun J31 hm hJ31 => ?_)
     ·refine C.nx ?_
      exact St.wk (C.next hm) (Wk.mk' [some 0, some 1, some 2, some 3] rfl rfl (.eqs rfl) ⟨⟨_, rfl, .box rfl (.eq rfl)⟩, ⟨_, rfl, .box rfl (.eq rfl)⟩, ⟨_, rfl, .val rfl⟩, ⟨_, rfl, .val rfl⟩, trivial⟩ rfl)
     ·refine C.block (C.seq (U.start ?_))
      refine U.ps 3 T rfl ?_
      refine U.e (o := _) rfl (.none rfl) (by exact Eff.c [] (v := true) (T_taquinref25_Shifts f r ({ Full := s23.1, Target := s23.2.1 : ApiLayout }) _ hm) en39 rfl rfl rfl (.eq rfl) trivial rfl rfl rfl rfl rfl rfl (fun _ _ => ⟨(.o _), ⟨.val (.os _ _ _ fun _ => (.cons (.v _) (.cons (.v _) .nil))), trivial⟩⟩) (.inr ⟨rfl, rfl⟩) (fun _ => rfl) (fun _ => rfl) rfl) (fun x34' hm => ?_)
      obtain ⟨x34⟩ := x34'
      refine U.ps 1 T rfl ?_
      refine U.done (C.nx (C.seq (U.start ?_)))
      refine U.ps 1 T rfl ?_
      refine U.done (C.nx ?_)
      refine C.jn (fun (x37 : List Bool × Int × List ApiShift) => [(1, .sl 1 eI r), (4, .p 0 0), (6, .p 1 0), (10, .o 2), (12, .o 3)]) (fun (x37 : List Bool × Int × List ApiShift) => [(0, .box (eApiFloor f)), (1, .box [.sl 1 eB x37.1, .i x37.2.1]), (2, .val (.os 1 eI x6.1)), (3, .val (.os 2 eApiShift x37.2.2))]) 4 hm (fun x37 hm => ?_) (fun J38 hm hJ38 => ?_)
      ·refine C.bnx ?_
       exact St.wk (hJ31 _ hm) (Wk.mk' [some 0, some 1, some 2, some 3] rfl rfl (.eqs rfl) ⟨⟨_, rfl, .box rfl (.eq rfl)⟩, ⟨_, rfl, .box rfl (.eq rfl)⟩, ⟨_, rfl, .val rfl⟩, ⟨_, rfl, .val rfl⟩, trivial⟩ rfl)
      ·refine C.block ?_
       refine St.wk (C.loop (fun (s39 : Int) => [(1, .sl 1 eI r), (4, .p 0 0), (6, .p 1 0), (10, .o 2), (12, .o 3), (13, .o 4), (14, .i s39)]) (fun (s39 : Int) => [(0, .box (eApiFloor f)), (1, .box [.sl 1 eB s23.1, .i s23.2.1]), (2, .val (.os 1 eI x6.1)), (3, .val (.os 2 eApiShift s23.2.2)), (4, .val (.os 2 eApiShift x34))]) hm (fun s39 Y40 hm => ?_)) (Wk.mk' [some 0, some 1, some 2, some 3, some 4] rfl rfl (.eqs rfl) ⟨⟨_, rfl, .box rfl (.eq rfl)⟩, ⟨_, rfl, .box rfl (.eq rfl)⟩, ⟨_, rfl, .val rfl⟩, ⟨_, rfl, .val rfl⟩, ⟨_, rfl, .val rfl⟩, trivial⟩ rfl)
       refine C.seq (C.seq (U.start ?_))
       refine U.ps 4 T rfl ?_
       refine U.done (C.nx ?_)
       refine C.ite rfl hm (fun hb43 hm => ?_) (fun hb43 hm => ?_)
       ·refine C.skip (C.nx (C.seq (C.block (C.seq ?_))))
        refine C.jn (fun (x44 : List Bool × Int) => [(1, .sl 1 eI r), (4, .p 0 0), (6, .p 1 0), (10, .o 2), (12, .o 3), (13, .o 4), (14, .i s39), (15, .p 5 0)]) (fun (x44 : List Bool × Int) => [(0, .box (eApiFloor f)), (1, .box [.sl 1 eB s23.1, .i s23.2.1]), (2, .val (.os 1 eI x6.1)), (3, .val (.os 2 eApiShift s23.2.2)), (4, .val (.os 2 eApiShift x34)), (5, .box [.o 6, .i x44.2]), (6, .val (.os 1 eB x44.1))]) 7 hm (fun x44 hm => ?_) (fun J45 hm hJ45 => ?_)
        ·refine C.nx (C.seq ?_)
         refine D.beg 9999 [1, 2, 5] [] mix rfl rfl (by kernel_rfl) (by repeat (first | exact NoPanicQ.body | refine NoPanicQ.th ?_ | refine NoPanicQ.blk ?_)) (fun hQ hS ws M' => ?_)
         refine D.ps 4 [(0, []), (1, []), (5, []), (6, [])] rfl hQ hS T rfl rfl (by kernel_rfl) ?_
         refine D.e (o := _) 2 rfl (.none rfl) (by exact Eff.c [] (v := true) (T_taquinref25_Rank ({ Full := x44.1, Target := x44.2 : ApiLayout }) _ hm) en36 rfl rfl rfl (.cons (.agg (.cons (.fz rfl rfl rfl (.os fun _ => .cons (.ro rfl) .nil)) (.eq rfl))) .nil) trivial rfl rfl rfl rfl rfl rfl (fun _ _ => ⟨(.v _), trivial⟩) (.inr ⟨rfl, rfl⟩) (fun _ => rfl) (fun _ => rfl) rfl) (by kernel_rfl) rfl rfl (fun x50' hm => ?_)
         obtain ⟨x50⟩ := x50'
         obtain ⟨x51, hx51, hm⟩ := hm
         refine D.q (o := _) 3 [] hQ hS rfl (.none rfl) rfl rfl (by exact Rd.io T rfl rfl rfl rfl rfl rfl rfl hx51) rfl (by kernel_rfl) ?_
         refine D.q (o := _) 4 [] hQ hS rfl (.none rfl) rfl rfl (by exact Rd.le T rfl rfl rfl (idx_some hx51).2.2 rfl rfl rfl) rfl (by kernel_rfl) ?_
         refine D.e (o := _) 7 rfl (.none rfl) (by exact Eff.c [] (v := true) (T_taquinref25_Rank ({ Full := s23.1, Target := s23.2.1 : ApiLayout }) _ hm) en36 rfl rfl rfl (.eq rfl) trivial rfl rfl rfl rfl rfl rfl (fun _ _ => ⟨(.v _), trivial⟩) (.inr ⟨rfl, rfl⟩) (fun _ => rfl) (fun _ => rfl) rfl) (by kernel_rfl) rfl rfl (fun x52' hm => ?_)
         obtain ⟨x52⟩ := x52'
         obtain ⟨x53, hx53, hm⟩ := hm
         refine D.q (o := _) 8 [] hQ hS rfl (.none rfl) rfl rfl (by exact Rd.io T rfl rfl rfl rfl rfl rfl rfl hx53) rfl (by kernel_rfl) ?_
         refine D.q (o := _) 9 [] hQ hS rfl (.none rfl) rfl rfl (by exact Rd.le T rfl rfl rfl (idx_some hx53).2.2 rfl rfl rfl) rfl (by kernel_rfl) ?_
         refine D.ps 2 [(10, []), (11, [])] rfl hQ hS T rfl rfl (by kernel_rfl) ?_
         refine D.done (by kernel_rfl) ?_
         refine C.nx ?_
         refine C.ite rfl hm (fun hb54 hm => ?_) (fun hb54 hm => ?_)
         ·refine C.seq (U.start ?_)
          refine U.ps 3 T rfl ?_
          obtain ⟨x57, hx57, hm⟩ := hm
          refine U.r (o := _) rfl (.none rfl) rfl rfl (by exact Rd.io T rfl rfl rfl rfl rfl rfl rfl hx57) ?_
          refine U.r (o := _) rfl (.none rfl) rfl rfl (by exact Rd.le T rfl rfl rfl (idx_some hx57).2.2 rfl rfl rfl) ?_
          refine U.e1 (o := _) rfl (.none rfl) (by exact Eff1.bs T (enc := eApiShift) (xs := ([x57] : List ApiShift)) rfl rfl rfl rfl rfl rfl rfl rfl rfl rfl (fun _ _ => rfl) rfl rfl) ?_
          obtain ⟨hx58, hm⟩ := hm
          refine U.e1 (o := _) rfl (.none rfl) (by exact Eff1.ap T rfl rfl rfl rfl rfl rfl (.inr ⟨_, rfl, rfl⟩) rfl rfl rfl (fun _ => rfl) rfl hx58) ?_
          refine U.ps 1 T rfl ?_
          refine U.done (C.nx (C.seq (U.start ?_)))
          refine U.ps 1 T rfl ?_
          refine U.e1 (o := _) rfl (.none rfl) (by exact Eff1.st T rfl rfl rfl rfl rfl rfl rfl rfl rfl rfl) ?_
          refine U.done (C.nx (C.exit ?_))
          refine C.bex' rfl ?_
          refine C.ex (C.ex (C.bex ?_))
          exact St.wk (hJ38 _ hm) (Wk.mk' [some 0, some 1, some 2, some 8] rfl rfl (.eqs rfl) ⟨⟨_, rfl, .box rfl (.eq rfl)⟩, ⟨_, rfl, .box rfl (.cons (.fz rfl rfl rfl (.os fun _ => .cons (.ro rfl) .nil)) (.eq rfl))⟩, ⟨_, rfl, .val rfl⟩, ⟨_, rfl, .val rfl⟩, trivial⟩ rfl)
         ·refine C.skip (C.bnx (C.nx (U.start ?_)))
          refine U.ps 3 T rfl ?_
          refine U.done (C.nx ?_)
          exact St.wk (C.next hm) (Wk.mk' [some 0, some 1, some 2, some 3, some 4] rfl rfl (.eqs rfl) ⟨⟨_, rfl, .box rfl (.eq rfl)⟩, ⟨_, rfl, .box rfl (.eq rfl)⟩, ⟨_, rfl, .val rfl⟩, ⟨_, rfl, .val rfl⟩, ⟨_, rfl, .val rfl⟩, trivial⟩ rfl)
        ·refine D.beg 9999 [1, 4] [5, 6] mix rfl rfl (by kernel_rfl) (by repeat (first | exact NoPanicQ.body | refine NoPanicQ.th ?_ | refine NoPanicQ.blk ?_)) (fun hQ hS ws M' => ?_)
         refine D.ps 3 [(0, []), (1, []), (2, [])] rfl hQ hS T rfl rfl (by kernel_rfl) ?_
         obtain ⟨x46, hx46, hm⟩ := hm
         refine D.q (o := _) 3 [] hQ hS rfl (.none rfl) rfl rfl (by exact Rd.io T rfl rfl rfl rfl rfl rfl rfl hx46) rfl (by kernel_rfl) ?_
         refine D.q (o := _) 4 [] hQ hS rfl (.none rfl) rfl rfl (by exact Rd.le T rfl rfl rfl (idx_some hx46).2.2 rfl rfl rfl) rfl (by kernel_rfl) ?_
         refine D.two 5 9 (by kernel_rfl) ?_ ?_
         ·refine D.ef (o := _) rfl (.none rfl) (by exact Eff.c [] (v := true) (T_taquinref25_Do ({ Full := s23.1, Target := s23.2.1 : ApiLayout }) x46 _ hm) en35 rfl rfl rfl (.eq rfl) trivial rfl rfl rfl rfl rfl rfl (fun _ _ => ⟨(.tup (.cons (.agg (.cons (.o _) (.cons (.v _) .nil))) (.cons (.v _) .nil))), ⟨.val (.os _ _ _ fun _ => (.cons (.v _) .nil)), trivial⟩⟩) (.inr ⟨rfl, rfl⟩) (fun _ => rfl) (fun _ => rfl) rfl) rfl rfl (fun x47' hm => ?_)
          obtain ⟨x47⟩ := x47'
          refine D.ps 3 [(6, []), (7, []), (8, [])] rfl hQ hS T rfl rfl (by kernel_rfl) ?_
          refine D.e1 (o := _) 9 rfl (.none rfl) (by exact Eff1.al T rfl rfl rfl rfl) (by kernel_rfl) rfl rfl ?_
          refine D.e1 (o := _) 10 rfl (.none rfl) (by exact Eff1.st T rfl rfl rfl rfl rfl rfl rfl rfl rfl rfl) (by kernel_rfl) rfl rfl ?_
          refine D.ps 1 [(11, [])] rfl hQ hS T rfl rfl (by kernel_rfl) ?_
          refine D.done (by kernel_rfl) ?_
          exact St.wk (hJ45 _ hm) (Wk.mk' [some 0, some 1, some 2, some 3, some 4, some 6, some 5] rfl rfl (.eqs rfl) ⟨⟨_, rfl, .box rfl (.eq rfl)⟩, ⟨_, rfl, .box rfl (.eq rfl)⟩, ⟨_, rfl, .val rfl⟩, ⟨_, rfl, .val rfl⟩, ⟨_, rfl, .val rfl⟩, ⟨_, rfl, .box rfl (.eq rfl)⟩, ⟨_, rfl, .val rfl⟩, trivial⟩ rfl)
         ·refine D.ef1 (o := _) rfl (.none rfl) (by exact Eff1.al T rfl rfl rfl rfl) rfl rfl ?_
          refine D.e (o := _) 5 rfl (.none rfl) (by exact Eff.c [] (v := true) (T_taquinref25_Do ({ Full := s23.1, Target := s23.2.1 : ApiLayout }) x46 _ hm) en35 rfl rfl rfl (.eq rfl) trivial rfl rfl rfl rfl rfl rfl (fun _ _ => ⟨(.tup (.cons (.agg (.cons (.o _) (.cons (.v _) .nil))) (.cons (.v _) .nil))), ⟨.val (.os _ _ _ fun _ => (.cons (.v _) .nil)), trivial⟩⟩) (.inr ⟨rfl, rfl⟩) (fun _ => rfl) (fun _ => rfl) rfl) (by kernel_rfl) rfl rfl (fun x47' hm => ?_)
          obtain ⟨x47⟩ := x47'
          refine D.ps 3 [(6, []), (7, []), (8, [])] rfl hQ hS T rfl rfl (by kernel_rfl) ?_
          refine D.e1 (o := _) 10 rfl (.none rfl) (by exact Eff1.st T rfl rfl rfl rfl rfl rfl rfl rfl rfl rfl) (by kernel_rfl) rfl rfl ?_
          refine D.ps 1 [(11, [])] rfl hQ hS T rfl rfl (by kernel_rfl) ?_
          refine D.done (by kernel_rfl) ?_
          exact St.wk (hJ45 _ hm) (Wk.mk' [some 0, some 1, some 2, some 3, some 4, some 5, some 6] rfl rfl (.eqs rfl) ⟨⟨_, rfl, .box rfl (.eq rfl)⟩, ⟨_, rfl, .box rfl (.eq rfl)⟩, ⟨_, rfl, .val rfl⟩, ⟨_, rfl, .val rfl⟩, ⟨_, rfl, .val rfl⟩, ⟨_, rfl, .box rfl (.eq rfl)⟩, ⟨_, rfl, .val rfl⟩, trivial⟩ rfl)
       ·refine C.exit (C.ex (C.ex (C.bex ?_)))
        exact St.wk (hJ38 _ hm) (Wk.mk' [some 0, some 1, some 2, some 3] rfl rfl (.eqs rfl) ⟨⟨_, rfl, .box rfl (.eq rfl)⟩, ⟨_, rfl, .box rfl (.eq rfl)⟩, ⟨_, rfl, .val rfl⟩, ⟨_, rfl, .val rfl⟩, trivial⟩ rfl)
    ·refine C.exit (C.ex (C.ex (C.bex ?_)))
     exact St.wk (hJ22 _ hm) (Wk.mk' [some 3] rfl rfl (.eqs rfl) ⟨⟨_, rfl, .val rfl⟩, trivial⟩ rfl)
theorem T_taquinref07_Same (a : List Int) (b : List Int) (post : Bool → Prop) (hm : V_taquinref07_Same a b post) :
    Tr Try.prog 16 [.sl 1 eI a, .sl 1 eI b] [] 0 (fun A H' k => ∃ y, post y ∧ A = (.b y) ∧ H' = [] ∧ k = 0) := by
 refine Tr.intro (n := 26) Try.func16 rfl Try.ntmps16 rfl (fun w0 ok F β hβ => ?_)
 unfold V_taquinref07_Same at hm
 refine C.seq (U.start ?_)
 refine U.ps 1 T rfl ?_
 refine U.done (C.nx (C.seq (C.seq (U.start ?_))))
 refine U.ps 5 T rfl ?_
 refine U.done (C.nx ?_)
 refine C.ite rfl hm (fun hb5 hm => ?_) (fun hb5 hm => ?_)
 ·refine C.seq (U.start ?_)
  refine U.ps 1 T rfl ?_
  refine U.done (C.nx (C.ret (C.rt ?_)))
  exact C.fin T (rs' := [.b false]) (H' := []) (nl' := 0) [] rfl rfl (.eq rfl) trivial rfl rfl rfl rfl hβ ⟨false, hm, rfl, rfl, rfl⟩
 ·refine C.skip (C.nx (C.seq (C.seq (U.start ?_))))
  refine U.ps 1 T rfl ?_
  refine U.done (C.nx ?_)
  refine C.jn (fun (x10 : Unit) => []) (fun (x10 : Unit) => []) 0 hm (fun x10 hm => ?_) (fun J11 hm hJ11 => ?_)
  ·refine C.nx (C.seq (U.start ?_))
   refine U.ps 1 T rfl ?_
   refine U.done (C.nx (C.ret ?_))
   exact C.fin T (rs' := [.b true]) (H' := []) (nl' := 0) [] rfl rfl (.eq rfl) trivial rfl rfl rfl rfl hβ ⟨true, hm, rfl, rfl, rfl⟩
  ·refine C.block ?_
   refine St.wk (C.loop (fun (s12 : Int) => [(0, .sl 1 eI a), (1, .sl 1 eI b), (5, .i s12)]) (fun (s12 : Int) => []) hm (fun s12 Y13 hm => ?_)) (Wk.mk' [] rfl rfl (.eqs rfl) trivial rfl)
   refine C.seq (C.seq (U.start ?_))
   refine U.ps 4 T rfl ?_
   refine U.done (C.nx ?_)
   refine C.ite rfl hm (fun hb16 hm => ?_) (fun hb16 hm => ?_)
   ·refine C.skip (C.nx (C.seq (C.block (C.seq ?_))))
    refine D.beg 9999 [] [] mix rfl rfl (by kernel_rfl) (by repeat (first | exact NoPanicQ.body | refine NoPanicQ.th ?_ | refine NoPanicQ.blk ?_)) (fun hQ hS ws M' => ?_)
    refine D.ps 2 [(0, []), (1, [])] rfl hQ hS T rfl rfl (by kernel_rfl) ?_
    obtain ⟨x19, hx19, hm⟩ := hm
    refine D.q (o := _) 2 [] hQ hS rfl (.none rfl) rfl rfl (by exact Rd.ix T rfl rfl rfl rfl rfl rfl hx19) rfl (by kernel_rfl) ?_
    refine D.ps 3 [(3, []), (4, []), (5, [])] rfl hQ hS T rfl rfl (by kernel_rfl) ?_
    obtain ⟨x20, hx20, hm⟩ := hm
    refine D.q (o := _) 6 [] hQ hS rfl (.none rfl) rfl rfl (by exact Rd.ix T rfl rfl rfl rfl rfl rfl hx20) rfl (by kernel_rfl) ?_
    refine D.ps 2 [(7, []), (8, [])] rfl hQ hS T rfl rfl (by kernel_rfl) ?_
    refine D.done (by kernel_rfl) ?_
    refine C.nx ?_
    refine C.ite rfl hm (fun hb21 hm => ?_) (fun hb21 hm => ?_)
    ·refine C.seq (U.start ?_)
     refine U.ps 1 T rfl ?_
     refine U.done (C.nx (C.ret (C.brt (C.rt (C.rt (C.brt (C.rt ?_)))))))
     exact C.fin T (rs' := [.b false]) (H' := []) (nl' := 0) [] rfl rfl (.eq rfl) trivial rfl rfl rfl rfl hβ ⟨false, hm, rfl, rfl, rfl⟩
    ·refine C.skip (C.bnx (C.nx (U.start ?_)))
     refine U.ps 3 T rfl ?_
     refine U.done (C.nx ?_)
     exact St.wk (C.next hm) (Wk.mk' [] rfl rfl (.eqs rfl) trivial rfl)
   ·refine C.exit (C.ex (C.ex (C.bex ?_)))
    exact St.wk (hJ11 _ hm) (Wk.mk' [] rfl rfl trivial trivial rfl)
theorem T_taquinlaw26_PuzzleTells (f : ApiFloor) (r : List Int) (l : ApiLayout) (k : Int) (goal : Int) (post : Bool → Prop) (hm : V_taquinlaw26_PuzzleTells f r l k goal post) :
    Tr Try.prog 3 [.agg (eApiFloor f), .sl 1 eI r, .agg [.sl 1 eB l.Full, .i l.Target], .i k, .i goal] [] 0 (fun A H' k => ∃ y, post y ∧ A = (.b y) ∧ H' = [] ∧ k = 0) := by
 refine Tr.intro (n := 120) Try.func3 rfl Try.ntmps3 rfl (fun w0 ok F β hβ => ?_)
 unfold V_taquinlaw26_PuzzleTells at hm
 refine C.seq (U.start ?_)
 refine U.e1 (o := _) rfl (.none rfl) (by exact Eff1.box rfl rfl rfl rfl rfl) ?_
 refine U.e1 (o := _) rfl (.none rfl) (by exact Eff1.box rfl rfl rfl rfl rfl) ?_
 refine U.ps 1 T rfl ?_
 refine U.done (C.nx (C.seq (U.start ?_)))
 refine U.e (o := _) rfl (.none rfl) (by exact Eff.c [] (v := true) (T_taquinlaw26_small _ hm) en8 rfl rfl rfl (.eq rfl) trivial rfl rfl rfl rfl rfl rfl (fun _ _ => ⟨(.v _), trivial⟩) (.inr ⟨rfl, rfl⟩) (fun _ => rfl) (fun _ => rfl) rfl) (fun x5' hm => ?_)
 obtain ⟨x5⟩ := x5'
 refine U.ps 1 T rfl ?_
 refine U.done (C.nx (C.seq (C.seq ?_)))
 refine C.jn (fun (x6 : Bool) => [(1, .sl 1 eI r), (3, .i k), (4, .i goal), (5, .p 0 0), (7, .p 1 0), (11, .b x5), (39, .b x6)]) (fun (x6 : Bool) => [(0, .box (eApiFloor f)), (1, .box [.sl 1 eB l.Full, .i l.Target])]) 2 hm (fun x6 hm => ?_) (fun J7 hm hJ7 => ?_)
 ·refine C.nx ?_
  refine C.ite rfl hm (fun hb11 hm => ?_) (fun hb11 hm => ?_)
  ·refine C.seq (U.start ?_)
   refine U.ps 2 T rfl ?_
   refine U.done (C.nx (C.ret (C.rt ?_)))
   exact C.fin T (rs' := [.b x5]) (H' := []) (nl' := 0) [] rfl rfl (.eq rfl) trivial rfl rfl rfl rfl hβ ⟨x5, hm, rfl, rfl, rfl⟩
  ·refine C.skip (C.nx (C.seq (U.start ?_)))
   refine U.ps 4 T rfl ?_
   refine U.e (o := _) rfl (.none rfl) (by exact Eff.c [] (v := true) (T_puzzle_Table f r k goal _ hm) en10 rfl rfl rfl (.eq rfl) trivial rfl rfl rfl rfl rfl rfl (fun _ _ => ⟨(.tup (.cons (.o _) (.cons (.v _) .nil))), ⟨.val (.os _ _ _ fun _ => (.cons (.v _) .nil)), trivial⟩⟩) (.inr ⟨rfl, rfl⟩) (fun _ => rfl) (fun _ => rfl) rfl) (fun x16' hm => ?_)
   obtain ⟨x16⟩ := x16'
   refine U.ps 5 T rfl ?_
   refine U.done (C.nx (C.seq (U.start ?_)))
   refine U.ps 4 T rfl ?_
   refine U.e (o := _) rfl (.none rfl) (by exact Eff.c [] (v := true) (T_taquinref26_Table f r k goal _ hm) en11 rfl rfl rfl (.eq rfl) trivial rfl rfl rfl rfl rfl rfl (fun _ _ => ⟨(.tup (.cons (.o _) (.cons (.v _) .nil))), ⟨.val (.os _ _ _ fun _ => (.cons (.v _) .nil)), trivial⟩⟩) (.inr ⟨rfl, rfl⟩) (fun _ => rfl) (fun _ => rfl) rfl) (fun x19' hm => ?_)
   obtain ⟨x19⟩ := x19'
   refine U.ps 5 T rfl ?_
   refine U.done (C.nx (C.seq (U.start ?_)))
   refine U.ps 4 T rfl ?_
   refine U.e (o := _) rfl (.none rfl) (by exact Eff.c [] (v := true) (T_puzzle_Least f r l goal _ hm) en12 rfl rfl rfl (.eq rfl) trivial rfl rfl rfl rfl rfl rfl (fun _ _ => ⟨(.tup (.cons (.v _) (.cons (.v _) .nil))), trivial⟩) (.inr ⟨rfl, rfl⟩) (fun _ => rfl) (fun _ => rfl) rfl) (fun x22' hm => ?_)
   obtain ⟨x22⟩ := x22'
   refine U.ps 5 T rfl ?_
   refine U.done (C.nx (C.seq (U.start ?_)))
   refine U.ps 4 T rfl ?_
   refine U.e (o := _) rfl (.none rfl) (by exact Eff.c [] (v := true) (T_taquinref26_Least f r l goal _ hm) en13 rfl rfl rfl (.eq rfl) trivial rfl rfl rfl rfl rfl rfl (fun _ _ => ⟨(.tup (.cons (.v _) (.cons (.v _) .nil))), trivial⟩) (.inr ⟨rfl, rfl⟩) (fun _ => rfl) (fun _ => rfl) rfl) (fun x25' hm => ?_)
   obtain ⟨x25⟩ := x25'
   refine U.ps 5 T rfl ?_
   refine U.done (C.nx (C.seq (U.start ?_)))
   refine U.ps 4 T rfl ?_
   refine U.e (o := _) rfl (.none rfl) (by exact Eff.c [] (v := true) (T_puzzle_Solve f r l goal _ hm) en14 rfl rfl rfl (.eq rfl) trivial rfl rfl rfl rfl rfl rfl (fun _ _ => ⟨(.tup (.cons (.o _) (.cons (.v _) .nil))), ⟨.val (.os _ _ _ fun _ => (.cons (.v _) (.cons (.v _) .nil))), trivial⟩⟩) (.inr ⟨rfl, rfl⟩) (fun _ => rfl) (fun _ => rfl) rfl) (fun x28' hm => ?_)
   obtain ⟨x28⟩ := x28'
   refine U.ps 5 T rfl ?_
   refine U.done (C.nx (C.seq (U.start ?_)))
   refine U.ps 4 T rfl ?_
   refine U.e (o := _) rfl (.none rfl) (by exact Eff.c [] (v := true) (T_taquinref26_Solve f r l goal _ hm) en15 rfl rfl rfl (.eq rfl) trivial rfl rfl rfl rfl rfl rfl (fun _ _ => ⟨(.tup (.cons (.o _) (.cons (.v _) .nil))), ⟨.val (.os _ _ _ fun _ => (.cons (.v _) (.cons (.v _) .nil))), trivial⟩⟩) (.inr ⟨rfl, rfl⟩) (fun _ => rfl) (fun _ => rfl) rfl) (fun x31' hm => ?_)
   obtain ⟨x31⟩ := x31'
   refine U.ps 5 T rfl ?_
   refine U.done (C.nx (C.seq ?_))
   refine C.jn (fun (x32 : Bool) => [(10, .b x32)]) (fun (x32 : Bool) => []) 0 hm (fun x32 hm => ?_) (fun J33 hm hJ33 => ?_)
   ·refine C.nx (C.ret ?_)
    exact C.fin T (rs' := [.b x32]) (H' := []) (nl' := 0) [] rfl rfl (.eq rfl) trivial rfl rfl rfl rfl hβ ⟨x32, hm, rfl, rfl, rfl⟩
   ·refine U.start ?_
    refine U.ps 2 T rfl ?_
    refine hm.cs (fun hb34 hm => ?_) (fun hb34 hm => ?_)
    ·refine U.pg 2 1 true 90 hb34 T rfl rfl rfl rfl ?_
     refine U.e (o := _) rfl (.take 1 true 90 _ hb34 rfl rfl rfl) (by exact Eff.c [] (v := true) (T_taquinref07_Same x16.1 x19.1 _ hm) en16 rfl rfl rfl (.cons (.fz rfl rfl rfl (.os fun _ => .cons (.ro rfl) .nil)) (.cons (.fz rfl rfl rfl (.os fun _ => .cons (.ro rfl) .nil)) .nil)) trivial rfl rfl rfl rfl rfl rfl (fun _ _ => ⟨(.v _), trivial⟩) (.inr ⟨rfl, rfl⟩) (fun _ => rfl) (fun _ => rfl) rfl) (fun x35' hm => ?_)
     obtain ⟨x35⟩ := x35'
     refine U.r (o := _) rfl (.none rfl) rfl rfl (by exact Rd.pk rfl rfl hb34 rfl) ?_
     refine U.ps 1 T rfl ?_
     refine hm.cs (fun hb36 hm => ?_) (fun hb36 hm => ?_)
     ·refine U.pg 3 6 true 95 hb36 T rfl rfl rfl rfl ?_
      refine U.r (o := _) rfl (.none rfl) rfl rfl (by exact Rd.pk rfl rfl hb36 rfl) ?_
      refine U.ps 1 T rfl ?_
      refine hm.cs (fun hb37 hm => ?_) (fun hb37 hm => ?_)
      ·refine U.pg 3 11 true 100 hb37 T rfl rfl rfl rfl ?_
       refine U.r (o := _) rfl (.none rfl) rfl rfl (by exact Rd.pk rfl rfl hb37 rfl) ?_
       refine U.ps 1 T rfl ?_
       refine hm.cs (fun hb38 hm => ?_) (fun hb38 hm => ?_)
       ·refine U.pg 3 16 true 105 hb38 T rfl rfl rfl rfl ?_
        refine U.r (o := _) rfl (.none rfl) rfl rfl (by exact Rd.pk rfl rfl hb38 rfl) ?_
        refine U.ps 1 T rfl ?_
        refine hm.cs (fun hb39 hm => ?_) (fun hb39 hm => ?_)
        ·refine U.pg 2 21 true 110 hb39 T rfl rfl rfl rfl ?_
         refine U.e (o := _) rfl (.take 21 true 110 _ hb39 rfl rfl rfl) (by exact Eff.c [] (v := true) (T_taquinref25_SameShifts x28.1 x31.1 _ hm) en17 rfl rfl rfl (.cons (.fz rfl rfl rfl (.os fun _ => .cons (.ro rfl) (.cons (.ro rfl) .nil))) (.cons (.fz rfl rfl rfl (.os fun _ => .cons (.ro rfl) (.cons (.ro rfl) .nil))) .nil)) trivial rfl rfl rfl rfl rfl rfl (fun _ _ => ⟨(.v _), trivial⟩) (.inr ⟨rfl, rfl⟩) (fun _ => rfl) (fun _ => rfl) rfl) (fun x40' hm => ?_)
         obtain ⟨x40⟩ := x40'
         refine U.r (o := _) rfl (.none rfl) rfl rfl (by exact Rd.pk rfl rfl hb39 rfl) ?_
         refine U.ps 1 T rfl ?_
         refine hm.cs (fun hb41 hm => ?_) (fun hb41 hm => ?_)
         ·refine U.pg 3 26 true 115 hb41 T rfl rfl rfl rfl ?_
          refine U.r (o := _) rfl (.none rfl) rfl rfl (by exact Rd.pk rfl rfl hb41 rfl) ?_
          refine U.ps 1 T rfl ?_
          refine U.done ?_
          exact St.wk (hJ33 _ hm) (Wk.mk' [] rfl rfl (.eqs rfl) trivial rfl)
         ·refine U.sks 3 26 true 115 hb41 rfl rfl rfl ?_
          refine U.r (o := _) rfl (.none rfl) rfl rfl (by exact Rd.pk' rfl rfl hb41 rfl) ?_
          refine U.ps 1 T rfl ?_
          refine U.done ?_
          exact St.wk (hJ33 _ hm) (Wk.mk' [] rfl rfl (.eqs rfl) trivial rfl)
        ·refine U.sks 3 21 true 110 hb39 rfl rfl rfl ?_
         refine U.r (o := _) rfl (.none rfl) rfl rfl (by exact Rd.pk' rfl rfl hb39 rfl) ?_
         refine U.ps 1 T rfl ?_
         refine U.sks 3 26 true 115 rfl rfl rfl rfl ?_
         refine U.r (o := _) rfl (.none rfl) rfl rfl (by exact Rd.pk' rfl rfl rfl rfl) ?_
         refine U.ps 1 T rfl ?_
         refine U.done ?_
         exact St.wk (hJ33 _ hm) (Wk.mk' [] rfl rfl (.eqs rfl) trivial rfl)
       ·refine U.sks 3 16 true 105 hb38 rfl rfl rfl ?_
        refine U.r (o := _) rfl (.none rfl) rfl rfl (by exact Rd.pk' rfl rfl hb38 rfl) ?_
        refine U.ps 1 T rfl ?_
        refine U.sks 3 21 true 110 rfl rfl rfl rfl ?_
        refine U.r (o := _) rfl (.none rfl) rfl rfl (by exact Rd.pk' rfl rfl rfl rfl) ?_
        refine U.ps 1 T rfl ?_
        refine U.sks 3 26 true 115 rfl rfl rfl rfl ?_
        refine U.r (o := _) rfl (.none rfl) rfl rfl (by exact Rd.pk' rfl rfl rfl rfl) ?_
        refine U.ps 1 T rfl ?_
        refine U.done ?_
        exact St.wk (hJ33 _ hm) (Wk.mk' [] rfl rfl (.eqs rfl) trivial rfl)
      ·refine U.sks 3 11 true 100 hb37 rfl rfl rfl ?_
       refine U.r (o := _) rfl (.none rfl) rfl rfl (by exact Rd.pk' rfl rfl hb37 rfl) ?_
       refine U.ps 1 T rfl ?_
       refine U.sks 3 16 true 105 rfl rfl rfl rfl ?_
       refine U.r (o := _) rfl (.none rfl) rfl rfl (by exact Rd.pk' rfl rfl rfl rfl) ?_
       refine U.ps 1 T rfl ?_
       refine U.sks 3 21 true 110 rfl rfl rfl rfl ?_
       refine U.r (o := _) rfl (.none rfl) rfl rfl (by exact Rd.pk' rfl rfl rfl rfl) ?_
       refine U.ps 1 T rfl ?_
       refine U.sks 3 26 true 115 rfl rfl rfl rfl ?_
       refine U.r (o := _) rfl (.none rfl) rfl rfl (by exact Rd.pk' rfl rfl rfl rfl) ?_
       refine U.ps 1 T rfl ?_
       refine U.done ?_
       exact St.wk (hJ33 _ hm) (Wk.mk' [] rfl rfl (.eqs rfl) trivial rfl)
     ·refine U.sks 3 6 true 95 hb36 rfl rfl rfl ?_
      refine U.r (o := _) rfl (.none rfl) rfl rfl (by exact Rd.pk' rfl rfl hb36 rfl) ?_
      refine U.ps 1 T rfl ?_
      refine U.sks 3 11 true 100 rfl rfl rfl rfl ?_
      refine U.r (o := _) rfl (.none rfl) rfl rfl (by exact Rd.pk' rfl rfl rfl rfl) ?_
      refine U.ps 1 T rfl ?_
      refine U.sks 3 16 true 105 rfl rfl rfl rfl ?_
      refine U.r (o := _) rfl (.none rfl) rfl rfl (by exact Rd.pk' rfl rfl rfl rfl) ?_
      refine U.ps 1 T rfl ?_
      refine U.sks 3 21 true 110 rfl rfl rfl rfl ?_
      refine U.r (o := _) rfl (.none rfl) rfl rfl (by exact Rd.pk' rfl rfl rfl rfl) ?_
      refine U.ps 1 T rfl ?_
      refine U.sks 3 26 true 115 rfl rfl rfl rfl ?_
      refine U.r (o := _) rfl (.none rfl) rfl rfl (by exact Rd.pk' rfl rfl rfl rfl) ?_
      refine U.ps 1 T rfl ?_
      refine U.done ?_
      exact St.wk (hJ33 _ hm) (Wk.mk' [] rfl rfl (.eqs rfl) trivial rfl)
    ·refine U.sks 3 1 true 90 hb34 rfl rfl rfl ?_
     refine U.r (o := _) rfl (.none rfl) rfl rfl (by exact Rd.pk' rfl rfl hb34 rfl) ?_
     refine U.ps 1 T rfl ?_
     refine U.sks 3 6 true 95 rfl rfl rfl rfl ?_
     refine U.r (o := _) rfl (.none rfl) rfl rfl (by exact Rd.pk' rfl rfl rfl rfl) ?_
     refine U.ps 1 T rfl ?_
     refine U.sks 3 11 true 100 rfl rfl rfl rfl ?_
     refine U.r (o := _) rfl (.none rfl) rfl rfl (by exact Rd.pk' rfl rfl rfl rfl) ?_
     refine U.ps 1 T rfl ?_
     refine U.sks 3 16 true 105 rfl rfl rfl rfl ?_
     refine U.r (o := _) rfl (.none rfl) rfl rfl (by exact Rd.pk' rfl rfl rfl rfl) ?_
     refine U.ps 1 T rfl ?_
     refine U.sks 3 21 true 110 rfl rfl rfl rfl ?_
     refine U.r (o := _) rfl (.none rfl) rfl rfl (by exact Rd.pk' rfl rfl rfl rfl) ?_
     refine U.ps 1 T rfl ?_
     refine U.sks 3 26 true 115 rfl rfl rfl rfl ?_
     refine U.r (o := _) rfl (.none rfl) rfl rfl (by exact Rd.pk' rfl rfl rfl rfl) ?_
     refine U.ps 1 T rfl ?_
     refine U.done ?_
     exact St.wk (hJ33 _ hm) (Wk.mk' [] rfl rfl (.eqs rfl) trivial rfl)
 ·refine U.start ?_
  refine U.ps 3 T rfl ?_
  refine U.e (o := _) rfl (.none rfl) (by exact Eff.c [] (v := true) (T_taquinlaw26_fair f r l _ hm) en9 rfl rfl rfl (.eq rfl) trivial rfl rfl rfl rfl rfl rfl (fun _ _ => ⟨(.v _), trivial⟩) (.inr ⟨rfl, rfl⟩) (fun _ => rfl) (fun _ => rfl) rfl) (fun x8' hm => ?_)
  obtain ⟨x8⟩ := x8'
  refine U.ps 2 T rfl ?_
  refine hm.cs (fun hb9 hm => ?_) (fun hb9 hm => ?_)
  ·refine U.pg 4 5 false 30 (ntF hb9) T rfl rfl rfl rfl ?_
   refine hm.cs (fun hb10 hm => ?_) (fun hb10 hm => ?_)
   ·refine U.pg 3 9 true 34 hb10 T rfl rfl rfl rfl ?_
    refine U.r (o := _) rfl (.take 5 false 30 _ (ntF hb9) rfl rfl rfl) rfl rfl (by exact Rd.pk rfl rfl hb10 rfl) ?_
    refine U.r (o := _) rfl (.none rfl) rfl rfl (by exact Rd.pk' rfl rfl (ntF hb9) rfl) ?_
    refine U.done ?_
    exact St.wk (hJ7 _ hm) (Wk.mk' [some 0, some 1] rfl rfl (.eqs rfl) ⟨⟨_, rfl, .box rfl (.eq rfl)⟩, ⟨_, rfl, .box rfl (.eq rfl)⟩, trivial⟩ rfl)
   ·refine U.sks 3 9 true 34 hb10 rfl rfl rfl ?_
    refine U.r (o := _) rfl (.take 5 false 30 _ (ntF hb9) rfl rfl rfl) rfl rfl (by exact Rd.pk' rfl rfl hb10 rfl) ?_
    refine U.r (o := _) rfl (.none rfl) rfl rfl (by exact Rd.pk' rfl rfl (ntF hb9) rfl) ?_
    refine U.done ?_
    exact St.wk (hJ7 _ hm) (Wk.mk' [some 0, some 1] rfl rfl (.eqs rfl) ⟨⟨_, rfl, .box rfl (.eq rfl)⟩, ⟨_, rfl, .box rfl (.eq rfl)⟩, trivial⟩ rfl)
  ·refine U.sks 4 5 false 30 (ntT hb9) rfl rfl rfl ?_
   refine U.sku 3 9 true 34 rfl rfl rfl ?_
   refine U.sks 1 5 false 30 (ntT hb9) rfl rfl rfl ?_
   refine U.r (o := _) rfl (.none rfl) rfl rfl (by exact Rd.pk rfl rfl (ntT hb9) rfl) ?_
   refine U.done ?_
   exact St.wk (hJ7 _ hm) (Wk.mk' [some 0, some 1] rfl rfl (.eqs rfl) ⟨⟨_, rfl, .box rfl (.eq rfl)⟩, ⟨_, rfl, .box rfl (.eq rfl)⟩, trivial⟩ rfl)
end Go.Proofs.Ytenplejkcfhplaa
