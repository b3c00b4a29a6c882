/- The walks: each Go function does what its verification condition says (written by a program of the prover). -/
import Derived.Test.YtenplejkcfhplaaW0
import Derived.KernelRfl
set_option maxRecDepth 100000
set_option maxHeartbeats 8000000
set_option linter.unusedVariables false
namespace Go.Proofs.Ytenplejkcfhplaa
open Go Go.Taq
theorem T_taquinref07_Next (f : ApiFloor) (c : Int) (d : Int) (post : (Int × Bool) → Prop) (hm : V_taquinref07_Next f c d post) :
    Tr Try.prog 51 [.agg (eApiFloor f), .i c, .i d] [] 0 (fun A H' k => ∃ y, post y ∧ A = (.tup [.i y.1, .b y.2]) ∧ H' = [] ∧ k = 0) := by
 refine Tr.intro (n := 60) Try.func51 rfl Try.ntmps51 rfl (fun w0 ok F β hβ => ?_)
 unfold V_taquinref07_Next at hm
 refine C.seq (U.start ?_)
 refine U.e1 (o := _) rfl (.none rfl) (by exact Eff1.box rfl rfl rfl rfl rfl) ?_
 refine U.ps 2 T rfl ?_
 refine U.done (C.nx (C.seq (U.start ?_)))
 refine U.ps 3 T rfl ?_
 refine U.e (o := _) rfl (.none rfl) (by exact Eff.c [] (v := true) (T_taquinref07_Beside f c d _ hm) en57 rfl rfl rfl (.eq rfl) trivial rfl rfl rfl rfl rfl rfl (fun _ _ => ⟨(.v _), trivial⟩) (.inr ⟨rfl, rfl⟩) (fun _ => rfl) (fun _ => rfl) rfl) (fun x5' hm => ?_)
 obtain ⟨x5⟩ := x5'
 refine U.ps 1 T rfl ?_
 refine U.done (C.nx (C.seq (C.seq (U.start ?_))))
 refine U.ps 2 T rfl ?_
 refine U.done (C.nx ?_)
 refine C.ite rfl hm (fun hb8 hm => ?_) (fun hb8 hm => ?_)
 ·refine C.seq (U.start ?_)
  refine U.ps 2 T rfl ?_
  refine U.done (C.nx (C.ret (C.rt ?_)))
  exact C.fin T (rs' := [.i ((0, false).1), .b ((0, false).2)]) (H' := []) (nl' := 0) [] rfl rfl (.eq rfl) trivial rfl rfl rfl rfl hβ ⟨(0, false), hm, rfl, rfl, rfl⟩
 ·refine C.skip (C.nx (C.seq (C.seq ?_)))
  refine C.jn (fun (x11 : Bool) => [(1, .i c), (2, .i d), (3, .p 0 0), (8, .i x5), (40, .b x11)]) (fun (x11 : Bool) => [(0, .box (eApiFloor f))]) 1 hm (fun x11 hm => ?_) (fun J12 hm hJ12 => ?_)
  ·refine C.nx ?_
   refine C.ite rfl hm (fun hb19 hm => ?_) (fun hb19 hm => ?_)
   ·refine C.seq (U.start ?_)
    refine U.ps 2 T rfl ?_
    refine U.done (C.nx (C.ret (C.rt ?_)))
    exact C.fin T (rs' := [.i ((0, false).1), .b ((0, false).2)]) (H' := []) (nl' := 0) [] rfl rfl (.eq rfl) trivial rfl rfl rfl rfl hβ ⟨(0, false), hm, rfl, rfl, rfl⟩
   ·refine C.skip (C.nx (C.seq (C.seq ?_)))
    refine C.jn (fun (x22 : Bool) => [(8, .i x5), (58, .b x22)]) (fun (x22 : Bool) => []) 0 hm (fun x22 hm => ?_) (fun J23 hm hJ23 => ?_)
    ·refine C.nx ?_
     refine C.ite rfl hm (fun hb28 hm => ?_) (fun hb28 hm => ?_)
     ·refine C.seq (U.start ?_)
      refine U.ps 2 T rfl ?_
      refine U.done (C.nx (C.ret (C.rt ?_)))
      exact C.fin T (rs' := [.i ((0, false).1), .b ((0, false).2)]) (H' := []) (nl' := 0) [] rfl rfl (.eq rfl) trivial rfl rfl rfl rfl hβ ⟨(0, false), hm, rfl, rfl, rfl⟩
     ·refine C.skip (C.nx (C.seq (U.start ?_)))
      refine U.ps 3 T rfl ?_
      refine U.done (C.nx (C.ret ?_))
      exact C.fin T (rs' := [.i ((x5, true).1), .b ((x5, true).2)]) (H' := []) (nl' := 0) [] rfl rfl (.eq rfl) trivial rfl rfl rfl rfl hβ ⟨(x5, true), hm, rfl, rfl, rfl⟩
    ·refine U.start ?_
     refine U.ps 3 T rfl ?_
     refine hm.cs (fun hb24 hm => ?_) (fun hb24 hm => ?_)
     ·refine U.pg 3 2 true 43 hb24 T rfl rfl rfl rfl ?_
      obtain ⟨x25, hx25, hm⟩ := hm
      refine U.r (o := _) rfl (.take 2 true 43 _ hb24 rfl rfl rfl) rfl rfl (by exact Rd.ix T rfl rfl rfl rfl rfl rfl hx25) ?_
      refine U.pg 3 2 true 43 hb24 T rfl rfl rfl rfl ?_
      refine hm.cs (fun hb26 hm => ?_) (fun hb26 hm => ?_)
      ·refine U.sks 6 9 false 50 hb26 rfl rfl rfl ?_
       refine U.r (o := _) rfl (.take 2 true 43 _ hb24 rfl rfl rfl) rfl rfl (by exact Rd.pk rfl rfl hb26 rfl) ?_
       refine U.r (o := _) rfl (.none rfl) rfl rfl (by exact Rd.pk rfl rfl hb24 rfl) ?_
       refine U.done ?_
       exact St.wk (hJ23 _ hm) (Wk.mk' [] rfl rfl (.eqs rfl) trivial rfl)
      ·refine U.pg 3 9 false 50 hb26 T rfl rfl rfl rfl ?_
       obtain ⟨x27, hx27, hm⟩ := hm
       refine U.r (o := _) rfl (.take 9 false 50 _ hb26 rfl rfl rfl) rfl rfl (by exact Rd.ix T rfl rfl rfl rfl rfl rfl hx27) ?_
       refine U.pg 2 9 false 50 hb26 T rfl rfl rfl rfl ?_
       refine U.r (o := _) rfl (.take 2 true 43 _ hb24 rfl rfl rfl) rfl rfl (by exact Rd.pk' rfl rfl hb26 rfl) ?_
       refine U.r (o := _) rfl (.none rfl) rfl rfl (by exact Rd.pk rfl rfl hb24 rfl) ?_
       refine U.done ?_
       exact St.wk (hJ23 _ hm) (Wk.mk' [] rfl rfl (.eqs rfl) trivial rfl)
     ·refine U.sks 7 2 true 43 hb24 rfl rfl rfl ?_
      refine U.sku 6 9 false 50 rfl rfl rfl ?_
      refine U.sks 1 2 true 43 hb24 rfl rfl rfl ?_
      refine U.r (o := _) rfl (.none rfl) rfl rfl (by exact Rd.pk' rfl rfl hb24 rfl) ?_
      refine U.done ?_
      exact St.wk (hJ23 _ hm) (Wk.mk' [] rfl rfl (.eqs rfl) trivial rfl)
  ·refine U.start ?_
   refine U.ps 3 T rfl ?_
   obtain ⟨x13, hx13, hm⟩ := hm
   refine U.r (o := _) rfl (.none rfl) rfl rfl (by exact Rd.ix T rfl rfl rfl rfl rfl rfl hx13) ?_
   refine U.ps 3 T rfl ?_
   refine hm.cs (fun hb14 hm => ?_) (fun hb14 hm => ?_)
   ·refine U.sks 6 6 false 21 hb14 rfl rfl rfl ?_
    refine U.r (o := _) rfl (.none rfl) rfl rfl (by exact Rd.pk rfl rfl hb14 rfl) ?_
    refine U.ps 1 T rfl ?_
    refine U.sks 10 14 false 29 rfl rfl rfl rfl ?_
    refine U.r (o := _) rfl (.none rfl) rfl rfl (by exact Rd.pk rfl rfl rfl rfl) ?_
    refine U.done ?_
    exact St.wk (hJ12 _ hm) (Wk.mk' [some 0] rfl rfl (.eqs rfl) ⟨⟨_, rfl, .box rfl (.eq rfl)⟩, trivial⟩ rfl)
   ·refine U.pg 3 6 false 21 hb14 T rfl rfl rfl rfl ?_
    obtain ⟨x15, hx15, hm⟩ := hm
    refine U.r (o := _) rfl (.take 6 false 21 _ hb14 rfl rfl rfl) rfl rfl (by exact Rd.ix T rfl rfl rfl rfl rfl rfl hx15) ?_
    refine U.pg 2 6 false 21 hb14 T rfl rfl rfl rfl ?_
    refine U.r (o := _) rfl (.none rfl) rfl rfl (by exact Rd.pk' rfl rfl hb14 rfl) ?_
    refine U.ps 1 T rfl ?_
    refine hm.cs (fun hb16 hm => ?_) (fun hb16 hm => ?_)
    ·refine U.sks 10 14 false 29 hb16 rfl rfl rfl ?_
     refine U.r (o := _) rfl (.none rfl) rfl rfl (by exact Rd.pk rfl rfl hb16 rfl) ?_
     refine U.done ?_
     exact St.wk (hJ12 _ hm) (Wk.mk' [some 0] rfl rfl (.eqs rfl) ⟨⟨_, rfl, .box rfl (.eq rfl)⟩, trivial⟩ rfl)
    ·refine U.pg 3 14 false 29 hb16 T rfl rfl rfl rfl ?_
     obtain ⟨x17, hx17, hm⟩ := hm
     refine U.r (o := _) rfl (.take 14 false 29 _ hb16 rfl rfl rfl) rfl rfl (by exact Rd.ix T rfl rfl rfl rfl rfl rfl hx17) ?_
     refine U.pg 3 14 false 29 hb16 T rfl rfl rfl rfl ?_
     obtain ⟨hx18, hm⟩ := hm
     refine U.r (o := _) rfl (.take 14 false 29 _ hb16 rfl rfl rfl) rfl rfl (by exact Rd.sh rfl rfl rfl rfl hx18) ?_
     refine U.pg 2 14 false 29 hb16 T rfl rfl rfl rfl ?_
     refine U.r (o := _) rfl (.none rfl) rfl rfl (by exact Rd.pk' rfl rfl hb16 rfl) ?_
     refine U.done ?_
     exact St.wk (hJ12 _ hm) (Wk.mk' [some 0] rfl rfl (.eqs rfl) ⟨⟨_, rfl, .box rfl (.eq rfl)⟩, trivial⟩ rfl)
theorem T_taquinref25_Gets (f : ApiFloor) (a : Int) (b : Int) (post : Bool → Prop) (hm : V_taquinref25_Gets f a b post) :
    Tr Try.prog 43 [.agg (eApiFloor f), .i a, .i b] [] 0 (fun A H' k => ∃ y, post y ∧ A = (.b y) ∧ H' = [] ∧ k = 0) := by
 refine Tr.intro (n := 27) Try.func43 rfl Try.ntmps43 rfl (fun w0 ok F β hβ => ?_)
 unfold V_taquinref25_Gets at hm
 refine C.seq (U.start ?_)
 refine U.e1 (o := _) rfl (.none rfl) (by exact Eff1.box rfl rfl rfl rfl rfl) ?_
 refine U.ps 1 T rfl ?_
 refine U.done (C.nx (C.seq (C.seq (U.start ?_))))
 refine U.ps 1 T rfl ?_
 refine U.done (C.nx ?_)
 refine C.jn (fun (x5 : Unit) => []) (fun (x5 : Unit) => []) 0 hm (fun x5 hm => ?_) (fun J6 hm hJ6 => ?_)
 ·refine C.nx (C.seq (U.start ?_))
  refine U.ps 1 T rfl ?_
  refine U.done (C.nx (C.ret ?_))
  exact C.fin T (rs' := [.b false]) (H' := []) (nl' := 0) [] rfl rfl (.eq rfl) trivial rfl rfl rfl rfl hβ ⟨false, hm, rfl, rfl, rfl⟩
 ·refine C.block ?_
  refine St.wk (C.loop (fun (s7 : Int) => [(1, .i a), (2, .i b), (3, .p 0 0), (7, .i s7)]) (fun (s7 : Int) => [(0, .box (eApiFloor f))]) hm (fun s7 Y8 hm => ?_)) (Wk.mk' [some 0] rfl rfl (.eqs rfl) ⟨⟨_, rfl, .box rfl (.eq rfl)⟩, trivial⟩ rfl)
  refine C.seq (C.seq (U.start ?_))
  refine U.ps 2 T rfl ?_
  refine U.done (C.nx ?_)
  refine C.ite rfl hm (fun hb11 hm => ?_) (fun hb11 hm => ?_)
  ·refine C.skip (C.nx (C.seq (C.block (C.seq (U.start ?_)))))
   refine U.ps 3 T rfl ?_
   refine U.e (o := _) rfl (.none rfl) (by exact Eff.c [] (v := true) (T_taquinref07_Next f a s7 _ hm) en51 rfl rfl rfl (.eq rfl) trivial rfl rfl rfl rfl rfl rfl (fun _ _ => ⟨(.tup (.cons (.v _) (.cons (.v _) .nil))), trivial⟩) (.inr ⟨rfl, rfl⟩) (fun _ => rfl) (fun _ => rfl) rfl) (fun x14' hm => ?_)
   obtain ⟨x14⟩ := x14'
   refine U.ps 5 T rfl ?_
   refine U.done (C.nx (C.seq ?_))
   refine C.jn (fun (x15 : Bool) => [(1, .i a), (2, .i b), (3, .p 0 0), (7, .i s7), (26, .b x15)]) (fun (x15 : Bool) => [(0, .box (eApiFloor f))]) 1 hm (fun x15 hm => ?_) (fun J16 hm hJ16 => ?_)
   ·refine C.nx ?_
    refine C.ite rfl hm (fun hb18 hm => ?_) (fun hb18 hm => ?_)
    ·refine C.seq (U.start ?_)
     refine U.ps 1 T rfl ?_
     refine U.done (C.nx (C.ret (C.brt (C.rt (C.rt (C.brt (C.rt ?_)))))))
     exact C.fin T (rs' := [.b true]) (H' := []) (nl' := 0) [] rfl rfl (.eq rfl) trivial rfl rfl rfl rfl hβ ⟨true, hm, rfl, rfl, rfl⟩
    ·refine C.skip (C.bnx (C.nx (U.start ?_)))
     refine U.ps 3 T rfl ?_
     refine U.done (C.nx ?_)
     exact St.wk (C.next hm) (Wk.mk' [some 0] rfl rfl (.eqs rfl) ⟨⟨_, rfl, .box rfl (.eq rfl)⟩, trivial⟩ rfl)
   ·refine U.start ?_
    refine U.ps 2 T rfl ?_
    refine hm.cs (fun hb17 hm => ?_) (fun hb17 hm => ?_)
    ·refine U.pg 3 1 true 22 hb17 T rfl rfl rfl rfl ?_
     refine U.r (o := _) rfl (.none rfl) rfl rfl (by exact Rd.pk rfl rfl hb17 rfl) ?_
     refine U.done ?_
     exact St.wk (hJ16 _ hm) (Wk.mk' [some 0] rfl rfl (.eqs rfl) ⟨⟨_, rfl, .box rfl (.eq rfl)⟩, trivial⟩ rfl)
    ·refine U.sks 3 1 true 22 hb17 rfl rfl rfl ?_
     refine U.r (o := _) rfl (.none rfl) rfl rfl (by exact Rd.pk' rfl rfl hb17 rfl) ?_
     refine U.done ?_
     exact St.wk (hJ16 _ hm) (Wk.mk' [some 0] rfl rfl (.eqs rfl) ⟨⟨_, rfl, .box rfl (.eq rfl)⟩, trivial⟩ rfl)
  ·refine C.exit (C.ex (C.ex (C.bex ?_)))
   exact St.wk (hJ6 _ hm) (Wk.mk' [] rfl rfl trivial trivial rfl)
theorem T_taquinlaw26_open (f : ApiFloor) (r : List Int) (post : Bool → Prop) (hm : V_taquinlaw26_open f r post) :
    Tr Try.prog 27 [.agg (eApiFloor f), .sl 1 eI r] [] 0 (fun A H' k => ∃ y, post y ∧ A = (.b y) ∧ H' = [] ∧ k = 0) := by
 refine Tr.intro (n := 40) Try.func27 rfl Try.ntmps27 rfl (fun w0 ok F β hβ => ?_)
 unfold V_taquinlaw26_open at hm
 refine C.seq (U.start ?_)
 refine U.e1 (o := _) rfl (.none rfl) (by exact Eff1.box rfl rfl rfl rfl rfl) ?_
 refine U.ps 1 T rfl ?_
 refine U.done (C.nx (C.seq (C.seq (U.start ?_))))
 refine U.ps 1 T rfl ?_
 refine U.done (C.nx ?_)
 refine C.jn (fun (x5 : Unit) => []) (fun (x5 : Unit) => []) 0 hm (fun x5 hm => ?_) (fun J6 hm hJ6 => ?_)
 ·refine C.nx (C.seq (U.start ?_))
  refine U.ps 1 T rfl ?_
  refine U.done (C.nx (C.ret ?_))
  exact C.fin T (rs' := [.b true]) (H' := []) (nl' := 0) [] rfl rfl (.eq rfl) trivial rfl rfl rfl rfl hβ ⟨true, hm, rfl, rfl, rfl⟩
 ·refine C.block ?_
  refine St.wk (C.loop (fun (s7 : Int) => [(1, .sl 1 eI r), (2, .p 0 0), (5, .i s7)]) (fun (s7 : Int) => [(0, .box (eApiFloor f))]) hm (fun s7 Y8 hm => ?_)) (Wk.mk' [some 0] rfl rfl (.eqs rfl) ⟨⟨_, rfl, .box rfl (.eq rfl)⟩, trivial⟩ rfl)
  refine C.seq (C.seq (U.start ?_))
  refine U.ps 4 T rfl ?_
  refine U.done (C.nx ?_)
  refine C.ite rfl hm (fun hb11 hm => ?_) (fun hb11 hm => ?_)
  ·refine C.skip (C.nx (C.seq ?_))
   refine C.jn (fun (x12 : Unit) => [(1, .sl 1 eI r), (2, .p 0 0), (5, .i s7)]) (fun (x12 : Unit) => [(0, .box (eApiFloor f))]) 1 hm (fun x12 hm => ?_) (fun J13 hm hJ13 => ?_)
   ·refine C.nx (U.start ?_)
    refine U.ps 3 T rfl ?_
    refine U.done (C.nx ?_)
    exact St.wk (C.next hm) (Wk.mk' [some 0] rfl rfl (.eqs rfl) ⟨⟨_, rfl, .box rfl (.eq rfl)⟩, trivial⟩ rfl)
   ·refine C.block (C.seq (U.start ?_))
    refine U.ps 1 T rfl ?_
    refine U.done (C.nx ?_)
    refine C.jn (fun (x16 : Unit) => [(1, .sl 1 eI r), (2, .p 0 0), (5, .i s7)]) (fun (x16 : Unit) => [(0, .box (eApiFloor f))]) 1 hm (fun x16 hm => ?_) (fun J17 hm hJ17 => ?_)
    ·refine C.bnx ?_
     exact St.wk (hJ13 _ hm) (Wk.mk' [some 0] rfl rfl (.eqs rfl) ⟨⟨_, rfl, .box rfl (.eq rfl)⟩, trivial⟩ rfl)
    ·refine C.block ?_
     refine St.wk (C.loop (fun (s18 : Int) => [(1, .sl 1 eI r), (2, .p 0 0), (5, .i s7), (6, .i s18)]) (fun (s18 : Int) => [(0, .box (eApiFloor f))]) hm (fun s18 Y19 hm => ?_)) (Wk.mk' [some 0] rfl rfl (.eqs rfl) ⟨⟨_, rfl, .box rfl (.eq rfl)⟩, trivial⟩ rfl)
     refine C.seq (C.seq (U.start ?_))
     refine U.ps 4 T rfl ?_
     refine U.done (C.nx ?_)
     refine C.ite rfl hm (fun hb22 hm => ?_) (fun hb22 hm => ?_)
     ·refine C.skip (C.nx (C.seq (C.block (C.seq ?_))))
      refine D.beg 9999 [0] [] mix rfl rfl (by kernel_rfl) (by repeat (first | exact NoPanicQ.body | refine NoPanicQ.th ?_ | refine NoPanicQ.blk ?_)) (fun hQ hS ws M' => ?_)
      refine D.ps 3 [(0, []), (1, []), (2, [])] rfl hQ hS T rfl rfl (by kernel_rfl) ?_
      obtain ⟨x25, hx25, hm⟩ := hm
      refine D.q (o := _) 3 [] hQ hS rfl (.none rfl) rfl rfl (by exact Rd.ix T rfl rfl rfl rfl rfl rfl hx25) rfl (by kernel_rfl) ?_
      refine D.ps 3 [(4, []), (5, []), (6, [])] rfl hQ hS T rfl rfl (by kernel_rfl) ?_
      obtain ⟨x26, hx26, hm⟩ := hm
      refine D.q (o := _) 7 [] hQ hS rfl (.none rfl) rfl rfl (by exact Rd.ix T rfl rfl rfl rfl rfl rfl hx26) rfl (by kernel_rfl) ?_
      refine D.ps 4 [(8, []), (10, []), (11, []), (12, [])] rfl hQ hS T rfl rfl (by kernel_rfl) ?_
      refine D.q (o := _) 13 [] hQ hS rfl (.none rfl) rfl rfl (by exact Rd.ix T rfl rfl rfl rfl rfl rfl hx26) rfl (by kernel_rfl) ?_
      refine D.ps 3 [(14, []), (15, []), (16, [])] rfl hQ hS T rfl rfl (by kernel_rfl) ?_
      refine D.q (o := _) 17 [] hQ hS rfl (.none rfl) rfl rfl (by exact Rd.ix T rfl rfl rfl rfl rfl rfl hx25) rfl (by kernel_rfl) ?_
      refine D.ps 1 [(18, [])] rfl hQ hS T rfl rfl (by kernel_rfl) ?_
      refine D.e (o := _) 9 rfl (.none rfl) (by exact Eff.c [] (v := true) (T_taquinref25_Gets f x25 x26 _ hm) en43 rfl rfl rfl (.eq rfl) trivial rfl rfl rfl rfl rfl rfl (fun _ _ => ⟨(.v _), trivial⟩) (.inr ⟨rfl, rfl⟩) (fun _ => rfl) (fun _ => rfl) rfl) (by kernel_rfl) rfl rfl (fun x27' hm => ?_)
      obtain ⟨x27⟩ := x27'
      refine D.e (o := _) 19 rfl (.none rfl) (by exact Eff.c [] (v := true) (T_taquinref25_Gets f x26 x25 _ hm) en43 rfl rfl rfl (.eq rfl) trivial rfl rfl rfl rfl rfl rfl (fun _ _ => ⟨(.v _), trivial⟩) (.inr ⟨rfl, rfl⟩) (fun _ => rfl) (fun _ => rfl) rfl) (by kernel_rfl) rfl rfl (fun x28' hm => ?_)
      obtain ⟨x28⟩ := x28'
      refine D.ps 1 [(20, [])] rfl hQ hS T rfl rfl (by kernel_rfl) ?_
      refine D.done (by kernel_rfl) ?_
      refine C.nx ?_
      refine C.ite rfl hm (fun hb29 hm => ?_) (fun hb29 hm => ?_)
      ·refine C.seq (U.start ?_)
       refine U.ps 1 T rfl ?_
       refine U.done (C.nx (C.ret (C.brt (C.rt (C.rt (C.brt (C.brt (C.rt (C.rt (C.brt (C.rt ?_)))))))))))
       exact C.fin T (rs' := [.b false]) (H' := []) (nl' := 0) [] rfl rfl (.eq rfl) trivial rfl rfl rfl rfl hβ ⟨false, hm, rfl, rfl, rfl⟩
      ·refine C.skip (C.bnx (C.nx (U.start ?_)))
       refine U.ps 3 T rfl ?_
       refine U.done (C.nx ?_)
       exact St.wk (C.next hm) (Wk.mk' [some 0] rfl rfl (.eqs rfl) ⟨⟨_, rfl, .box rfl (.eq rfl)⟩, trivial⟩ rfl)
     ·refine C.exit (C.ex (C.ex (C.bex ?_)))
      exact St.wk (hJ17 _ hm) (Wk.mk' [some 0] rfl rfl (.eqs rfl) ⟨⟨_, rfl, .box rfl (.eq rfl)⟩, trivial⟩ rfl)
  ·refine C.exit (C.ex (C.ex (C.bex ?_)))
   exact St.wk (hJ6 _ hm) (Wk.mk' [] rfl rfl trivial trivial rfl)
theorem T_taquinlaw26_PuzzleBack (f : ApiFloor) (r : List Int) (l : ApiLayout) (goal : Int) (picks : List Int) (post : Bool → Prop) (hm : V_taquinlaw26_PuzzleBack f r l goal picks post) :
    Tr Try.prog 7 [.agg (eApiFloor f), .sl 1 eI r, .agg [.sl 1 eB l.Full, .i l.Target], .i goal, .sl 1 eI picks] [] 0 (fun A H' k => ∃ y, post y ∧ A = (.b y) ∧ H' = [] ∧ k = 0) := by
 refine Tr.intro (n := 109) Try.func7 rfl Try.ntmps7 rfl (fun w0 ok F β hβ => ?_)
 unfold V_taquinlaw26_PuzzleBack at hm
 refine C.seq (U.start ?_)
 refine U.e1 (o := _) rfl (.none rfl) (by exact Eff1.box rfl rfl rfl rfl rfl) ?_
 refine U.e1 (o := _) rfl (.none rfl) (by exact Eff1.box rfl rfl rfl rfl rfl) ?_
 refine U.ps 1 T rfl ?_
 refine U.done (C.nx (C.seq (U.start ?_)))
 refine U.e (o := _) rfl (.none rfl) (by exact Eff.c [] (v := true) (T_taquinlaw26_small _ hm) en8 rfl rfl rfl (.eq rfl) trivial rfl rfl rfl rfl rfl rfl (fun _ _ => ⟨(.v _), trivial⟩) (.inr ⟨rfl, rfl⟩) (fun _ => rfl) (fun _ => rfl) rfl) (fun x5' hm => ?_)
 obtain ⟨x5⟩ := x5'
 refine U.ps 1 T rfl ?_
 refine U.done (C.nx (C.seq (C.seq ?_)))
 refine C.jn (fun (x6 : Bool) => [(1, .sl 1 eI r), (3, .i goal), (4, .sl 1 eI picks), (5, .p 0 0), (7, .p 1 0), (11, .b x5), (40, .b x6)]) (fun (x6 : Bool) => [(0, .box (eApiFloor f)), (1, .box [.sl 1 eB l.Full, .i l.Target])]) 2 hm (fun x6 hm => ?_) (fun J7 hm hJ7 => ?_)
 ·refine C.nx ?_
  refine C.ite rfl hm (fun hb13 hm => ?_) (fun hb13 hm => ?_)
  ·refine C.seq (U.start ?_)
   refine U.ps 2 T rfl ?_
   refine U.done (C.nx (C.ret (C.rt ?_)))
   exact C.fin T (rs' := [.b x5]) (H' := []) (nl' := 0) [] rfl rfl (.eq rfl) trivial rfl rfl rfl rfl hβ ⟨x5, hm, rfl, rfl, rfl⟩
  ·refine C.skip (C.nx (C.seq (U.start ?_)))
   refine U.ps 4 T rfl ?_
   refine U.e (o := _) rfl (.none rfl) (by exact Eff.c [] (v := true) (T_puzzle_Least f r l goal _ hm) en12 rfl rfl rfl (.eq rfl) trivial rfl rfl rfl rfl rfl rfl (fun _ _ => ⟨(.tup (.cons (.v _) (.cons (.v _) .nil))), trivial⟩) (.inr ⟨rfl, rfl⟩) (fun _ => rfl) (fun _ => rfl) rfl) (fun x18' hm => ?_)
   obtain ⟨x18⟩ := x18'
   refine U.ps 5 T rfl ?_
   refine U.done (C.nx (C.seq (C.seq (U.start ?_))))
   refine U.ps 2 T rfl ?_
   refine U.done (C.nx ?_)
   refine C.ite rfl hm (fun hb21 hm => ?_) (fun hb21 hm => ?_)
   ·refine C.seq (U.start ?_)
    refine U.ps 2 T rfl ?_
    refine U.done (C.nx (C.ret (C.rt ?_)))
    exact C.fin T (rs' := [.b x5]) (H' := []) (nl' := 0) [] rfl rfl (.eq rfl) trivial rfl rfl rfl rfl hβ ⟨x5, hm, rfl, rfl, rfl⟩
   ·refine C.skip (C.nx (C.seq (U.start ?_)))
    refine U.ps 1 T rfl ?_
    refine U.done (C.nx (C.seq (C.seq (U.start ?_))))
    refine U.ps 1 T rfl ?_
    refine U.done (C.nx ?_)
    refine C.jn (fun (x28 : List Bool × Int × Int) => [(1, .sl 1 eI r), (3, .i goal), (5, .p 0 0), (7, .p 1 0), (11, .b x5), (12, .i x18.1), (13, .i x18.2), (14, .i x28.2.2)]) (fun (x28 : List Bool × Int × Int) => [(0, .box (eApiFloor f)), (1, .box [.sl 1 eB x28.1, .i x28.2.1])]) 2 hm (fun x28 hm => ?_) (fun J29 hm hJ29 => ?_)
    ·refine C.nx (C.seq (U.start ?_))
     refine U.ps 4 T rfl ?_
     refine U.e (o := _) rfl (.none rfl) (by exact Eff.c [] (v := true) (T_puzzle_Least f r ({ Full := x28.1, Target := x28.2.1 : ApiLayout }) goal _ hm) en12 rfl rfl rfl (.eq rfl) trivial rfl rfl rfl rfl rfl rfl (fun _ _ => ⟨(.tup (.cons (.v _) (.cons (.v _) .nil))), trivial⟩) (.inr ⟨rfl, rfl⟩) (fun _ => rfl) (fun _ => rfl) rfl) (fun x55' hm => ?_)
     obtain ⟨x55⟩ := x55'
     refine U.ps 5 T rfl ?_
     refine U.done (C.nx (C.seq ?_))
     refine C.jn (fun (x56 : Bool) => [(10, .b x56)]) (fun (x56 : Bool) => []) 0 hm (fun x56 hm => ?_) (fun J57 hm hJ57 => ?_)
     ·refine C.nx (C.ret ?_)
      exact C.fin T (rs' := [.b x56]) (H' := []) (nl' := 0) [] rfl rfl (.eq rfl) trivial rfl rfl rfl rfl hβ ⟨x56, hm, rfl, rfl, rfl⟩
     ·refine U.start ?_
      refine U.ps 2 T rfl ?_
      refine hm.cs (fun hb58 hm => ?_) (fun hb58 hm => ?_)
      ·refine U.pg 3 1 true 93 hb58 T rfl rfl rfl rfl ?_
       refine U.r (o := _) rfl (.none rfl) rfl rfl (by exact Rd.pk rfl rfl hb58 rfl) ?_
       refine U.ps 1 T rfl ?_
       refine hm.cs (fun hb59 hm => ?_) (fun hb59 hm => ?_)
       ·refine U.pg 9 6 true 98 hb59 T rfl rfl rfl rfl ?_
        refine U.r (o := _) rfl (.none rfl) rfl rfl (by exact Rd.pk rfl rfl hb59 rfl) ?_
        refine U.ps 1 T rfl ?_
        refine U.done ?_
        exact St.wk (hJ57 _ hm) (Wk.mk' [] rfl rfl (.eqs rfl) trivial rfl)
       ·refine U.sks 9 6 true 98 hb59 rfl rfl rfl ?_
        refine U.r (o := _) rfl (.none rfl) rfl rfl (by exact Rd.pk' rfl rfl hb59 rfl) ?_
        refine U.ps 1 T rfl ?_
        refine U.done ?_
        exact St.wk (hJ57 _ hm) (Wk.mk' [] rfl rfl (.eqs rfl) trivial rfl)
      ·refine U.sks 3 1 true 93 hb58 rfl rfl rfl ?_
       refine U.r (o := _) rfl (.none rfl) rfl rfl (by exact Rd.pk' rfl rfl hb58 rfl) ?_
       refine U.ps 1 T rfl ?_
       refine U.sks 9 6 true 98 rfl rfl rfl rfl ?_
       refine U.r (o := _) rfl (.none rfl) rfl rfl (by exact Rd.pk' rfl rfl rfl rfl) ?_
       refine U.ps 1 T rfl ?_
       refine U.done ?_
       exact St.wk (hJ57 _ hm) (Wk.mk' [] rfl rfl (.eqs rfl) trivial rfl)
    ·refine C.block ?_
     refine St.wk (C.loop (fun (s30 : List Bool × Int × Int × Int) => [(1, .sl 1 eI r), (3, .i goal), (4, .sl 1 eI picks), (5, .p 0 0), (7, .p 1 0), (11, .b x5), (12, .i x18.1), (13, .i x18.2), (14, .i s30.2.2.1), (15, .i s30.2.2.2)]) (fun (s30 : List Bool × Int × Int × Int) => [(0, .box (eApiFloor f)), (1, .box [.sl 1 eB s30.1, .i s30.2.1])]) hm (fun s30 Y31 hm => ?_)) (Wk.mk' [some 0, some 1] rfl rfl (.eqs rfl) ⟨⟨_, rfl, .box rfl (.eq rfl)⟩, ⟨_, rfl, .box rfl (.eq rfl)⟩, trivial⟩ rfl)
     refine C.seq (C.seq (U.start ?_))
     refine U.ps 4 T rfl ?_
     refine U.done (C.nx ?_)
     refine C.ite rfl hm (fun hb34 hm => ?_) (fun hb34 hm => ?_)
     ·refine C.skip (C.nx (C.seq (C.block (C.seq (U.start ?_)))))
      refine U.ps 3 T rfl ?_
      refine U.e (o := _) rfl (.none rfl) (by exact Eff.c [] (v := true) (T_layout_Shifts f r ({ Full := s30.1, Target := s30.2.1 : ApiLayout }) _ hm) en23 rfl rfl rfl (.eq rfl) trivial rfl rfl rfl rfl rfl rfl (fun _ _ => ⟨(.o _), ⟨.val (.os _ _ _ fun _ => (.cons (.v _) (.cons (.v _) .nil))), trivial⟩⟩) (.inr ⟨rfl, rfl⟩) (fun _ => rfl) (fun _ => rfl) rfl) (fun x37' hm => ?_)
      obtain ⟨x37⟩ := x37'
      refine U.ps 1 T rfl ?_
      refine U.done (C.nx (C.seq (U.start ?_)))
      refine U.ps 3 T rfl ?_
      refine U.done (C.nx ?_)
      refine C.jn (fun (x40 : List Bool × Int × Int) => [(1, .sl 1 eI r), (3, .i goal), (4, .sl 1 eI picks), (5, .p 0 0), (7, .p 1 0), (11, .b x5), (12, .i x18.1), (13, .i x18.2), (14, .i x40.2.2), (15, .i s30.2.2.2)]) (fun (x40 : List Bool × Int × Int) => [(0, .box (eApiFloor f)), (1, .box [.sl 1 eB x40.1, .i x40.2.1])]) 2 hm (fun x40 hm => ?_) (fun J41 hm hJ41 => ?_)
      ·refine C.bnx (C.nx (U.start ?_))
       refine U.ps 3 T rfl ?_
       refine U.done (C.nx ?_)
       exact St.wk (C.next hm) (Wk.mk' [some 0, some 1] rfl rfl (.eqs rfl) ⟨⟨_, rfl, .box rfl (.eq rfl)⟩, ⟨_, rfl, .box rfl (.eq rfl)⟩, trivial⟩ rfl)
      ·refine C.ite rfl hm (fun hb42 hm => ?_) (fun hb42 hm => ?_)
       ·refine C.seq ?_
        refine D.beg 9999 [2] [1] mix rfl rfl (by kernel_rfl) (by repeat (first | exact NoPanicQ.body | refine NoPanicQ.th ?_ | refine NoPanicQ.blk ?_)) (fun hQ hS ws M' => ?_)
        refine D.ps 3 [(1, []), (2, []), (3, [])] rfl hQ hS T rfl rfl (by kernel_rfl) ?_
        obtain ⟨x45, hx45, hm⟩ := hm
        refine D.q (o := _) 4 [] hQ hS rfl (.none rfl) rfl rfl (by exact Rd.ix T rfl rfl rfl rfl rfl rfl hx45) rfl (by kernel_rfl) ?_
        refine D.ps 4 [(5, []), (6, []), (7, []), (8, [])] rfl hQ hS T rfl rfl (by kernel_rfl) ?_
        obtain ⟨hx46, hm⟩ := hm
        refine D.q (o := _) 9 [] hQ hS rfl (.none rfl) rfl rfl (by exact Rd.rm rfl rfl rfl rfl hx46) rfl (by kernel_rfl) ?_
        obtain ⟨x47, hx47, hm⟩ := hm
        refine D.q (o := _) 10 [] hQ hS rfl (.none rfl) rfl rfl (by exact Rd.io T rfl rfl rfl rfl rfl rfl rfl hx47) rfl (by kernel_rfl) ?_
        refine D.q (o := _) 11 [] hQ hS rfl (.none rfl) rfl rfl (by exact Rd.le T rfl rfl rfl (idx_some hx47).2.2 rfl rfl rfl) rfl (by kernel_rfl) ?_
        refine D.e1 (o := _) 0 rfl (.none rfl) (by exact Eff1.rd rfl rfl (Rd.l T rfl rfl rfl)) (by kernel_rfl) rfl rfl ?_
        refine D.e (o := _) 12 rfl (.none rfl) (by exact Eff.c [] (v := true) (T_layout_Do ({ Full := s30.1, Target := s30.2.1 : ApiLayout }) x47 _ hm) en24 rfl rfl rfl (.eq rfl) trivial rfl rfl rfl rfl rfl rfl (fun _ _ => ⟨(.tup (.cons (.agg (.cons (.o _) (.cons (.v _) .nil))) (.cons (.v _) .nil))), ⟨.val (.os _ _ _ fun _ => (.cons (.v _) .nil)), trivial⟩⟩) (.inr ⟨rfl, rfl⟩) (fun _ => rfl) (fun _ => rfl) rfl) (by kernel_rfl) rfl rfl (fun x48' hm => ?_)
        obtain ⟨x48⟩ := x48'
        refine D.ps 3 [(13, []), (14, []), (15, [])] rfl hQ hS T rfl rfl (by kernel_rfl) ?_
        refine D.e1 (o := _) 16 rfl (.none rfl) (by exact Eff1.st T rfl rfl rfl rfl rfl rfl rfl rfl rfl rfl) (by kernel_rfl) rfl rfl ?_
        refine D.done (by kernel_rfl) ?_
        refine C.nx (U.start ?_)
        refine U.ps 3 T rfl ?_
        refine U.done ?_
        exact St.wk (hJ41 _ hm) (Wk.mk' [some 0, some 1] rfl rfl (.eqs rfl) ⟨⟨_, rfl, .box rfl (.eq rfl)⟩, ⟨_, rfl, .box rfl (.cons (.fz rfl rfl rfl (.os fun _ => .cons (.ro rfl) .nil)) (.eq rfl))⟩, trivial⟩ rfl)
       ·refine C.skip ?_
        exact St.wk (hJ41 _ hm) (Wk.mk' [some 0, some 1] rfl rfl (.eqs rfl) ⟨⟨_, rfl, .box rfl (.eq rfl)⟩, ⟨_, rfl, .box rfl (.eq rfl)⟩, trivial⟩ rfl)
     ·refine C.exit (C.ex (C.ex (C.bex ?_)))
      exact St.wk (hJ29 _ hm) (Wk.mk' [some 0, some 1] rfl rfl (.eqs rfl) ⟨⟨_, rfl, .box rfl (.eq rfl)⟩, ⟨_, rfl, .box rfl (.eq rfl)⟩, trivial⟩ rfl)
 ·refine U.start ?_
  refine U.ps 3 T rfl ?_
  refine U.e (o := _) rfl (.none rfl) (by exact Eff.c [] (v := true) (T_taquinlaw26_fair f r l _ hm) en9 rfl rfl rfl (.eq rfl) trivial rfl rfl rfl rfl rfl rfl (fun _ _ => ⟨(.v _), trivial⟩) (.inr ⟨rfl, rfl⟩) (fun _ => rfl) (fun _ => rfl) rfl) (fun x8' hm => ?_)
  obtain ⟨x8⟩ := x8'
  refine U.ps 2 T rfl ?_
  refine hm.cs (fun hb9 hm => ?_) (fun hb9 hm => ?_)
  ·refine U.pg 3 5 false 25 (ntF hb9) T rfl rfl rfl rfl ?_
   refine U.r (o := _) rfl (.none rfl) rfl rfl (by exact Rd.pk' rfl rfl (ntF hb9) rfl) ?_
   refine U.ps 1 T rfl ?_
   refine hm.cs (fun hb10 hm => ?_) (fun hb10 hm => ?_)
   ·refine U.sks 3 10 false 30 hb10 rfl rfl rfl ?_
    refine U.r (o := _) rfl (.none rfl) rfl rfl (by exact Rd.pk rfl rfl hb10 rfl) ?_
    refine U.ps 1 T rfl ?_
    refine U.sks 4 15 false 35 rfl rfl rfl rfl ?_
    refine U.r (o := _) rfl (.none rfl) rfl rfl (by exact Rd.pk rfl rfl rfl rfl) ?_
    refine U.done ?_
    exact St.wk (hJ7 _ hm) (Wk.mk' [some 0, some 1] rfl rfl (.eqs rfl) ⟨⟨_, rfl, .box rfl (.eq rfl)⟩, ⟨_, rfl, .box rfl (.eq rfl)⟩, trivial⟩ rfl)
   ·refine U.pg 3 10 false 30 hb10 T rfl rfl rfl rfl ?_
    refine U.r (o := _) rfl (.none rfl) rfl rfl (by exact Rd.pk' rfl rfl hb10 rfl) ?_
    refine U.ps 1 T rfl ?_
    refine hm.cs (fun hb11 hm => ?_) (fun hb11 hm => ?_)
    ·refine U.sks 4 15 false 35 hb11 rfl rfl rfl ?_
     refine U.r (o := _) rfl (.none rfl) rfl rfl (by exact Rd.pk rfl rfl hb11 rfl) ?_
     refine U.done ?_
     exact St.wk (hJ7 _ hm) (Wk.mk' [some 0, some 1] rfl rfl (.eqs rfl) ⟨⟨_, rfl, .box rfl (.eq rfl)⟩, ⟨_, rfl, .box rfl (.eq rfl)⟩, trivial⟩ rfl)
    ·refine U.pg 2 15 false 35 hb11 T rfl rfl rfl rfl ?_
     refine U.e (o := _) rfl (.take 15 false 35 _ hb11 rfl rfl rfl) (by exact Eff.c [] (v := true) (T_taquinlaw26_open f r _ hm) en27 rfl rfl rfl (.eq rfl) trivial rfl rfl rfl rfl rfl rfl (fun _ _ => ⟨(.v _), trivial⟩) (.inr ⟨rfl, rfl⟩) (fun _ => rfl) (fun _ => rfl) rfl) (fun x12' hm => ?_)
     obtain ⟨x12⟩ := x12'
     refine U.pg 1 15 false 35 hb11 T rfl rfl rfl rfl ?_
     refine U.r (o := _) rfl (.none rfl) rfl rfl (by exact Rd.pk' rfl rfl hb11 rfl) ?_
     refine U.done ?_
     exact St.wk (hJ7 _ hm) (Wk.mk' [some 0, some 1] rfl rfl (.eqs rfl) ⟨⟨_, rfl, .box rfl (.eq rfl)⟩, ⟨_, rfl, .box rfl (.eq rfl)⟩, trivial⟩ rfl)
  ·refine U.sks 3 5 false 25 (ntT hb9) rfl rfl rfl ?_
   refine U.r (o := _) rfl (.none rfl) rfl rfl (by exact Rd.pk rfl rfl (ntT hb9) rfl) ?_
   refine U.ps 1 T rfl ?_
   refine U.sks 3 10 false 30 rfl rfl rfl rfl ?_
   refine U.r (o := _) rfl (.none rfl) rfl rfl (by exact Rd.pk rfl rfl rfl rfl) ?_
   refine U.ps 1 T rfl ?_
   refine U.sks 4 15 false 35 rfl rfl rfl rfl ?_
   refine U.r (o := _) rfl (.none rfl) rfl rfl (by exact Rd.pk rfl rfl rfl rfl) ?_
   refine U.done ?_
   exact St.wk (hJ7 _ hm) (Wk.mk' [some 0, some 1] rfl rfl (.eqs rfl) ⟨⟨_, rfl, .box rfl (.eq rfl)⟩, ⟨_, rfl, .box rfl (.eq rfl)⟩, trivial⟩ rfl)
end Go.Proofs.Ytenplejkcfhplaa
