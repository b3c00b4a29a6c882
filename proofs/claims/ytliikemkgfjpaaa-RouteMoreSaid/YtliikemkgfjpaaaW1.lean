/- The walks: each Go function does what its verification condition says (written by a program of the prover). -/
import Derived.Test.YtliikemkgfjpaaaW0
import Derived.KernelRfl
set_option maxRecDepth 100000
set_option maxHeartbeats 8000000
set_option linter.unusedVariables false
namespace Go.Proofs.Ytliikemkgfjpaaa
open Go Go.Taq
theorem T_taquinref11_Name (s_1 : ByteArray) (post : Bool → Prop) (hm : V_taquinref11_Name s_1 post) :
    Tr Try.prog 41 [.v (.string s_1)] [] 0 (fun A H' k => ∃ y, post y ∧ A = (.b y) ∧ H' = [] ∧ k = 0) := by
 refine Tr.intro (n := 62) Try.func41 rfl Try.ntmps41 rfl (fun w0 ok F β hβ => ?_)
 unfold V_taquinref11_Name at hm
 refine C.seq (U.start ?_)
 refine U.ps 1 T rfl ?_
 refine U.done (C.nx (C.seq (C.seq (U.start ?_))))
 refine U.ps 1 T rfl ?_
 refine U.done (C.nx ?_)
 refine C.jn (fun (x5 : Unit) => [(0, .v (.string s_1))]) (fun (x5 : Unit) => []) 0 hm (fun x5 hm => ?_) (fun J6 hm hJ6 => ?_)
 ·refine C.nx (C.seq ?_)
  refine C.jn (fun (x58 : Bool) => [(2, .b x58)]) (fun (x58 : Bool) => []) 0 hm (fun x58 hm => ?_) (fun J59 hm hJ59 => ?_)
  ·refine C.nx (C.ret ?_)
   exact C.fin T (rs' := [.b x58]) (H' := []) (nl' := 0) [] rfl rfl (.eq rfl) trivial rfl rfl rfl rfl hβ ⟨x58, hm, rfl, rfl, rfl⟩
  ·refine U.start ?_
   refine U.ps 4 T rfl ?_
   refine hm.cs (fun hb60 hm => ?_) (fun hb60 hm => ?_)
   ·refine U.pg 3 3 true 57 hb60 T rfl rfl rfl rfl ?_
    refine U.r (o := _) rfl (.none rfl) rfl rfl (by exact Rd.pk rfl rfl hb60 rfl) ?_
    refine U.ps 1 T rfl ?_
    refine U.done ?_
    exact St.wk (hJ59 _ hm) (Wk.mk' [] rfl rfl (.eqs rfl) trivial rfl)
   ·refine U.sks 3 3 true 57 hb60 rfl rfl rfl ?_
    refine U.r (o := _) rfl (.none rfl) rfl rfl (by exact Rd.pk' rfl rfl hb60 rfl) ?_
    refine U.ps 1 T rfl ?_
    refine U.done ?_
    exact St.wk (hJ59 _ hm) (Wk.mk' [] rfl rfl (.eqs rfl) trivial rfl)
 ·refine C.block ?_
  refine St.wk (C.loop (fun (s7 : Int) => [(0, .v (.string s_1)), (3, .i s7)]) (fun (s7 : Int) => []) hm (fun s7 Y8 hm => ?_)) (Wk.mk' [] rfl rfl (.eqs rfl) trivial rfl)
  refine C.seq (C.seq (U.start ?_))
  refine U.ps 4 T rfl ?_
  refine U.done (C.nx ?_)
  refine C.ite rfl hm (fun hb11 hm => ?_) (fun hb11 hm => ?_)
  ·refine C.skip (C.nx (C.seq (C.block (C.seq (U.start ?_)))))
   refine U.ps 2 T rfl ?_
   obtain ⟨x14, hx14, hm⟩ := hm
   refine U.r (o := _) rfl (.none rfl) rfl rfl (by exact Rd.ib T rfl rfl rfl rfl hx14) ?_
   refine U.ps 1 T rfl ?_
   refine U.done (C.nx (C.seq ?_))
   refine C.jn (fun (x15 : Bool) => [(0, .v (.string s_1)), (3, .i s7), (4, .v (.int .u8 (x14.toNat : Int))), (5, .b x15)]) (fun (x15 : Bool) => []) 0 hm (fun x15 hm => ?_) (fun J16 hm hJ16 => ?_)
   ·refine C.nx (C.seq ?_)
    refine C.jn (fun (x18 : Bool) => [(0, .v (.string s_1)), (3, .i s7), (53, .b x18)]) (fun (x18 : Bool) => []) 0 hm (fun x18 hm => ?_) (fun J19 hm hJ19 => ?_)
    ·refine C.nx ?_
     refine C.ite rfl hm (fun hb53 hm => ?_) (fun hb53 hm => ?_)
     ·refine C.seq (U.start ?_)
      refine U.ps 1 T rfl ?_
      refine U.done (C.nx (C.ret (C.brt (C.rt (C.rt (C.brt (C.rt ?_)))))))
      exact C.fin T (rs' := [.b false]) (H' := []) (nl' := 0) [] rfl rfl (.eq rfl) trivial rfl rfl rfl rfl hβ ⟨false, hm, rfl, rfl, rfl⟩
     ·refine C.skip (C.bnx (C.nx (U.start ?_)))
      refine U.ps 3 T rfl ?_
      refine U.done (C.nx ?_)
      exact St.wk (C.next hm) (Wk.mk' [] rfl rfl (.eqs rfl) trivial rfl)
    ·refine U.start ?_
     refine U.ps 3 T rfl ?_
     refine hm.cs (fun hb20 hm => ?_) (fun hb20 hm => ?_)
     ·refine U.pg 2 2 true 23 hb20 T rfl rfl rfl rfl ?_
      refine U.r (o := _) rfl (.none rfl) rfl rfl (by exact Rd.pk rfl rfl hb20 rfl) ?_
      refine U.ps 1 T rfl ?_
      refine hm.cs (fun hb21 hm => ?_) (fun hb21 hm => ?_)
      ·refine U.sks 3 6 false 27 hb21 rfl rfl rfl ?_
       refine U.sku 2 9 true 30 rfl rfl rfl ?_
       refine U.sks 1 6 false 27 hb21 rfl rfl rfl ?_
       refine U.r (o := _) rfl (.none rfl) rfl rfl (by exact Rd.pk rfl rfl hb21 rfl) ?_
       refine U.ps 1 T rfl ?_
       refine U.sks 1 14 false 35 rfl rfl rfl rfl ?_
       refine U.r (o := _) rfl (.none rfl) rfl rfl (by exact Rd.pk rfl rfl rfl rfl) ?_
       refine U.ps 1 T rfl ?_
       refine U.sks 2 17 false 38 rfl rfl rfl rfl ?_
       refine U.r (o := _) rfl (.none rfl) rfl rfl (by exact Rd.pk rfl rfl rfl rfl) ?_
       refine U.ps 1 T rfl ?_
       refine U.sks 2 21 false 42 rfl rfl rfl rfl ?_
       refine U.r (o := _) rfl (.none rfl) rfl rfl (by exact Rd.pk rfl rfl rfl rfl) ?_
       refine U.ps 2 T rfl ?_
       refine U.pg 3 26 false 47 rfl T rfl rfl rfl rfl ?_
       refine hm.cs (fun hb22 hm => ?_) (fun hb22 hm => ?_)
       ·refine U.pg 1 29 true 50 hb22 T rfl rfl rfl rfl ?_
        refine U.r (o := _) rfl (.take 26 false 47 _ rfl rfl rfl rfl) rfl rfl (by exact Rd.pk rfl rfl hb22 rfl) ?_
        refine U.r (o := _) rfl (.none rfl) rfl rfl (by exact Rd.pk' rfl rfl rfl rfl) ?_
        refine U.done ?_
        exact St.wk (hJ19 _ hm) (Wk.mk' [] rfl rfl (.eqs rfl) trivial rfl)
       ·refine U.sks 1 29 true 50 hb22 rfl rfl rfl ?_
        refine U.r (o := _) rfl (.take 26 false 47 _ rfl rfl rfl rfl) rfl rfl (by exact Rd.pk' rfl rfl hb22 rfl) ?_
        refine U.r (o := _) rfl (.none rfl) rfl rfl (by exact Rd.pk' rfl rfl rfl rfl) ?_
        refine U.done ?_
        exact St.wk (hJ19 _ hm) (Wk.mk' [] rfl rfl (.eqs rfl) trivial rfl)
      ·refine U.pg 3 6 false 27 hb21 T rfl rfl rfl rfl ?_
       refine hm.cs (fun hb23 hm => ?_) (fun hb23 hm => ?_)
       ·refine U.pg 2 9 true 30 hb23 T rfl rfl rfl rfl ?_
        refine U.r (o := _) rfl (.take 6 false 27 _ hb21 rfl rfl rfl) rfl rfl (by exact Rd.pk rfl rfl hb23 rfl) ?_
        refine U.r (o := _) rfl (.none rfl) rfl rfl (by exact Rd.pk' rfl rfl hb21 rfl) ?_
        refine U.ps 1 T rfl ?_
        refine hm.cs (fun hb24 hm => ?_) (fun hb24 hm => ?_)
        ·refine U.sks 1 14 false 35 hb24 rfl rfl rfl ?_
         refine U.r (o := _) rfl (.none rfl) rfl rfl (by exact Rd.pk rfl rfl hb24 rfl) ?_
         refine U.ps 1 T rfl ?_
         refine U.sks 2 17 false 38 rfl rfl rfl rfl ?_
         refine U.r (o := _) rfl (.none rfl) rfl rfl (by exact Rd.pk rfl rfl rfl rfl) ?_
         refine U.ps 1 T rfl ?_
         refine U.sks 2 21 false 42 rfl rfl rfl rfl ?_
         refine U.r (o := _) rfl (.none rfl) rfl rfl (by exact Rd.pk rfl rfl rfl rfl) ?_
         refine U.ps 2 T rfl ?_
         refine U.pg 3 26 false 47 rfl T rfl rfl rfl rfl ?_
         refine hm.cs (fun hb25 hm => ?_) (fun hb25 hm => ?_)
         ·refine U.pg 1 29 true 50 hb25 T rfl rfl rfl rfl ?_
          refine U.r (o := _) rfl (.take 26 false 47 _ rfl rfl rfl rfl) rfl rfl (by exact Rd.pk rfl rfl hb25 rfl) ?_
          refine U.r (o := _) rfl (.none rfl) rfl rfl (by exact Rd.pk' rfl rfl rfl rfl) ?_
          refine U.done ?_
          exact St.wk (hJ19 _ hm) (Wk.mk' [] rfl rfl (.eqs rfl) trivial rfl)
         ·refine U.sks 1 29 true 50 hb25 rfl rfl rfl ?_
          refine U.r (o := _) rfl (.take 26 false 47 _ rfl rfl rfl rfl) rfl rfl (by exact Rd.pk' rfl rfl hb25 rfl) ?_
          refine U.r (o := _) rfl (.none rfl) rfl rfl (by exact Rd.pk' rfl rfl rfl rfl) ?_
          refine U.done ?_
          exact St.wk (hJ19 _ hm) (Wk.mk' [] rfl rfl (.eqs rfl) trivial rfl)
        ·refine U.pg 1 14 false 35 hb24 T rfl rfl rfl rfl ?_
         refine U.r (o := _) rfl (.none rfl) rfl rfl (by exact Rd.pk' rfl rfl hb24 rfl) ?_
         refine U.ps 1 T rfl ?_
         refine hm.cs (fun hb26 hm => ?_) (fun hb26 hm => ?_)
         ·refine U.sks 2 17 false 38 hb26 rfl rfl rfl ?_
          refine U.r (o := _) rfl (.none rfl) rfl rfl (by exact Rd.pk rfl rfl hb26 rfl) ?_
          refine U.ps 1 T rfl ?_
          refine U.sks 2 21 false 42 rfl rfl rfl rfl ?_
          refine U.r (o := _) rfl (.none rfl) rfl rfl (by exact Rd.pk rfl rfl rfl rfl) ?_
          refine U.ps 2 T rfl ?_
          refine U.pg 3 26 false 47 rfl T rfl rfl rfl rfl ?_
          refine hm.cs (fun hb27 hm => ?_) (fun hb27 hm => ?_)
          ·refine U.pg 1 29 true 50 hb27 T rfl rfl rfl rfl ?_
           refine U.r (o := _) rfl (.take 26 false 47 _ rfl rfl rfl rfl) rfl rfl (by exact Rd.pk rfl rfl hb27 rfl) ?_
           refine U.r (o := _) rfl (.none rfl) rfl rfl (by exact Rd.pk' rfl rfl rfl rfl) ?_
           refine U.done ?_
           exact St.wk (hJ19 _ hm) (Wk.mk' [] rfl rfl (.eqs rfl) trivial rfl)
          ·refine U.sks 1 29 true 50 hb27 rfl rfl rfl ?_
           refine U.r (o := _) rfl (.take 26 false 47 _ rfl rfl rfl rfl) rfl rfl (by exact Rd.pk' rfl rfl hb27 rfl) ?_
           refine U.r (o := _) rfl (.none rfl) rfl rfl (by exact Rd.pk' rfl rfl rfl rfl) ?_
           refine U.done ?_
           exact St.wk (hJ19 _ hm) (Wk.mk' [] rfl rfl (.eqs rfl) trivial rfl)
         ·refine U.pg 2 17 false 38 hb26 T rfl rfl rfl rfl ?_
          refine U.r (o := _) rfl (.none rfl) rfl rfl (by exact Rd.pk' rfl rfl hb26 rfl) ?_
          refine U.ps 1 T rfl ?_
          refine hm.cs (fun hb28 hm => ?_) (fun hb28 hm => ?_)
          ·refine U.sks 2 21 false 42 hb28 rfl rfl rfl ?_
           refine U.r (o := _) rfl (.none rfl) rfl rfl (by exact Rd.pk rfl rfl hb28 rfl) ?_
           refine U.ps 2 T rfl ?_
           refine U.pg 3 26 false 47 rfl T rfl rfl rfl rfl ?_
           refine hm.cs (fun hb29 hm => ?_) (fun hb29 hm => ?_)
           ·refine U.pg 1 29 true 50 hb29 T rfl rfl rfl rfl ?_
            refine U.r (o := _) rfl (.take 26 false 47 _ rfl rfl rfl rfl) rfl rfl (by exact Rd.pk rfl rfl hb29 rfl) ?_
            refine U.r (o := _) rfl (.none rfl) rfl rfl (by exact Rd.pk' rfl rfl rfl rfl) ?_
            refine U.done ?_
            exact St.wk (hJ19 _ hm) (Wk.mk' [] rfl rfl (.eqs rfl) trivial rfl)
           ·refine U.sks 1 29 true 50 hb29 rfl rfl rfl ?_
            refine U.r (o := _) rfl (.take 26 false 47 _ rfl rfl rfl rfl) rfl rfl (by exact Rd.pk' rfl rfl hb29 rfl) ?_
            refine U.r (o := _) rfl (.none rfl) rfl rfl (by exact Rd.pk' rfl rfl rfl rfl) ?_
            refine U.done ?_
            exact St.wk (hJ19 _ hm) (Wk.mk' [] rfl rfl (.eqs rfl) trivial rfl)
          ·refine U.pg 2 21 false 42 hb28 T rfl rfl rfl rfl ?_
           refine U.r (o := _) rfl (.none rfl) rfl rfl (by exact Rd.pk' rfl rfl hb28 rfl) ?_
           refine U.ps 2 T rfl ?_
           refine hm.cs (fun hb30 hm => ?_) (fun hb30 hm => ?_)
           ·refine U.pg 3 26 false 47 (ntF hb30) T rfl rfl rfl rfl ?_
            refine hm.cs (fun hb31 hm => ?_) (fun hb31 hm => ?_)
            ·refine U.pg 1 29 true 50 hb31 T rfl rfl rfl rfl ?_
             refine U.r (o := _) rfl (.take 26 false 47 _ (ntF hb30) rfl rfl rfl) rfl rfl (by exact Rd.pk rfl rfl hb31 rfl) ?_
             refine U.r (o := _) rfl (.none rfl) rfl rfl (by exact Rd.pk' rfl rfl (ntF hb30) rfl) ?_
             refine U.done ?_
             exact St.wk (hJ19 _ hm) (Wk.mk' [] rfl rfl (.eqs rfl) trivial rfl)
            ·refine U.sks 1 29 true 50 hb31 rfl rfl rfl ?_
             refine U.r (o := _) rfl (.take 26 false 47 _ (ntF hb30) rfl rfl rfl) rfl rfl (by exact Rd.pk' rfl rfl hb31 rfl) ?_
             refine U.r (o := _) rfl (.none rfl) rfl rfl (by exact Rd.pk' rfl rfl (ntF hb30) rfl) ?_
             refine U.done ?_
             exact St.wk (hJ19 _ hm) (Wk.mk' [] rfl rfl (.eqs rfl) trivial rfl)
           ·refine U.sks 3 26 false 47 (ntT hb30) rfl rfl rfl ?_
            refine U.sku 1 29 true 50 rfl rfl rfl ?_
            refine U.sks 1 26 false 47 (ntT hb30) rfl rfl rfl ?_
            refine U.r (o := _) rfl (.none rfl) rfl rfl (by exact Rd.pk rfl rfl (ntT hb30) rfl) ?_
            refine U.done ?_
            exact St.wk (hJ19 _ hm) (Wk.mk' [] rfl rfl (.eqs rfl) trivial rfl)
       ·refine U.sks 2 9 true 30 hb23 rfl rfl rfl ?_
        refine U.r (o := _) rfl (.take 6 false 27 _ hb21 rfl rfl rfl) rfl rfl (by exact Rd.pk' rfl rfl hb23 rfl) ?_
        refine U.r (o := _) rfl (.none rfl) rfl rfl (by exact Rd.pk' rfl rfl hb21 rfl) ?_
        refine U.ps 1 T rfl ?_
        refine U.pg 1 14 false 35 rfl T rfl rfl rfl rfl ?_
        refine U.r (o := _) rfl (.none rfl) rfl rfl (by exact Rd.pk' rfl rfl rfl rfl) ?_
        refine U.ps 1 T rfl ?_
        refine hm.cs (fun hb32 hm => ?_) (fun hb32 hm => ?_)
        ·refine U.sks 2 17 false 38 hb32 rfl rfl rfl ?_
         refine U.r (o := _) rfl (.none rfl) rfl rfl (by exact Rd.pk rfl rfl hb32 rfl) ?_
         refine U.ps 1 T rfl ?_
         refine U.sks 2 21 false 42 rfl rfl rfl rfl ?_
         refine U.r (o := _) rfl (.none rfl) rfl rfl (by exact Rd.pk rfl rfl rfl rfl) ?_
         refine U.ps 2 T rfl ?_
         refine U.pg 3 26 false 47 rfl T rfl rfl rfl rfl ?_
         refine hm.cs (fun hb33 hm => ?_) (fun hb33 hm => ?_)
         ·refine U.pg 1 29 true 50 hb33 T rfl rfl rfl rfl ?_
          refine U.r (o := _) rfl (.take 26 false 47 _ rfl rfl rfl rfl) rfl rfl (by exact Rd.pk rfl rfl hb33 rfl) ?_
          refine U.r (o := _) rfl (.none rfl) rfl rfl (by exact Rd.pk' rfl rfl rfl rfl) ?_
          refine U.done ?_
          exact St.wk (hJ19 _ hm) (Wk.mk' [] rfl rfl (.eqs rfl) trivial rfl)
         ·refine U.sks 1 29 true 50 hb33 rfl rfl rfl ?_
          refine U.r (o := _) rfl (.take 26 false 47 _ rfl rfl rfl rfl) rfl rfl (by exact Rd.pk' rfl rfl hb33 rfl) ?_
          refine U.r (o := _) rfl (.none rfl) rfl rfl (by exact Rd.pk' rfl rfl rfl rfl) ?_
          refine U.done ?_
          exact St.wk (hJ19 _ hm) (Wk.mk' [] rfl rfl (.eqs rfl) trivial rfl)
        ·refine U.pg 2 17 false 38 hb32 T rfl rfl rfl rfl ?_
         refine U.r (o := _) rfl (.none rfl) rfl rfl (by exact Rd.pk' rfl rfl hb32 rfl) ?_
         refine U.ps 1 T rfl ?_
         refine hm.cs (fun hb34 hm => ?_) (fun hb34 hm => ?_)
         ·refine U.sks 2 21 false 42 hb34 rfl rfl rfl ?_
          refine U.r (o := _) rfl (.none rfl) rfl rfl (by exact Rd.pk rfl rfl hb34 rfl) ?_
          refine U.ps 2 T rfl ?_
          refine U.pg 3 26 false 47 rfl T rfl rfl rfl rfl ?_
          refine hm.cs (fun hb35 hm => ?_) (fun hb35 hm => ?_)
          ·refine U.pg 1 29 true 50 hb35 T rfl rfl rfl rfl ?_
           refine U.r (o := _) rfl (.take 26 false 47 _ rfl rfl rfl rfl) rfl rfl (by exact Rd.pk rfl rfl hb35 rfl) ?_
           refine U.r (o := _) rfl (.none rfl) rfl rfl (by exact Rd.pk' rfl rfl rfl rfl) ?_
           refine U.done ?_
           exact St.wk (hJ19 _ hm) (Wk.mk' [] rfl rfl (.eqs rfl) trivial rfl)
          ·refine U.sks 1 29 true 50 hb35 rfl rfl rfl ?_
           refine U.r (o := _) rfl (.take 26 false 47 _ rfl rfl rfl rfl) rfl rfl (by exact Rd.pk' rfl rfl hb35 rfl) ?_
           refine U.r (o := _) rfl (.none rfl) rfl rfl (by exact Rd.pk' rfl rfl rfl rfl) ?_
           refine U.done ?_
           exact St.wk (hJ19 _ hm) (Wk.mk' [] rfl rfl (.eqs rfl) trivial rfl)
         ·refine U.pg 2 21 false 42 hb34 T rfl rfl rfl rfl ?_
          refine U.r (o := _) rfl (.none rfl) rfl rfl (by exact Rd.pk' rfl rfl hb34 rfl) ?_
          refine U.ps 2 T rfl ?_
          refine hm.cs (fun hb36 hm => ?_) (fun hb36 hm => ?_)
          ·refine U.pg 3 26 false 47 (ntF hb36) T rfl rfl rfl rfl ?_
           refine hm.cs (fun hb37 hm => ?_) (fun hb37 hm => ?_)
           ·refine U.pg 1 29 true 50 hb37 T rfl rfl rfl rfl ?_
            refine U.r (o := _) rfl (.take 26 false 47 _ (ntF hb36) rfl rfl rfl) rfl rfl (by exact Rd.pk rfl rfl hb37 rfl) ?_
            refine U.r (o := _) rfl (.none rfl) rfl rfl (by exact Rd.pk' rfl rfl (ntF hb36) rfl) ?_
            refine U.done ?_
            exact St.wk (hJ19 _ hm) (Wk.mk' [] rfl rfl (.eqs rfl) trivial rfl)
           ·refine U.sks 1 29 true 50 hb37 rfl rfl rfl ?_
            refine U.r (o := _) rfl (.take 26 false 47 _ (ntF hb36) rfl rfl rfl) rfl rfl (by exact Rd.pk' rfl rfl hb37 rfl) ?_
            refine U.r (o := _) rfl (.none rfl) rfl rfl (by exact Rd.pk' rfl rfl (ntF hb36) rfl) ?_
            refine U.done ?_
            exact St.wk (hJ19 _ hm) (Wk.mk' [] rfl rfl (.eqs rfl) trivial rfl)
          ·refine U.sks 3 26 false 47 (ntT hb36) rfl rfl rfl ?_
           refine U.sku 1 29 true 50 rfl rfl rfl ?_
           refine U.sks 1 26 false 47 (ntT hb36) rfl rfl rfl ?_
           refine U.r (o := _) rfl (.none rfl) rfl rfl (by exact Rd.pk rfl rfl (ntT hb36) rfl) ?_
           refine U.done ?_
           exact St.wk (hJ19 _ hm) (Wk.mk' [] rfl rfl (.eqs rfl) trivial rfl)
     ·refine U.sks 2 2 true 23 hb20 rfl rfl rfl ?_
      refine U.r (o := _) rfl (.none rfl) rfl rfl (by exact Rd.pk' rfl rfl hb20 rfl) ?_
      refine U.ps 1 T rfl ?_
      refine U.pg 3 6 false 27 rfl T rfl rfl rfl rfl ?_
      refine hm.cs (fun hb38 hm => ?_) (fun hb38 hm => ?_)
      ·refine U.pg 2 9 true 30 hb38 T rfl rfl rfl rfl ?_
       refine U.r (o := _) rfl (.take 6 false 27 _ rfl rfl rfl rfl) rfl rfl (by exact Rd.pk rfl rfl hb38 rfl) ?_
       refine U.r (o := _) rfl (.none rfl) rfl rfl (by exact Rd.pk' rfl rfl rfl rfl) ?_
       refine U.ps 1 T rfl ?_
       refine hm.cs (fun hb39 hm => ?_) (fun hb39 hm => ?_)
       ·refine U.sks 1 14 false 35 hb39 rfl rfl rfl ?_
        refine U.r (o := _) rfl (.none rfl) rfl rfl (by exact Rd.pk rfl rfl hb39 rfl) ?_
        refine U.ps 1 T rfl ?_
        refine U.sks 2 17 false 38 rfl rfl rfl rfl ?_
        refine U.r (o := _) rfl (.none rfl) rfl rfl (by exact Rd.pk rfl rfl rfl rfl) ?_
        refine U.ps 1 T rfl ?_
        refine U.sks 2 21 false 42 rfl rfl rfl rfl ?_
        refine U.r (o := _) rfl (.none rfl) rfl rfl (by exact Rd.pk rfl rfl rfl rfl) ?_
        refine U.ps 2 T rfl ?_
        refine U.pg 3 26 false 47 rfl T rfl rfl rfl rfl ?_
        refine hm.cs (fun hb40 hm => ?_) (fun hb40 hm => ?_)
        ·refine U.pg 1 29 true 50 hb40 T rfl rfl rfl rfl ?_
         refine U.r (o := _) rfl (.take 26 false 47 _ rfl rfl rfl rfl) rfl rfl (by exact Rd.pk rfl rfl hb40 rfl) ?_
         refine U.r (o := _) rfl (.none rfl) rfl rfl (by exact Rd.pk' rfl rfl rfl rfl) ?_
         refine U.done ?_
         exact St.wk (hJ19 _ hm) (Wk.mk' [] rfl rfl (.eqs rfl) trivial rfl)
        ·refine U.sks 1 29 true 50 hb40 rfl rfl rfl ?_
         refine U.r (o := _) rfl (.take 26 false 47 _ rfl rfl rfl rfl) rfl rfl (by exact Rd.pk' rfl rfl hb40 rfl) ?_
         refine U.r (o := _) rfl (.none rfl) rfl rfl (by exact Rd.pk' rfl rfl rfl rfl) ?_
         refine U.done ?_
         exact St.wk (hJ19 _ hm) (Wk.mk' [] rfl rfl (.eqs rfl) trivial rfl)
       ·refine U.pg 1 14 false 35 hb39 T rfl rfl rfl rfl ?_
        refine U.r (o := _) rfl (.none rfl) rfl rfl (by exact Rd.pk' rfl rfl hb39 rfl) ?_
        refine U.ps 1 T rfl ?_
        refine hm.cs (fun hb41 hm => ?_) (fun hb41 hm => ?_)
        ·refine U.sks 2 17 false 38 hb41 rfl rfl rfl ?_
         refine U.r (o := _) rfl (.none rfl) rfl rfl (by exact Rd.pk rfl rfl hb41 rfl) ?_
         refine U.ps 1 T rfl ?_
         refine U.sks 2 21 false 42 rfl rfl rfl rfl ?_
         refine U.r (o := _) rfl (.none rfl) rfl rfl (by exact Rd.pk rfl rfl rfl rfl) ?_
         refine U.ps 2 T rfl ?_
         refine U.pg 3 26 false 47 rfl T rfl rfl rfl rfl ?_
         refine hm.cs (fun hb42 hm => ?_) (fun hb42 hm => ?_)
         ·refine U.pg 1 29 true 50 hb42 T rfl rfl rfl rfl ?_
          refine U.r (o := _) rfl (.take 26 false 47 _ rfl rfl rfl rfl) rfl rfl (by exact Rd.pk rfl rfl hb42 rfl) ?_
          refine U.r (o := _) rfl (.none rfl) rfl rfl (by exact Rd.pk' rfl rfl rfl rfl) ?_
          refine U.done ?_
          exact St.wk (hJ19 _ hm) (Wk.mk' [] rfl rfl (.eqs rfl) trivial rfl)
         ·refine U.sks 1 29 true 50 hb42 rfl rfl rfl ?_
          refine U.r (o := _) rfl (.take 26 false 47 _ rfl rfl rfl rfl) rfl rfl (by exact Rd.pk' rfl rfl hb42 rfl) ?_
          refine U.r (o := _) rfl (.none rfl) rfl rfl (by exact Rd.pk' rfl rfl rfl rfl) ?_
          refine U.done ?_
          exact St.wk (hJ19 _ hm) (Wk.mk' [] rfl rfl (.eqs rfl) trivial rfl)
        ·refine U.pg 2 17 false 38 hb41 T rfl rfl rfl rfl ?_
         refine U.r (o := _) rfl (.none rfl) rfl rfl (by exact Rd.pk' rfl rfl hb41 rfl) ?_
         refine U.ps 1 T rfl ?_
         refine hm.cs (fun hb43 hm => ?_) (fun hb43 hm => ?_)
         ·refine U.sks 2 21 false 42 hb43 rfl rfl rfl ?_
          refine U.r (o := _) rfl (.none rfl) rfl rfl (by exact Rd.pk rfl rfl hb43 rfl) ?_
          refine U.ps 2 T rfl ?_
          refine U.pg 3 26 false 47 rfl T rfl rfl rfl rfl ?_
          refine hm.cs (fun hb44 hm => ?_) (fun hb44 hm => ?_)
          ·refine U.pg 1 29 true 50 hb44 T rfl rfl rfl rfl ?_
           refine U.r (o := _) rfl (.take 26 false 47 _ rfl rfl rfl rfl) rfl rfl (by exact Rd.pk rfl rfl hb44 rfl) ?_
           refine U.r (o := _) rfl (.none rfl) rfl rfl (by exact Rd.pk' rfl rfl rfl rfl) ?_
           refine U.done ?_
           exact St.wk (hJ19 _ hm) (Wk.mk' [] rfl rfl (.eqs rfl) trivial rfl)
          ·refine U.sks 1 29 true 50 hb44 rfl rfl rfl ?_
           refine U.r (o := _) rfl (.take 26 false 47 _ rfl rfl rfl rfl) rfl rfl (by exact Rd.pk' rfl rfl hb44 rfl) ?_
           refine U.r (o := _) rfl (.none rfl) rfl rfl (by exact Rd.pk' rfl rfl rfl rfl) ?_
           refine U.done ?_
           exact St.wk (hJ19 _ hm) (Wk.mk' [] rfl rfl (.eqs rfl) trivial rfl)
         ·refine U.pg 2 21 false 42 hb43 T rfl rfl rfl rfl ?_
          refine U.r (o := _) rfl (.none rfl) rfl rfl (by exact Rd.pk' rfl rfl hb43 rfl) ?_
          refine U.ps 2 T rfl ?_
          refine hm.cs (fun hb45 hm => ?_) (fun hb45 hm => ?_)
          ·refine U.pg 3 26 false 47 (ntF hb45) T rfl rfl rfl rfl ?_
           refine hm.cs (fun hb46 hm => ?_) (fun hb46 hm => ?_)
           ·refine U.pg 1 29 true 50 hb46 T rfl rfl rfl rfl ?_
            refine U.r (o := _) rfl (.take 26 false 47 _ (ntF hb45) rfl rfl rfl) rfl rfl (by exact Rd.pk rfl rfl hb46 rfl) ?_
            refine U.r (o := _) rfl (.none rfl) rfl rfl (by exact Rd.pk' rfl rfl (ntF hb45) rfl) ?_
            refine U.done ?_
            exact St.wk (hJ19 _ hm) (Wk.mk' [] rfl rfl (.eqs rfl) trivial rfl)
           ·refine U.sks 1 29 true 50 hb46 rfl rfl rfl ?_
            refine U.r (o := _) rfl (.take 26 false 47 _ (ntF hb45) rfl rfl rfl) rfl rfl (by exact Rd.pk' rfl rfl hb46 rfl) ?_
            refine U.r (o := _) rfl (.none rfl) rfl rfl (by exact Rd.pk' rfl rfl (ntF hb45) rfl) ?_
            refine U.done ?_
            exact St.wk (hJ19 _ hm) (Wk.mk' [] rfl rfl (.eqs rfl) trivial rfl)
          ·refine U.sks 3 26 false 47 (ntT hb45) rfl rfl rfl ?_
           refine U.sku 1 29 true 50 rfl rfl rfl ?_
           refine U.sks 1 26 false 47 (ntT hb45) rfl rfl rfl ?_
           refine U.r (o := _) rfl (.none rfl) rfl rfl (by exact Rd.pk rfl rfl (ntT hb45) rfl) ?_
           refine U.done ?_
           exact St.wk (hJ19 _ hm) (Wk.mk' [] rfl rfl (.eqs rfl) trivial rfl)
      ·refine U.sks 2 9 true 30 hb38 rfl rfl rfl ?_
       refine U.r (o := _) rfl (.take 6 false 27 _ rfl rfl rfl rfl) rfl rfl (by exact Rd.pk' rfl rfl hb38 rfl) ?_
       refine U.r (o := _) rfl (.none rfl) rfl rfl (by exact Rd.pk' rfl rfl rfl rfl) ?_
       refine U.ps 1 T rfl ?_
       refine U.pg 1 14 false 35 rfl T rfl rfl rfl rfl ?_
       refine U.r (o := _) rfl (.none rfl) rfl rfl (by exact Rd.pk' rfl rfl rfl rfl) ?_
       refine U.ps 1 T rfl ?_
       refine hm.cs (fun hb47 hm => ?_) (fun hb47 hm => ?_)
       ·refine U.sks 2 17 false 38 hb47 rfl rfl rfl ?_
        refine U.r (o := _) rfl (.none rfl) rfl rfl (by exact Rd.pk rfl rfl hb47 rfl) ?_
        refine U.ps 1 T rfl ?_
        refine U.sks 2 21 false 42 rfl rfl rfl rfl ?_
        refine U.r (o := _) rfl (.none rfl) rfl rfl (by exact Rd.pk rfl rfl rfl rfl) ?_
        refine U.ps 2 T rfl ?_
        refine U.pg 3 26 false 47 rfl T rfl rfl rfl rfl ?_
        refine hm.cs (fun hb48 hm => ?_) (fun hb48 hm => ?_)
        ·refine U.pg 1 29 true 50 hb48 T rfl rfl rfl rfl ?_
         refine U.r (o := _) rfl (.take 26 false 47 _ rfl rfl rfl rfl) rfl rfl (by exact Rd.pk rfl rfl hb48 rfl) ?_
         refine U.r (o := _) rfl (.none rfl) rfl rfl (by exact Rd.pk' rfl rfl rfl rfl) ?_
         refine U.done ?_
         exact St.wk (hJ19 _ hm) (Wk.mk' [] rfl rfl (.eqs rfl) trivial rfl)
        ·refine U.sks 1 29 true 50 hb48 rfl rfl rfl ?_
         refine U.r (o := _) rfl (.take 26 false 47 _ rfl rfl rfl rfl) rfl rfl (by exact Rd.pk' rfl rfl hb48 rfl) ?_
         refine U.r (o := _) rfl (.none rfl) rfl rfl (by exact Rd.pk' rfl rfl rfl rfl) ?_
         refine U.done ?_
         exact St.wk (hJ19 _ hm) (Wk.mk' [] rfl rfl (.eqs rfl) trivial rfl)
       ·refine U.pg 2 17 false 38 hb47 T rfl rfl rfl rfl ?_
        refine U.r (o := _) rfl (.none rfl) rfl rfl (by exact Rd.pk' rfl rfl hb47 rfl) ?_
        refine U.ps 1 T rfl ?_
        refine hm.cs (fun hb49 hm => ?_) (fun hb49 hm => ?_)
        ·refine U.sks 2 21 false 42 hb49 rfl rfl rfl ?_
         refine U.r (o := _) rfl (.none rfl) rfl rfl (by exact Rd.pk rfl rfl hb49 rfl) ?_
         refine U.ps 2 T rfl ?_
         refine U.pg 3 26 false 47 rfl T rfl rfl rfl rfl ?_
         refine hm.cs (fun hb50 hm => ?_) (fun hb50 hm => ?_)
         ·refine U.pg 1 29 true 50 hb50 T rfl rfl rfl rfl ?_
          refine U.r (o := _) rfl (.take 26 false 47 _ rfl rfl rfl rfl) rfl rfl (by exact Rd.pk rfl rfl hb50 rfl) ?_
          refine U.r (o := _) rfl (.none rfl) rfl rfl (by exact Rd.pk' rfl rfl rfl rfl) ?_
          refine U.done ?_
          exact St.wk (hJ19 _ hm) (Wk.mk' [] rfl rfl (.eqs rfl) trivial rfl)
         ·refine U.sks 1 29 true 50 hb50 rfl rfl rfl ?_
          refine U.r (o := _) rfl (.take 26 false 47 _ rfl rfl rfl rfl) rfl rfl (by exact Rd.pk' rfl rfl hb50 rfl) ?_
          refine U.r (o := _) rfl (.none rfl) rfl rfl (by exact Rd.pk' rfl rfl rfl rfl) ?_
          refine U.done ?_
          exact St.wk (hJ19 _ hm) (Wk.mk' [] rfl rfl (.eqs rfl) trivial rfl)
        ·refine U.pg 2 21 false 42 hb49 T rfl rfl rfl rfl ?_
         refine U.r (o := _) rfl (.none rfl) rfl rfl (by exact Rd.pk' rfl rfl hb49 rfl) ?_
         refine U.ps 2 T rfl ?_
         refine hm.cs (fun hb51 hm => ?_) (fun hb51 hm => ?_)
         ·refine U.pg 3 26 false 47 (ntF hb51) T rfl rfl rfl rfl ?_
          refine hm.cs (fun hb52 hm => ?_) (fun hb52 hm => ?_)
          ·refine U.pg 1 29 true 50 hb52 T rfl rfl rfl rfl ?_
           refine U.r (o := _) rfl (.take 26 false 47 _ (ntF hb51) rfl rfl rfl) rfl rfl (by exact Rd.pk rfl rfl hb52 rfl) ?_
           refine U.r (o := _) rfl (.none rfl) rfl rfl (by exact Rd.pk' rfl rfl (ntF hb51) rfl) ?_
           refine U.done ?_
           exact St.wk (hJ19 _ hm) (Wk.mk' [] rfl rfl (.eqs rfl) trivial rfl)
          ·refine U.sks 1 29 true 50 hb52 rfl rfl rfl ?_
           refine U.r (o := _) rfl (.take 26 false 47 _ (ntF hb51) rfl rfl rfl) rfl rfl (by exact Rd.pk' rfl rfl hb52 rfl) ?_
           refine U.r (o := _) rfl (.none rfl) rfl rfl (by exact Rd.pk' rfl rfl (ntF hb51) rfl) ?_
           refine U.done ?_
           exact St.wk (hJ19 _ hm) (Wk.mk' [] rfl rfl (.eqs rfl) trivial rfl)
         ·refine U.sks 3 26 false 47 (ntT hb51) rfl rfl rfl ?_
          refine U.sku 1 29 true 50 rfl rfl rfl ?_
          refine U.sks 1 26 false 47 (ntT hb51) rfl rfl rfl ?_
          refine U.r (o := _) rfl (.none rfl) rfl rfl (by exact Rd.pk rfl rfl (ntT hb51) rfl) ?_
          refine U.done ?_
          exact St.wk (hJ19 _ hm) (Wk.mk' [] rfl rfl (.eqs rfl) trivial rfl)
   ·refine U.start ?_
    refine U.ps 3 T rfl ?_
    refine hm.cs (fun hb17 hm => ?_) (fun hb17 hm => ?_)
    ·refine U.pg 2 2 true 17 hb17 T rfl rfl rfl rfl ?_
     refine U.r (o := _) rfl (.none rfl) rfl rfl (by exact Rd.pk rfl rfl hb17 rfl) ?_
     refine U.ps 1 T rfl ?_
     refine U.done ?_
     exact St.wk (hJ16 _ hm) (Wk.mk' [] rfl rfl (.eqs rfl) trivial rfl)
    ·refine U.sks 2 2 true 17 hb17 rfl rfl rfl ?_
     refine U.r (o := _) rfl (.none rfl) rfl rfl (by exact Rd.pk' rfl rfl hb17 rfl) ?_
     refine U.ps 1 T rfl ?_
     refine U.done ?_
     exact St.wk (hJ16 _ hm) (Wk.mk' [] rfl rfl (.eqs rfl) trivial rfl)
  ·refine C.exit (C.ex (C.ex (C.bex ?_)))
   exact St.wk (hJ6 _ hm) (Wk.mk' [] rfl rfl (.eqs rfl) trivial rfl)
theorem T_taquinref11_named (l : List ApiZone) (name : ByteArray) (post : Int → Prop) (hm : V_taquinref11_named l name post) :
    Tr Try.prog 65 [.sl 5 eApiZone l, .v (.string name)] [] 0 (fun A H' k => ∃ y, post y ∧ A = (.i y) ∧ H' = [] ∧ k = 0) := by
 refine Tr.intro (n := 20) Try.func65 rfl Try.ntmps65 rfl (fun w0 ok F β hβ => ?_)
 unfold V_taquinref11_named at hm
 refine C.seq (U.start ?_)
 refine U.ps 1 T rfl ?_
 refine U.done (C.nx (C.seq (C.seq (U.start ?_))))
 refine U.ps 1 T rfl ?_
 refine U.done (C.nx ?_)
 refine C.jn (fun (x5 : Unit) => []) (fun (x5 : Unit) => []) 0 hm (fun x5 hm => ?_) (fun J6 hm hJ6 => ?_)
 ·refine C.nx (C.seq (U.start ?_))
  refine U.ps 1 T rfl ?_
  refine U.done (C.nx (C.ret ?_))
  exact C.fin T (rs' := [.i (-1)]) (H' := []) (nl' := 0) [] rfl rfl (.eq rfl) trivial rfl rfl rfl rfl hβ ⟨(-1), hm, rfl, rfl, rfl⟩
 ·refine C.block ?_
  refine St.wk (C.loop (fun (s7 : Int) => [(0, .sl 5 eApiZone l), (1, .v (.string name)), (5, .i s7)]) (fun (s7 : Int) => []) hm (fun s7 Y8 hm => ?_)) (Wk.mk' [] rfl rfl (.eqs rfl) trivial rfl)
  refine C.seq (C.seq (U.start ?_))
  refine U.ps 4 T rfl ?_
  refine U.done (C.nx ?_)
  refine C.ite rfl hm (fun hb11 hm => ?_) (fun hb11 hm => ?_)
  ·refine C.skip (C.nx (C.seq (C.block (C.seq (U.start ?_)))))
   refine U.ps 2 T rfl ?_
   obtain ⟨x14, hx14, hm⟩ := hm
   refine U.r (o := _) rfl (.none rfl) rfl rfl (by exact Rd.ix T rfl rfl rfl rfl rfl rfl hx14) ?_
   refine U.ps 4 T rfl ?_
   refine U.done (C.nx ?_)
   refine C.ite rfl hm (fun hb15 hm => ?_) (fun hb15 hm => ?_)
   ·refine C.seq (U.start ?_)
    refine U.ps 2 T rfl ?_
    refine U.done (C.nx (C.ret (C.brt (C.rt (C.rt (C.brt (C.rt ?_)))))))
    exact C.fin T (rs' := [.i s7]) (H' := []) (nl' := 0) [] rfl rfl (.eq rfl) trivial rfl rfl rfl rfl hβ ⟨s7, hm, rfl, rfl, rfl⟩
   ·refine C.skip (C.bnx (C.nx (U.start ?_)))
    refine U.ps 3 T rfl ?_
    refine U.done (C.nx ?_)
    exact St.wk (C.next hm) (Wk.mk' [] rfl rfl (.eqs rfl) trivial rfl)
  ·refine C.exit (C.ex (C.ex (C.bex ?_)))
   exact St.wk (hJ6 _ hm) (Wk.mk' [] rfl rfl trivial trivial rfl)
theorem T_taquinref11_spans (l : List ApiSpan) (post : Bool → Prop) (hm : V_taquinref11_spans l post) :
    Tr Try.prog 66 [.sl 2 eApiSpan l] [] 0 (fun A H' k => ∃ y, post y ∧ A = (.b y) ∧ H' = [] ∧ k = 0) := by
 refine Tr.intro (n := 44) Try.func66 rfl Try.ntmps66 rfl (fun w0 ok F β hβ => ?_)
 unfold V_taquinref11_spans at hm
 refine C.seq (U.start ?_)
 refine U.ps 1 T rfl ?_
 refine U.done (C.nx (C.seq (U.start ?_)))
 refine U.ps 1 T rfl ?_
 refine U.done (C.nx (C.seq (C.seq (U.start ?_))))
 refine U.ps 1 T rfl ?_
 refine U.done (C.nx ?_)
 refine C.jn (fun (x7 : Unit) => []) (fun (x7 : Unit) => []) 0 hm (fun x7 hm => ?_) (fun J8 hm hJ8 => ?_)
 ·refine C.nx (C.seq (U.start ?_))
  refine U.ps 1 T rfl ?_
  refine U.done (C.nx (C.ret ?_))
  exact C.fin T (rs' := [.b true]) (H' := []) (nl' := 0) [] rfl rfl (.eq rfl) trivial rfl rfl rfl rfl hβ ⟨true, hm, rfl, rfl, rfl⟩
 ·refine C.block ?_
  refine St.wk (C.loop (fun (s9 : Int × Int) => [(0, .sl 2 eApiSpan l), (3, .i s9.1), (4, .i s9.2)]) (fun (s9 : Int × Int) => []) hm (fun s9 Y10 hm => ?_)) (Wk.mk' [] rfl rfl (.eqs rfl) trivial rfl)
  refine C.seq (C.seq (U.start ?_))
  refine U.ps 4 T rfl ?_
  refine U.done (C.nx ?_)
  refine C.ite rfl hm (fun hb13 hm => ?_) (fun hb13 hm => ?_)
  ·refine C.skip (C.nx (C.seq (C.block (C.seq (C.seq ?_)))))
   refine C.jn (fun (x14 : Bool) => [(0, .sl 2 eApiSpan l), (4, .i s9.2), (38, .b x14)]) (fun (x14 : Bool) => []) 0 hm (fun x14 hm => ?_) (fun J15 hm hJ15 => ?_)
   ·refine C.nx ?_
    refine C.ite rfl hm (fun hb19 hm => ?_) (fun hb19 hm => ?_)
    ·refine C.seq (U.start ?_)
     refine U.ps 1 T rfl ?_
     refine U.done (C.nx (C.ret (C.rt (C.brt (C.rt (C.rt (C.brt (C.rt ?_))))))))
     exact C.fin T (rs' := [.b false]) (H' := []) (nl' := 0) [] rfl rfl (.eq rfl) trivial rfl rfl rfl rfl hβ ⟨false, hm, rfl, rfl, rfl⟩
    ·refine C.skip (C.nx (U.start ?_))
     refine U.ps 2 T rfl ?_
     obtain ⟨x24, hx24, hm⟩ := hm
     refine U.r (o := _) rfl (.none rfl) rfl rfl (by exact Rd.ix T rfl rfl rfl rfl rfl rfl hx24) ?_
     refine U.ps 3 T rfl ?_
     refine U.done (C.bnx (C.nx (U.start ?_)))
     refine U.ps 3 T rfl ?_
     refine U.done (C.nx ?_)
     exact St.wk (C.next hm) (Wk.mk' [] rfl rfl (.eqs rfl) trivial rfl)
   ·refine D.beg 9999 [] [] mix rfl rfl (by kernel_rfl) (by repeat (first | exact NoPanicQ.body | refine NoPanicQ.th ?_ | refine NoPanicQ.blk ?_)) (fun hQ hS ws M' => ?_)
    refine D.ps 2 [(0, []), (1, [])] rfl hQ hS T rfl rfl (by kernel_rfl) ?_
    obtain ⟨x16, hx16, hm⟩ := hm
    refine D.q (o := _) 2 [] hQ hS rfl (.none rfl) rfl rfl (by exact Rd.ix T rfl rfl rfl rfl rfl rfl hx16) rfl (by kernel_rfl) ?_
    refine D.ps 5 [(3, []), (4, []), (5, []), (6, []), (7, [])] rfl hQ hS T rfl rfl (by kernel_rfl) ?_
    refine hm.cs (fun hb17 hm => ?_) (fun hb17 hm => ?_)
    ·refine D.sq (o := _) 8 [] hQ hS rfl (.skip 7 false 18 _ hb17 rfl rfl rfl) rfl rfl (by kernel_rfl) ?_
     refine D.sq (o := _) 9 [] hQ hS rfl (.skip 7 false 18 _ hb17 rfl rfl rfl) rfl rfl (by kernel_rfl) ?_
     refine D.sq (o := _) 10 [] hQ hS rfl (.skip 7 false 18 _ hb17 rfl rfl rfl) rfl rfl (by kernel_rfl) ?_
     refine D.sq (o := _) 11 [] hQ hS rfl (.skip 7 false 18 _ hb17 rfl rfl rfl) rfl rfl (by kernel_rfl) ?_
     refine D.sq (o := _) 12 [] hQ hS rfl (.skip 7 false 18 _ hb17 rfl rfl rfl) rfl rfl (by kernel_rfl) ?_
     refine D.sq (o := _) 13 [] hQ hS rfl (.skip 7 false 18 _ hb17 rfl rfl rfl) rfl rfl (by kernel_rfl) ?_
     refine D.sq (o := _) 14 [] hQ hS rfl (.skip 7 false 18 _ hb17 rfl rfl rfl) rfl rfl (by kernel_rfl) ?_
     refine D.sq (o := _) 15 [] hQ hS rfl (.skip 7 false 18 _ hb17 rfl rfl rfl) rfl rfl (by kernel_rfl) ?_
     refine D.sq (o := _) 16 [] hQ hS rfl (.skip 7 false 18 _ hb17 rfl rfl rfl) rfl rfl (by kernel_rfl) ?_
     refine D.sq (o := _) 17 [] hQ hS rfl (.skip 7 false 18 _ hb17 rfl rfl rfl) rfl rfl (by kernel_rfl) ?_
     refine D.sq (o := _) 18 [] hQ hS rfl (.skip 7 false 18 _ hb17 rfl rfl rfl) rfl rfl (by kernel_rfl) ?_
     refine D.q (o := _) 19 [] hQ hS rfl (.none rfl) rfl rfl (by exact Rd.pk rfl rfl hb17 rfl) rfl (by kernel_rfl) ?_
     refine D.ps 1 [(20, [])] rfl hQ hS T rfl rfl (by kernel_rfl) ?_
     refine D.sq (o := _) 21 [] hQ hS rfl (.skip 20 false 31 _ rfl rfl rfl rfl) rfl rfl (by kernel_rfl) ?_
     refine D.sq (o := _) 22 [] hQ hS rfl (.skip 20 false 31 _ rfl rfl rfl rfl) rfl rfl (by kernel_rfl) ?_
     refine D.sq (o := _) 23 [] hQ hS rfl (.skip 20 false 31 _ rfl rfl rfl rfl) rfl rfl (by kernel_rfl) ?_
     refine D.sq (o := _) 24 [] hQ hS rfl (.skip 20 false 31 _ rfl rfl rfl rfl) rfl rfl (by kernel_rfl) ?_
     refine D.sq (o := _) 25 [] hQ hS rfl (.skip 20 false 31 _ rfl rfl rfl rfl) rfl rfl (by kernel_rfl) ?_
     refine D.sq (o := _) 26 [] hQ hS rfl (.skip 20 false 31 _ rfl rfl rfl rfl) rfl rfl (by kernel_rfl) ?_
     refine D.q (o := _) 27 [] hQ hS rfl (.none rfl) rfl rfl (by exact Rd.pk rfl rfl rfl rfl) rfl (by kernel_rfl) ?_
     refine D.done (by kernel_rfl) ?_
     exact St.wk (hJ15 _ hm) (Wk.mk' [] rfl rfl (.eqs rfl) trivial rfl)
    ·refine D.q (o := _) 8 [] hQ hS rfl (.take 7 false 18 _ hb17 rfl rfl rfl) rfl rfl (by exact Rd.p T rfl) rfl (by kernel_rfl) ?_
     refine D.q (o := _) 9 [] hQ hS rfl (.take 7 false 18 _ hb17 rfl rfl rfl) rfl rfl (by exact Rd.p T rfl) rfl (by kernel_rfl) ?_
     refine D.q (o := _) 10 [] hQ hS rfl (.take 7 false 18 _ hb17 rfl rfl rfl) rfl rfl (by exact Rd.ix T rfl rfl rfl rfl rfl rfl hx16) rfl (by kernel_rfl) ?_
     refine D.q (o := _) 11 [] hQ hS rfl (.take 7 false 18 _ hb17 rfl rfl rfl) rfl rfl (by exact Rd.p T rfl) rfl (by kernel_rfl) ?_
     refine D.q (o := _) 12 [] hQ hS rfl (.take 7 false 18 _ hb17 rfl rfl rfl) rfl rfl (by exact Rd.l T rfl rfl rfl) rfl (by kernel_rfl) ?_
     refine D.q (o := _) 13 [] hQ hS rfl (.take 7 false 18 _ hb17 rfl rfl rfl) rfl rfl (by exact Rd.p T rfl) rfl (by kernel_rfl) ?_
     refine D.q (o := _) 14 [] hQ hS rfl (.take 7 false 18 _ hb17 rfl rfl rfl) rfl rfl (by exact Rd.p T rfl) rfl (by kernel_rfl) ?_
     refine D.q (o := _) 15 [] hQ hS rfl (.take 7 false 18 _ hb17 rfl rfl rfl) rfl rfl (by exact Rd.ix T rfl rfl rfl rfl rfl rfl hx16) rfl (by kernel_rfl) ?_
     refine D.q (o := _) 16 [] hQ hS rfl (.take 7 false 18 _ hb17 rfl rfl rfl) rfl rfl (by exact Rd.p T rfl) rfl (by kernel_rfl) ?_
     refine D.q (o := _) 17 [] hQ hS rfl (.take 7 false 18 _ hb17 rfl rfl rfl) rfl rfl (by exact Rd.l T rfl rfl rfl) rfl (by kernel_rfl) ?_
     refine D.q (o := _) 18 [] hQ hS rfl (.take 7 false 18 _ hb17 rfl rfl rfl) rfl rfl (by exact Rd.p T rfl) rfl (by kernel_rfl) ?_
     refine D.q (o := _) 19 [] hQ hS rfl (.none rfl) rfl rfl (by exact Rd.pk' rfl rfl hb17 rfl) rfl (by kernel_rfl) ?_
     refine D.ps 1 [(20, [])] rfl hQ hS T rfl rfl (by kernel_rfl) ?_
     refine hm.cs (fun hb18 hm => ?_) (fun hb18 hm => ?_)
     ·refine D.sq (o := _) 21 [] hQ hS rfl (.skip 20 false 31 _ hb18 rfl rfl rfl) rfl rfl (by kernel_rfl) ?_
      refine D.sq (o := _) 22 [] hQ hS rfl (.skip 20 false 31 _ hb18 rfl rfl rfl) rfl rfl (by kernel_rfl) ?_
      refine D.sq (o := _) 23 [] hQ hS rfl (.skip 20 false 31 _ hb18 rfl rfl rfl) rfl rfl (by kernel_rfl) ?_
      refine D.sq (o := _) 24 [] hQ hS rfl (.skip 20 false 31 _ hb18 rfl rfl rfl) rfl rfl (by kernel_rfl) ?_
      refine D.sq (o := _) 25 [] hQ hS rfl (.skip 20 false 31 _ hb18 rfl rfl rfl) rfl rfl (by kernel_rfl) ?_
      refine D.sq (o := _) 26 [] hQ hS rfl (.skip 20 false 31 _ hb18 rfl rfl rfl) rfl rfl (by kernel_rfl) ?_
      refine D.q (o := _) 27 [] hQ hS rfl (.none rfl) rfl rfl (by exact Rd.pk rfl rfl hb18 rfl) rfl (by kernel_rfl) ?_
      refine D.done (by kernel_rfl) ?_
      exact St.wk (hJ15 _ hm) (Wk.mk' [] rfl rfl (.eqs rfl) trivial rfl)
     ·refine D.q (o := _) 21 [] hQ hS rfl (.take 20 false 31 _ hb18 rfl rfl rfl) rfl rfl (by exact Rd.p T rfl) rfl (by kernel_rfl) ?_
      refine D.q (o := _) 22 [] hQ hS rfl (.take 20 false 31 _ hb18 rfl rfl rfl) rfl rfl (by exact Rd.p T rfl) rfl (by kernel_rfl) ?_
      refine D.q (o := _) 23 [] hQ hS rfl (.take 20 false 31 _ hb18 rfl rfl rfl) rfl rfl (by exact Rd.ix T rfl rfl rfl rfl rfl rfl hx16) rfl (by kernel_rfl) ?_
      refine D.q (o := _) 24 [] hQ hS rfl (.take 20 false 31 _ hb18 rfl rfl rfl) rfl rfl (by exact Rd.p T rfl) rfl (by kernel_rfl) ?_
      refine D.q (o := _) 25 [] hQ hS rfl (.take 20 false 31 _ hb18 rfl rfl rfl) rfl rfl (by exact Rd.l T rfl rfl rfl) rfl (by kernel_rfl) ?_
      refine D.q (o := _) 26 [] hQ hS rfl (.take 20 false 31 _ hb18 rfl rfl rfl) rfl rfl (by exact Rd.p T rfl) rfl (by kernel_rfl) ?_
      refine D.q (o := _) 27 [] hQ hS rfl (.none rfl) rfl rfl (by exact Rd.pk' rfl rfl hb18 rfl) rfl (by kernel_rfl) ?_
      refine D.done (by kernel_rfl) ?_
      exact St.wk (hJ15 _ hm) (Wk.mk' [] rfl rfl (.eqs rfl) trivial rfl)
  ·refine C.exit (C.ex (C.ex (C.bex ?_)))
   exact St.wk (hJ8 _ hm) (Wk.mk' [] rfl rfl trivial trivial rfl)
theorem T_taquinref07_Size (f : ApiFloor) (post : Int → Prop) (hm : V_taquinref07_Size f post) :
    Tr Try.prog 31 [.agg (eApiFloor f)] [] 0 (fun A H' k => ∃ y, post y ∧ A = (.i y) ∧ H' = [] ∧ k = 0) := by
 refine Tr.intro (n := 11) Try.func31 rfl Try.ntmps31 rfl (fun w0 ok F β hβ => ?_)
 unfold V_taquinref07_Size at hm
 refine C.seq (U.start ?_)
 refine U.e1 (o := _) rfl (.none rfl) (by exact Eff1.box rfl rfl rfl rfl rfl) ?_
 refine U.ps 1 T rfl ?_
 refine U.done (C.nx (C.seq (U.start ?_)))
 refine U.ps 9 T rfl ?_
 refine U.done (C.nx (C.ret ?_))
 exact C.fin T (rs' := [.i (w64 ((w64 (f.W * f.H)) * f.D))]) (H' := []) (nl' := 0) [] rfl rfl (.eq rfl) trivial rfl rfl rfl rfl hβ ⟨w64 ((w64 (f.W * f.H)) * f.D), hm, rfl, rfl, rfl⟩
theorem T_taquinref07_Is (f : ApiFloor) (c : Int) (post : Bool → Prop) (hm : V_taquinref07_Is f c post) :
    Tr Try.prog 34 [.agg (eApiFloor f), .i c] [] 0 (fun A H' k => ∃ y, post y ∧ A = (.b y) ∧ H' = [] ∧ k = 0) := by
 refine Tr.intro (n := 13) Try.func34 rfl Try.ntmps34 rfl (fun w0 ok F β hβ => ?_)
 unfold V_taquinref07_Is at hm
 refine C.seq (U.start ?_)
 refine U.e1 (o := _) rfl (.none rfl) (by exact Eff1.box rfl rfl rfl rfl rfl) ?_
 refine U.ps 1 T rfl ?_
 refine U.done (C.nx (C.seq ?_))
 refine C.jn (fun (x3 : Bool) => [(4, .b x3)]) (fun (x3 : Bool) => []) 0 hm (fun x3 hm => ?_) (fun J4 hm hJ4 => ?_)
 ·refine C.nx (C.ret ?_)
  exact C.fin T (rs' := [.b x3]) (H' := []) (nl' := 0) [] rfl rfl (.eq rfl) trivial rfl rfl rfl rfl hβ ⟨x3, hm, rfl, rfl, rfl⟩
 ·refine U.start ?_
  refine U.ps 3 T rfl ?_
  refine hm.cs (fun hb5 hm => ?_) (fun hb5 hm => ?_)
  ·refine U.pg 2 2 true 7 hb5 T rfl rfl rfl rfl ?_
   refine U.e (o := _) rfl (.take 2 true 7 _ hb5 rfl rfl rfl) (by exact Eff.c [] (v := true) (T_taquinref07_Size f _ hm) en31 rfl rfl rfl (.eq rfl) trivial rfl rfl rfl rfl rfl rfl (fun _ _ => ⟨(.v _), trivial⟩) (.inr ⟨rfl, rfl⟩) (fun _ => rfl) (fun _ => rfl) rfl) (fun x6' hm => ?_)
   obtain ⟨x6⟩ := x6'
   refine U.pg 1 2 true 7 hb5 T rfl rfl rfl rfl ?_
   refine U.r (o := _) rfl (.none rfl) rfl rfl (by exact Rd.pk rfl rfl hb5 rfl) ?_
   refine U.ps 1 T rfl ?_
   refine U.done ?_
   exact St.wk (hJ4 _ hm) (Wk.mk' [] rfl rfl (.eqs rfl) trivial rfl)
  ·refine U.sks 4 2 true 7 hb5 rfl rfl rfl ?_
   refine U.r (o := _) rfl (.none rfl) rfl rfl (by exact Rd.pk' rfl rfl hb5 rfl) ?_
   refine U.ps 1 T rfl ?_
   refine U.done ?_
   exact St.wk (hJ4 _ hm) (Wk.mk' [] rfl rfl (.eqs rfl) trivial rfl)
theorem T_taquinref11_zoned (kind : Int) (post : Bool → Prop) (hm : V_taquinref11_zoned kind post) :
    Tr Try.prog 67 [.i kind] [] 0 (fun A H' k => ∃ y, post y ∧ A = (.b y) ∧ H' = [] ∧ k = 0) := by
 refine Tr.intro (n := 13) Try.func67 rfl Try.ntmps67 rfl (fun w0 ok F β hβ => ?_)
 unfold V_taquinref11_zoned at hm
 refine C.seq (U.start ?_)
 refine U.ps 1 T rfl ?_
 refine U.done (C.nx (C.seq ?_))
 refine C.jn (fun (x3 : Bool) => [(2, .b x3)]) (fun (x3 : Bool) => []) 0 hm (fun x3 hm => ?_) (fun J4 hm hJ4 => ?_)
 ·refine C.nx (C.ret ?_)
  exact C.fin T (rs' := [.b x3]) (H' := []) (nl' := 0) [] rfl rfl (.eq rfl) trivial rfl rfl rfl rfl hβ ⟨x3, hm, rfl, rfl, rfl⟩
 ·refine U.start ?_
  refine U.ps 3 T rfl ?_
  refine hm.cs (fun hb5 hm => ?_) (fun hb5 hm => ?_)
  ·refine U.pg 2 2 true 5 hb5 T rfl rfl rfl rfl ?_
   refine U.r (o := _) rfl (.none rfl) rfl rfl (by exact Rd.pk rfl rfl hb5 rfl) ?_
   refine U.ps 1 T rfl ?_
   refine hm.cs (fun hb6 hm => ?_) (fun hb6 hm => ?_)
   ·refine U.pg 2 6 true 9 hb6 T rfl rfl rfl rfl ?_
    refine U.r (o := _) rfl (.none rfl) rfl rfl (by exact Rd.pk rfl rfl hb6 rfl) ?_
    refine U.ps 1 T rfl ?_
    refine U.done ?_
    exact St.wk (hJ4 _ hm) (Wk.mk' [] rfl rfl (.eqs rfl) trivial rfl)
   ·refine U.sks 2 6 true 9 hb6 rfl rfl rfl ?_
    refine U.r (o := _) rfl (.none rfl) rfl rfl (by exact Rd.pk' rfl rfl hb6 rfl) ?_
    refine U.ps 1 T rfl ?_
    refine U.done ?_
    exact St.wk (hJ4 _ hm) (Wk.mk' [] rfl rfl (.eqs rfl) trivial rfl)
  ·refine U.sks 2 2 true 5 hb5 rfl rfl rfl ?_
   refine U.r (o := _) rfl (.none rfl) rfl rfl (by exact Rd.pk' rfl rfl hb5 rfl) ?_
   refine U.ps 1 T rfl ?_
   refine U.sks 2 6 true 9 rfl rfl rfl rfl ?_
   refine U.r (o := _) rfl (.none rfl) rfl rfl (by exact Rd.pk' rfl rfl rfl rfl) ?_
   refine U.ps 1 T rfl ?_
   refine U.done ?_
   exact St.wk (hJ4 _ hm) (Wk.mk' [] rfl rfl (.eqs rfl) trivial rfl)
theorem T_taquinref07_Has (l : List Int) (n : Int) (post : Bool → Prop) (hm : V_taquinref07_Has l n post) :
    Tr Try.prog 55 [.sl 1 eI l, .i n] [] 0 (fun A H' k => ∃ y, post y ∧ A = (.b y) ∧ H' = [] ∧ k = 0) := by
 refine Tr.intro (n := 18) Try.func55 rfl Try.ntmps55 rfl (fun w0 ok F β hβ => ?_)
 unfold V_taquinref07_Has at hm
 refine C.seq (U.start ?_)
 refine U.ps 1 T rfl ?_
 refine U.done (C.nx (C.seq (C.seq (U.start ?_))))
 refine U.ps 1 T rfl ?_
 refine U.done (C.nx ?_)
 refine C.jn (fun (x5 : Unit) => []) (fun (x5 : Unit) => []) 0 hm (fun x5 hm => ?_) (fun J6 hm hJ6 => ?_)
 ·refine C.nx (C.seq (U.start ?_))
  refine U.ps 1 T rfl ?_
  refine U.done (C.nx (C.ret ?_))
  exact C.fin T (rs' := [.b false]) (H' := []) (nl' := 0) [] rfl rfl (.eq rfl) trivial rfl rfl rfl rfl hβ ⟨false, hm, rfl, rfl, rfl⟩
 ·refine C.block ?_
  refine St.wk (C.loop (fun (s7 : Int) => [(0, .sl 1 eI l), (1, .i n), (5, .i s7)]) (fun (s7 : Int) => []) hm (fun s7 Y8 hm => ?_)) (Wk.mk' [] rfl rfl (.eqs rfl) trivial rfl)
  refine C.seq (C.seq (U.start ?_))
  refine U.ps 4 T rfl ?_
  refine U.done (C.nx ?_)
  refine C.ite rfl hm (fun hb11 hm => ?_) (fun hb11 hm => ?_)
  ·refine C.skip (C.nx (C.seq (C.block (C.seq (U.start ?_)))))
   refine U.ps 2 T rfl ?_
   obtain ⟨x14, hx14, hm⟩ := hm
   refine U.r (o := _) rfl (.none rfl) rfl rfl (by exact Rd.ix T rfl rfl rfl rfl rfl rfl hx14) ?_
   refine U.ps 3 T rfl ?_
   refine U.done (C.nx ?_)
   refine C.ite rfl hm (fun hb15 hm => ?_) (fun hb15 hm => ?_)
   ·refine C.seq (U.start ?_)
    refine U.ps 1 T rfl ?_
    refine U.done (C.nx (C.ret (C.brt (C.rt (C.rt (C.brt (C.rt ?_)))))))
    exact C.fin T (rs' := [.b true]) (H' := []) (nl' := 0) [] rfl rfl (.eq rfl) trivial rfl rfl rfl rfl hβ ⟨true, hm, rfl, rfl, rfl⟩
   ·refine C.skip (C.bnx (C.nx (U.start ?_)))
    refine U.ps 3 T rfl ?_
    refine U.done (C.nx ?_)
    exact St.wk (C.next hm) (Wk.mk' [] rfl rfl (.eqs rfl) trivial rfl)
  ·refine C.exit (C.ex (C.ex (C.bex ?_)))
   exact St.wk (hJ6 _ hm) (Wk.mk' [] rfl rfl trivial trivial rfl)
theorem T_taquinref11_zoneAt (l : List ApiZone) (c : Int) (post : Bool → Prop) (hm : V_taquinref11_zoneAt l c post) :
    Tr Try.prog 68 [.sl 5 eApiZone l, .i c] [] 0 (fun A H' k => ∃ y, post y ∧ A = (.b y) ∧ H' = [] ∧ k = 0) := by
 refine Tr.intro (n := 19) Try.func68 rfl Try.ntmps68 rfl (fun w0 ok F β hβ => ?_)
 unfold V_taquinref11_zoneAt at hm
 refine C.seq (U.start ?_)
 refine U.ps 1 T rfl ?_
 refine U.done (C.nx (C.seq (C.seq (U.start ?_))))
 refine U.ps 1 T rfl ?_
 refine U.done (C.nx ?_)
 refine C.jn (fun (x5 : Unit) => []) (fun (x5 : Unit) => []) 0 hm (fun x5 hm => ?_) (fun J6 hm hJ6 => ?_)
 ·refine C.nx (C.seq (U.start ?_))
  refine U.ps 1 T rfl ?_
  refine U.done (C.nx (C.ret ?_))
  exact C.fin T (rs' := [.b false]) (H' := []) (nl' := 0) [] rfl rfl (.eq rfl) trivial rfl rfl rfl rfl hβ ⟨false, hm, rfl, rfl, rfl⟩
 ·refine C.block ?_
  refine St.wk (C.loop (fun (s7 : Int) => [(0, .sl 5 eApiZone l), (1, .i c), (5, .i s7)]) (fun (s7 : Int) => []) hm (fun s7 Y8 hm => ?_)) (Wk.mk' [] rfl rfl (.eqs rfl) trivial rfl)
  refine C.seq (C.seq (U.start ?_))
  refine U.ps 4 T rfl ?_
  refine U.done (C.nx ?_)
  refine C.ite rfl hm (fun hb11 hm => ?_) (fun hb11 hm => ?_)
  ·refine C.skip (C.nx (C.seq (C.block (C.seq (U.start ?_)))))
   refine U.ps 2 T rfl ?_
   obtain ⟨x14, hx14, hm⟩ := hm
   refine U.r (o := _) rfl (.none rfl) rfl rfl (by exact Rd.ix T rfl rfl rfl rfl rfl rfl hx14) ?_
   refine U.ps 3 T rfl ?_
   refine U.e (o := _) rfl (.none rfl) (by exact Eff.c [] (v := true) (T_taquinref07_Has x14.Cells c _ hm) en55 rfl rfl rfl (.eq rfl) trivial rfl rfl rfl rfl rfl rfl (fun _ _ => ⟨(.v _), trivial⟩) (.inr ⟨rfl, rfl⟩) (fun _ => rfl) (fun _ => rfl) rfl) (fun x15' hm => ?_)
   obtain ⟨x15⟩ := x15'
   refine U.done (C.nx ?_)
   refine C.ite rfl hm (fun hb16 hm => ?_) (fun hb16 hm => ?_)
   ·refine C.seq (U.start ?_)
    refine U.ps 1 T rfl ?_
    refine U.done (C.nx (C.ret (C.brt (C.rt (C.rt (C.brt (C.rt ?_)))))))
    exact C.fin T (rs' := [.b true]) (H' := []) (nl' := 0) [] rfl rfl (.eq rfl) trivial rfl rfl rfl rfl hβ ⟨true, hm, rfl, rfl, rfl⟩
   ·refine C.skip (C.bnx (C.nx (U.start ?_)))
    refine U.ps 3 T rfl ?_
    refine U.done (C.nx ?_)
    exact St.wk (C.next hm) (Wk.mk' [] rfl rfl (.eqs rfl) trivial rfl)
  ·refine C.exit (C.ex (C.ex (C.bex ?_)))
   exact St.wk (hJ6 _ hm) (Wk.mk' [] rfl rfl trivial trivial rfl)
theorem T_taquinref11_rightZones (s_1 : ApiSite) (post : Bool → Prop) (hm : V_taquinref11_rightZones s_1 post) :
    Tr Try.prog 40 [.agg (eApiSite s_1)] [] 0 (fun A H' k => ∃ y, post y ∧ A = (.b y) ∧ H' = [] ∧ k = 0) := by
 refine Tr.intro (n := 112) Try.func40 rfl Try.ntmps40 rfl (fun w0 ok F β hβ => ?_)
 unfold V_taquinref11_rightZones at hm
 refine C.seq (U.start ?_)
 refine U.e1 (o := _) rfl (.none rfl) (by exact Eff1.box rfl rfl rfl rfl rfl) ?_
 refine U.ps 1 T rfl ?_
 refine U.done (C.nx (C.seq (C.seq (U.start ?_))))
 refine U.ps 1 T rfl ?_
 refine U.done (C.nx ?_)
 refine C.jn (fun (x5 : Unit) => [(1, .p 0 0)]) (fun (x5 : Unit) => [(0, .box (eApiSite s_1))]) 1 hm (fun x5 hm => ?_) (fun J6 hm hJ6 => ?_)
 ·refine C.nx (C.seq (U.start ?_))
  refine U.ps 5 T rfl ?_
  refine U.done (C.nx (C.ret ?_))
  exact C.fin T (rs' := [.b (decide ((s_1.Zones.length : Int) ≤ 64))]) (H' := []) (nl' := 0) [] rfl rfl (.eq rfl) trivial rfl rfl rfl rfl hβ ⟨decide ((s_1.Zones.length : Int) ≤ 64), hm, rfl, rfl, rfl⟩
 ·refine C.block ?_
  refine St.wk (C.loop (fun (s7 : Int) => [(1, .p 0 0), (3, .i s7)]) (fun (s7 : Int) => [(0, .box (eApiSite s_1))]) hm (fun s7 Y8 hm => ?_)) (Wk.mk' [some 0] rfl rfl (.eqs rfl) ⟨⟨_, rfl, .box rfl (.eq rfl)⟩, trivial⟩ rfl)
  refine C.seq (C.seq (U.start ?_))
  refine U.ps 5 T rfl ?_
  refine U.done (C.nx ?_)
  refine C.ite rfl hm (fun hb11 hm => ?_) (fun hb11 hm => ?_)
  ·refine C.skip (C.nx (C.seq ?_))
   refine C.jn (fun (x12 : Unit) => [(1, .p 0 0), (3, .i s7)]) (fun (x12 : Unit) => [(0, .box (eApiSite s_1))]) 1 hm (fun x12 hm => ?_) (fun J13 hm hJ13 => ?_)
   ·refine C.nx (U.start ?_)
    refine U.ps 3 T rfl ?_
    refine U.done (C.nx ?_)
    exact St.wk (C.next hm) (Wk.mk' [some 0] rfl rfl (.eqs rfl) ⟨⟨_, rfl, .box rfl (.eq rfl)⟩, trivial⟩ rfl)
   ·refine C.block (C.seq (U.start ?_))
    refine U.ps 3 T rfl ?_
    obtain ⟨x16, hx16, hm⟩ := hm
    refine U.r (o := _) rfl (.none rfl) rfl rfl (by exact Rd.ix T rfl rfl rfl rfl rfl rfl hx16) ?_
    refine U.ps 1 T rfl ?_
    refine U.e1 (o := _) rfl (.none rfl) (by exact Eff1.al T rfl rfl rfl rfl) ?_
    refine U.e1 (o := _) rfl (.none rfl) (by exact Eff1.st T rfl rfl rfl rfl rfl rfl rfl rfl rfl rfl) ?_
    refine U.done (C.nx (C.seq (C.seq ?_)))
    refine C.jn (fun (x17 : Bool) => [(1, .p 0 0), (3, .i s7), (4, .p 1 0), (59, .b x17)]) (fun (x17 : Bool) => [(0, .box (eApiSite s_1)), (1, .box (eApiZone x16))]) 2 hm (fun x17 hm => ?_) (fun J18 hm hJ18 => ?_)
    ·refine C.nx ?_
     refine C.ite rfl hm (fun hb29 hm => ?_) (fun hb29 hm => ?_)
     ·refine C.seq (U.start ?_)
      refine U.ps 1 T rfl ?_
      refine U.done (C.nx (C.ret (C.rt (C.brt (C.rt (C.rt (C.brt (C.rt ?_))))))))
      exact C.fin T (rs' := [.b false]) (H' := []) (nl' := 0) [] rfl rfl (.eq rfl) trivial rfl rfl rfl rfl hβ ⟨false, hm, rfl, rfl, rfl⟩
     ·refine C.skip (C.nx (C.seq (U.start ?_)))
      refine U.ps 1 T rfl ?_
      refine U.done (C.nx ?_)
      refine C.jn (fun (x34 : Unit) => [(1, .p 0 0), (3, .i s7)]) (fun (x34 : Unit) => [(0, .box (eApiSite s_1))]) 1 hm (fun x34 hm => ?_) (fun J35 hm hJ35 => ?_)
      ·refine C.bnx ?_
       exact St.wk (hJ13 _ hm) (Wk.mk' [some 0] rfl rfl (.eqs rfl) ⟨⟨_, rfl, .box rfl (.eq rfl)⟩, trivial⟩ rfl)
      ·refine C.block ?_
       refine St.wk (C.loop (fun (s36 : Int) => [(1, .p 0 0), (3, .i s7), (4, .p 1 0), (5, .i s36)]) (fun (s36 : Int) => [(0, .box (eApiSite s_1)), (1, .box (eApiZone x16))]) hm (fun s36 Y37 hm => ?_)) (Wk.mk' [some 0, some 1] rfl rfl (.eqs rfl) ⟨⟨_, rfl, .box rfl (.eq rfl)⟩, ⟨_, rfl, .box rfl (.eq rfl)⟩, trivial⟩ rfl)
       refine C.seq (C.seq (U.start ?_))
       refine U.ps 5 T rfl ?_
       refine U.done (C.nx ?_)
       refine C.ite rfl hm (fun hb40 hm => ?_) (fun hb40 hm => ?_)
       ·refine C.skip (C.nx (C.seq (C.block (C.seq (U.start ?_)))))
        refine U.ps 3 T rfl ?_
        obtain ⟨x43, hx43, hm⟩ := hm
        refine U.r (o := _) rfl (.none rfl) rfl rfl (by exact Rd.ix T rfl rfl rfl rfl rfl rfl hx43) ?_
        refine U.ps 2 T rfl ?_
        refine U.done (C.nx (C.seq (C.seq ?_)))
        refine C.jn (fun (x44 : Bool) => [(1, .p 0 0), (3, .i s7), (4, .p 1 0), (5, .i s36), (6, .i x43), (91, .b x44)]) (fun (x44 : Bool) => [(0, .box (eApiSite s_1)), (1, .box (eApiZone x16))]) 2 hm (fun x44 hm => ?_) (fun J45 hm hJ45 => ?_)
        ·refine C.nx ?_
         refine C.ite rfl hm (fun hb50 hm => ?_) (fun hb50 hm => ?_)
         ·refine C.seq (U.start ?_)
          refine U.ps 1 T rfl ?_
          refine U.done (C.nx (C.ret (C.rt (C.brt (C.rt (C.rt (C.brt (C.brt (C.rt (C.rt (C.brt (C.rt ?_))))))))))))
          exact C.fin T (rs' := [.b false]) (H' := []) (nl' := 0) [] rfl rfl (.eq rfl) trivial rfl rfl rfl rfl hβ ⟨false, hm, rfl, rfl, rfl⟩
         ·refine C.skip (C.nx (C.seq ?_))
          refine C.jn (fun (x53 : Bool) => [(1, .p 0 0), (3, .i s7), (4, .p 1 0), (5, .i s36), (107, .b x53)]) (fun (x53 : Bool) => [(0, .box (eApiSite s_1)), (1, .box (eApiZone x16))]) 2 hm (fun x53 hm => ?_) (fun J54 hm hJ54 => ?_)
          ·refine C.nx ?_
           refine C.ite rfl hm (fun hb60 hm => ?_) (fun hb60 hm => ?_)
           ·refine C.seq (U.start ?_)
            refine U.ps 1 T rfl ?_
            refine U.done (C.nx (C.ret (C.brt (C.rt (C.rt (C.brt (C.brt (C.rt (C.rt (C.brt (C.rt ?_)))))))))))
            exact C.fin T (rs' := [.b false]) (H' := []) (nl' := 0) [] rfl rfl (.eq rfl) trivial rfl rfl rfl rfl hβ ⟨false, hm, rfl, rfl, rfl⟩
           ·refine C.skip (C.bnx (C.nx (U.start ?_)))
            refine U.ps 3 T rfl ?_
            refine U.done (C.nx ?_)
            exact St.wk (C.next hm) (Wk.mk' [some 0, some 1] rfl rfl (.eqs rfl) ⟨⟨_, rfl, .box rfl (.eq rfl)⟩, ⟨_, rfl, .box rfl (.eq rfl)⟩, trivial⟩ rfl)
          ·refine U.start ?_
           refine U.ps 4 T rfl ?_
           obtain ⟨x55, hx55, hm⟩ := hm
           refine U.r (o := _) rfl (.none rfl) rfl rfl (by exact Rd.ix T rfl rfl rfl rfl rfl rfl hx55) ?_
           refine U.ps 1 T rfl ?_
           refine U.e (o := _) rfl (.none rfl) (by exact Eff.c [] (v := true) (T_taquinref11_zoned x55 _ hm) en67 rfl rfl rfl (.eq rfl) trivial rfl rfl rfl rfl rfl rfl (fun _ _ => ⟨(.v _), trivial⟩) (.inr ⟨rfl, rfl⟩) (fun _ => rfl) (fun _ => rfl) rfl) (fun x56' hm => ?_)
           obtain ⟨x56⟩ := x56'
           refine U.ps 2 T rfl ?_
           refine hm.cs (fun hb57 hm => ?_) (fun hb57 hm => ?_)
           ·refine U.pg 3 8 false 100 (ntF hb57) T rfl rfl rfl rfl ?_
            obtain ⟨hx58, hm⟩ := hm
            refine U.r (o := _) rfl (.take 8 false 100 _ (ntF hb57) rfl rfl rfl) rfl rfl (by exact Rd.so T rfl rfl rfl rfl rfl (.none _) (.some _ rfl) hx58) ?_
            refine U.pg 1 8 false 100 (ntF hb57) T rfl rfl rfl rfl ?_
            refine U.e (o := _) rfl (.take 8 false 100 _ (ntF hb57) rfl rfl rfl) (by exact Eff.c [] (v := true) (T_taquinref11_zoneAt (sub s_1.Zones 0 s7) x43 _ hm) en68 rfl rfl rfl (.eq rfl) trivial rfl rfl rfl rfl rfl rfl (fun _ _ => ⟨(.v _), trivial⟩) (.inr ⟨rfl, rfl⟩) (fun _ => rfl) (fun _ => rfl) rfl) (fun x59' hm => ?_)
            obtain ⟨x59⟩ := x59'
            refine U.r (o := _) rfl (.none rfl) rfl rfl (by exact Rd.pk' rfl rfl (ntF hb57) rfl) ?_
            refine U.done ?_
            exact St.wk (hJ54 _ hm) (Wk.mk' [some 0, some 1] rfl rfl (.eqs rfl) ⟨⟨_, rfl, .box rfl (.eq rfl)⟩, ⟨_, rfl, .box rfl (.eq rfl)⟩, trivial⟩ rfl)
           ·refine U.sks 6 8 false 100 (ntT hb57) rfl rfl rfl ?_
            refine U.r (o := _) rfl (.none rfl) rfl rfl (by exact Rd.pk rfl rfl (ntT hb57) rfl) ?_
            refine U.done ?_
            exact St.wk (hJ54 _ hm) (Wk.mk' [some 0, some 1] rfl rfl (.eqs rfl) ⟨⟨_, rfl, .box rfl (.eq rfl)⟩, ⟨_, rfl, .box rfl (.eq rfl)⟩, trivial⟩ rfl)
        ·refine U.start ?_
         refine U.ps 3 T rfl ?_
         refine U.e (o := _) rfl (.none rfl) (by exact Eff.c [] (v := true) (T_taquinref07_Is s_1.Floor x43 _ hm) en34 rfl rfl rfl (.eq rfl) trivial rfl rfl rfl rfl rfl rfl (fun _ _ => ⟨(.v _), trivial⟩) (.inr ⟨rfl, rfl⟩) (fun _ => rfl) (fun _ => rfl) rfl) (fun x46' hm => ?_)
         obtain ⟨x46⟩ := x46'
         refine U.ps 2 T rfl ?_
         refine hm.cs (fun hb47 hm => ?_) (fun hb47 hm => ?_)
         ·refine U.pg 3 5 false 77 (ntF hb47) T rfl rfl rfl rfl ?_
          refine hm.cs (fun hb48 hm => ?_) (fun hb48 hm => ?_)
          ·refine U.pg 5 8 true 80 hb48 T rfl rfl rfl rfl ?_
           obtain ⟨x49, hx49, hm⟩ := hm
           refine U.r (o := _) rfl (.take 8 true 80 _ hb48 rfl rfl rfl) rfl rfl (by exact Rd.ix T rfl rfl rfl rfl rfl rfl hx49) ?_
           refine U.pg 3 8 true 80 hb48 T rfl rfl rfl rfl ?_
           refine U.r (o := _) rfl (.take 5 false 77 _ (ntF hb47) rfl rfl rfl) rfl rfl (by exact Rd.pk rfl rfl hb48 rfl) ?_
           refine U.r (o := _) rfl (.none rfl) rfl rfl (by exact Rd.pk' rfl rfl (ntF hb47) rfl) ?_
           refine U.done ?_
           exact St.wk (hJ45 _ hm) (Wk.mk' [some 0, some 1] rfl rfl (.eqs rfl) ⟨⟨_, rfl, .box rfl (.eq rfl)⟩, ⟨_, rfl, .box rfl (.eq rfl)⟩, trivial⟩ rfl)
          ·refine U.sks 9 8 true 80 hb48 rfl rfl rfl ?_
           refine U.r (o := _) rfl (.take 5 false 77 _ (ntF hb47) rfl rfl rfl) rfl rfl (by exact Rd.pk' rfl rfl hb48 rfl) ?_
           refine U.r (o := _) rfl (.none rfl) rfl rfl (by exact Rd.pk' rfl rfl (ntF hb47) rfl) ?_
           refine U.done ?_
           exact St.wk (hJ45 _ hm) (Wk.mk' [some 0, some 1] rfl rfl (.eqs rfl) ⟨⟨_, rfl, .box rfl (.eq rfl)⟩, ⟨_, rfl, .box rfl (.eq rfl)⟩, trivial⟩ rfl)
         ·refine U.sks 3 5 false 77 (ntT hb47) rfl rfl rfl ?_
          refine U.sku 9 8 true 80 rfl rfl rfl ?_
          refine U.sks 1 5 false 77 (ntT hb47) rfl rfl rfl ?_
          refine U.r (o := _) rfl (.none rfl) rfl rfl (by exact Rd.pk rfl rfl (ntT hb47) rfl) ?_
          refine U.done ?_
          exact St.wk (hJ45 _ hm) (Wk.mk' [some 0, some 1] rfl rfl (.eqs rfl) ⟨⟨_, rfl, .box rfl (.eq rfl)⟩, ⟨_, rfl, .box rfl (.eq rfl)⟩, trivial⟩ rfl)
       ·refine C.exit (C.ex (C.ex (C.bex ?_)))
        exact St.wk (hJ35 _ hm) (Wk.mk' [some 0] rfl rfl (.eqs rfl) ⟨⟨_, rfl, .box rfl (.eq rfl)⟩, trivial⟩ rfl)
    ·refine D.beg 9999 [0, 1] [] mix rfl rfl (by kernel_rfl) (by repeat (first | exact NoPanicQ.body | refine NoPanicQ.th ?_ | refine NoPanicQ.blk ?_)) (fun hQ hS ws M' => ?_)
     refine D.ps 2 [(0, []), (1, [])] rfl hQ hS T rfl rfl (by kernel_rfl) ?_
     refine D.e (o := _) 2 rfl (.none rfl) (by exact Eff.c [] (v := true) (T_taquinref11_Name x16.Name _ hm) en41 rfl rfl rfl (.eq rfl) trivial rfl rfl rfl rfl rfl rfl (fun _ _ => ⟨(.v _), trivial⟩) (.inr ⟨rfl, rfl⟩) (fun _ => rfl) (fun _ => rfl) rfl) (by kernel_rfl) rfl rfl (fun x19' hm => ?_)
     obtain ⟨x19⟩ := x19'
     refine D.ps 2 [(3, []), (4, [])] rfl hQ hS T rfl rfl (by kernel_rfl) ?_
     refine hm.cs (fun hb20 hm => ?_) (fun hb20 hm => ?_)
     ·refine D.q (o := _) 5 [] hQ hS rfl (.take 4 false 23 _ (ntF hb20) rfl rfl rfl) rfl rfl (by exact Rd.p T rfl) rfl (by kernel_rfl) ?_
      refine D.q (o := _) 6 [] hQ hS rfl (.take 4 false 23 _ (ntF hb20) rfl rfl rfl) rfl rfl (by exact Rd.l T rfl rfl rfl) rfl (by kernel_rfl) ?_
      refine D.q (o := _) 7 [] hQ hS rfl (.take 4 false 23 _ (ntF hb20) rfl rfl rfl) rfl rfl (by exact Rd.p T rfl) rfl (by kernel_rfl) ?_
      obtain ⟨hx21, hm⟩ := hm
      refine D.q (o := _) 8 [] hQ hS rfl (.take 4 false 23 _ (ntF hb20) rfl rfl rfl) rfl rfl (by exact Rd.so T rfl rfl rfl rfl rfl (.none _) (.some _ rfl) hx21) rfl (by kernel_rfl) ?_
      refine D.q (o := _) 9 [] hQ hS rfl (.take 4 false 23 _ (ntF hb20) rfl rfl rfl) rfl rfl (by exact Rd.p T rfl) rfl (by kernel_rfl) ?_
      refine D.q (o := _) 10 [] hQ hS rfl (.take 4 false 23 _ (ntF hb20) rfl rfl rfl) rfl rfl (by exact Rd.l T rfl rfl rfl) rfl (by kernel_rfl) ?_
      refine D.e (o := _) 11 rfl (.take 4 false 23 _ (ntF hb20) rfl rfl rfl) (by exact Eff.c [] (v := true) (T_taquinref11_named (sub s_1.Zones 0 s7) x16.Name _ hm) en65 rfl rfl rfl (.eq rfl) trivial rfl rfl rfl rfl rfl rfl (fun _ _ => ⟨(.v _), trivial⟩) (.inr ⟨rfl, rfl⟩) (fun _ => rfl) (fun _ => rfl) rfl) (by kernel_rfl) rfl rfl (fun x22' hm => ?_)
      obtain ⟨x22⟩ := x22'
      refine D.q (o := _) 12 [] hQ hS rfl (.take 4 false 23 _ (ntF hb20) rfl rfl rfl) rfl rfl (by exact Rd.p T rfl) rfl (by kernel_rfl) ?_
      refine D.q (o := _) 13 [] hQ hS rfl (.none rfl) rfl rfl (by exact Rd.pk' rfl rfl (ntF hb20) rfl) rfl (by kernel_rfl) ?_
      refine D.ps 1 [(14, [])] rfl hQ hS T rfl rfl (by kernel_rfl) ?_
      refine hm.cs (fun hb23 hm => ?_) (fun hb23 hm => ?_)
      ·refine D.sq (o := _) 15 [] hQ hS rfl (.skip 14 false 33 _ hb23 rfl rfl rfl) rfl rfl (by kernel_rfl) ?_
       refine D.sq (o := _) 16 [] hQ hS rfl (.skip 14 false 33 _ hb23 rfl rfl rfl) rfl rfl (by kernel_rfl) ?_
       refine D.sq (o := _) 17 [] hQ hS rfl (.skip 14 false 33 _ hb23 rfl rfl rfl) rfl rfl (by kernel_rfl) ?_
       refine D.sq (o := _) 18 [] hQ hS rfl (.skip 14 false 33 _ hb23 rfl rfl rfl) rfl rfl (by kernel_rfl) ?_
       refine D.q (o := _) 19 [] hQ hS rfl (.none rfl) rfl rfl (by exact Rd.pk rfl rfl hb23 rfl) rfl (by kernel_rfl) ?_
       refine D.ps 1 [(20, [])] rfl hQ hS T rfl rfl (by kernel_rfl) ?_
       refine D.sq (o := _) 21 [] hQ hS rfl (.skip 20 false 39 _ rfl rfl rfl rfl) rfl rfl (by kernel_rfl) ?_
       refine D.sq (o := _) 22 [] hQ hS rfl (.skip 20 false 39 _ rfl rfl rfl rfl) rfl rfl (by kernel_rfl) ?_
       refine D.sq (o := _) 23 [] hQ hS rfl (.skip 20 false 39 _ rfl rfl rfl rfl) rfl rfl (by kernel_rfl) ?_
       refine D.q (o := _) 24 [] hQ hS rfl (.none rfl) rfl rfl (by exact Rd.pk rfl rfl rfl rfl) rfl (by kernel_rfl) ?_
       refine D.ps 1 [(25, [])] rfl hQ hS T rfl rfl (by kernel_rfl) ?_
       refine D.sq (o := _) 26 [] hQ hS rfl (.skip 25 false 44 _ rfl rfl rfl rfl) rfl rfl (by kernel_rfl) ?_
       refine D.sq (o := _) 27 [] hQ hS rfl (.skip 25 false 44 _ rfl rfl rfl rfl) rfl rfl (by kernel_rfl) ?_
       refine D.sq (o := _) 28 [] hQ hS rfl (.skip 25 false 44 _ rfl rfl rfl rfl) rfl rfl (by kernel_rfl) ?_
       refine D.q (o := _) 29 [] hQ hS rfl (.none rfl) rfl rfl (by exact Rd.pk rfl rfl rfl rfl) rfl (by kernel_rfl) ?_
       refine D.ps 1 [(30, [])] rfl hQ hS T rfl rfl (by kernel_rfl) ?_
       refine D.sq (o := _) 31 [] hQ hS rfl (.skip 30 false 49 _ rfl rfl rfl rfl) rfl rfl (by kernel_rfl) ?_
       refine D.sq (o := _) 32 [] hQ hS rfl (.skip 30 false 49 _ rfl rfl rfl rfl) rfl rfl (by kernel_rfl) ?_
       refine D.sq (o := _) 33 [] hQ hS rfl (.skip 30 false 49 _ rfl rfl rfl rfl) rfl rfl (by kernel_rfl) ?_
       refine D.q (o := _) 34 [] hQ hS rfl (.none rfl) rfl rfl (by exact Rd.pk rfl rfl rfl rfl) rfl (by kernel_rfl) ?_
       refine D.ps 1 [(35, [])] rfl hQ hS T rfl rfl (by kernel_rfl) ?_
       refine D.sq (o := _) 36 [] hQ hS rfl (.skip 35 false 54 _ rfl rfl rfl rfl) rfl rfl (by kernel_rfl) ?_
       refine D.sq (o := _) 37 [] hQ hS rfl (.skip 35 false 54 _ rfl rfl rfl rfl) rfl rfl (by kernel_rfl) ?_
       refine D.sq (o := _) 38 [] hQ hS rfl (.skip 35 false 54 _ rfl rfl rfl rfl) rfl rfl (by kernel_rfl) ?_
       refine D.sq (o := _) 39 [] hQ hS rfl (.skip 35 false 54 _ rfl rfl rfl rfl) rfl rfl (by kernel_rfl) ?_
       refine D.q (o := _) 40 [] hQ hS rfl (.none rfl) rfl rfl (by exact Rd.pk rfl rfl rfl rfl) rfl (by kernel_rfl) ?_
       refine D.done (by kernel_rfl) ?_
       exact St.wk (hJ18 _ hm) (Wk.mk' [some 0, some 1] rfl rfl (.eqs rfl) ⟨⟨_, rfl, .box rfl (.eq rfl)⟩, ⟨_, rfl, .box rfl (.eq rfl)⟩, trivial⟩ rfl)
      ·refine D.q (o := _) 15 [] hQ hS rfl (.take 14 false 33 _ hb23 rfl rfl rfl) rfl rfl (by exact Rd.p T rfl) rfl (by kernel_rfl) ?_
       refine D.q (o := _) 16 [] hQ hS rfl (.take 14 false 33 _ hb23 rfl rfl rfl) rfl rfl (by exact Rd.l T rfl rfl rfl) rfl (by kernel_rfl) ?_
       refine D.q (o := _) 17 [] hQ hS rfl (.take 14 false 33 _ hb23 rfl rfl rfl) rfl rfl (by exact Rd.p T rfl) rfl (by kernel_rfl) ?_
       refine D.q (o := _) 18 [] hQ hS rfl (.take 14 false 33 _ hb23 rfl rfl rfl) rfl rfl (by exact Rd.p T rfl) rfl (by kernel_rfl) ?_
       refine D.q (o := _) 19 [] hQ hS rfl (.none rfl) rfl rfl (by exact Rd.pk' rfl rfl hb23 rfl) rfl (by kernel_rfl) ?_
       refine D.ps 1 [(20, [])] rfl hQ hS T rfl rfl (by kernel_rfl) ?_
       refine hm.cs (fun hb24 hm => ?_) (fun hb24 hm => ?_)
       ·refine D.sq (o := _) 21 [] hQ hS rfl (.skip 20 false 39 _ hb24 rfl rfl rfl) rfl rfl (by kernel_rfl) ?_
        refine D.sq (o := _) 22 [] hQ hS rfl (.skip 20 false 39 _ hb24 rfl rfl rfl) rfl rfl (by kernel_rfl) ?_
        refine D.sq (o := _) 23 [] hQ hS rfl (.skip 20 false 39 _ hb24 rfl rfl rfl) rfl rfl (by kernel_rfl) ?_
        refine D.q (o := _) 24 [] hQ hS rfl (.none rfl) rfl rfl (by exact Rd.pk rfl rfl hb24 rfl) rfl (by kernel_rfl) ?_
        refine D.ps 1 [(25, [])] rfl hQ hS T rfl rfl (by kernel_rfl) ?_
        refine D.sq (o := _) 26 [] hQ hS rfl (.skip 25 false 44 _ rfl rfl rfl rfl) rfl rfl (by kernel_rfl) ?_
        refine D.sq (o := _) 27 [] hQ hS rfl (.skip 25 false 44 _ rfl rfl rfl rfl) rfl rfl (by kernel_rfl) ?_
        refine D.sq (o := _) 28 [] hQ hS rfl (.skip 25 false 44 _ rfl rfl rfl rfl) rfl rfl (by kernel_rfl) ?_
        refine D.q (o := _) 29 [] hQ hS rfl (.none rfl) rfl rfl (by exact Rd.pk rfl rfl rfl rfl) rfl (by kernel_rfl) ?_
        refine D.ps 1 [(30, [])] rfl hQ hS T rfl rfl (by kernel_rfl) ?_
        refine D.sq (o := _) 31 [] hQ hS rfl (.skip 30 false 49 _ rfl rfl rfl rfl) rfl rfl (by kernel_rfl) ?_
        refine D.sq (o := _) 32 [] hQ hS rfl (.skip 30 false 49 _ rfl rfl rfl rfl) rfl rfl (by kernel_rfl) ?_
        refine D.sq (o := _) 33 [] hQ hS rfl (.skip 30 false 49 _ rfl rfl rfl rfl) rfl rfl (by kernel_rfl) ?_
        refine D.q (o := _) 34 [] hQ hS rfl (.none rfl) rfl rfl (by exact Rd.pk rfl rfl rfl rfl) rfl (by kernel_rfl) ?_
        refine D.ps 1 [(35, [])] rfl hQ hS T rfl rfl (by kernel_rfl) ?_
        refine D.sq (o := _) 36 [] hQ hS rfl (.skip 35 false 54 _ rfl rfl rfl rfl) rfl rfl (by kernel_rfl) ?_
        refine D.sq (o := _) 37 [] hQ hS rfl (.skip 35 false 54 _ rfl rfl rfl rfl) rfl rfl (by kernel_rfl) ?_
        refine D.sq (o := _) 38 [] hQ hS rfl (.skip 35 false 54 _ rfl rfl rfl rfl) rfl rfl (by kernel_rfl) ?_
        refine D.sq (o := _) 39 [] hQ hS rfl (.skip 35 false 54 _ rfl rfl rfl rfl) rfl rfl (by kernel_rfl) ?_
        refine D.q (o := _) 40 [] hQ hS rfl (.none rfl) rfl rfl (by exact Rd.pk rfl rfl rfl rfl) rfl (by kernel_rfl) ?_
        refine D.done (by kernel_rfl) ?_
        exact St.wk (hJ18 _ hm) (Wk.mk' [some 0, some 1] rfl rfl (.eqs rfl) ⟨⟨_, rfl, .box rfl (.eq rfl)⟩, ⟨_, rfl, .box rfl (.eq rfl)⟩, trivial⟩ rfl)
       ·refine D.q (o := _) 21 [] hQ hS rfl (.take 20 false 39 _ hb24 rfl rfl rfl) rfl rfl (by exact Rd.p T rfl) rfl (by kernel_rfl) ?_
        refine D.q (o := _) 22 [] hQ hS rfl (.take 20 false 39 _ hb24 rfl rfl rfl) rfl rfl (by exact Rd.l T rfl rfl rfl) rfl (by kernel_rfl) ?_
        refine D.q (o := _) 23 [] hQ hS rfl (.take 20 false 39 _ hb24 rfl rfl rfl) rfl rfl (by exact Rd.p T rfl) rfl (by kernel_rfl) ?_
        refine D.q (o := _) 24 [] hQ hS rfl (.none rfl) rfl rfl (by exact Rd.pk' rfl rfl hb24 rfl) rfl (by kernel_rfl) ?_
        refine D.ps 1 [(25, [])] rfl hQ hS T rfl rfl (by kernel_rfl) ?_
        refine hm.cs (fun hb25 hm => ?_) (fun hb25 hm => ?_)
        ·refine D.sq (o := _) 26 [] hQ hS rfl (.skip 25 false 44 _ hb25 rfl rfl rfl) rfl rfl (by kernel_rfl) ?_
         refine D.sq (o := _) 27 [] hQ hS rfl (.skip 25 false 44 _ hb25 rfl rfl rfl) rfl rfl (by kernel_rfl) ?_
         refine D.sq (o := _) 28 [] hQ hS rfl (.skip 25 false 44 _ hb25 rfl rfl rfl) rfl rfl (by kernel_rfl) ?_
         refine D.q (o := _) 29 [] hQ hS rfl (.none rfl) rfl rfl (by exact Rd.pk rfl rfl hb25 rfl) rfl (by kernel_rfl) ?_
         refine D.ps 1 [(30, [])] rfl hQ hS T rfl rfl (by kernel_rfl) ?_
         refine D.sq (o := _) 31 [] hQ hS rfl (.skip 30 false 49 _ rfl rfl rfl rfl) rfl rfl (by kernel_rfl) ?_
         refine D.sq (o := _) 32 [] hQ hS rfl (.skip 30 false 49 _ rfl rfl rfl rfl) rfl rfl (by kernel_rfl) ?_
         refine D.sq (o := _) 33 [] hQ hS rfl (.skip 30 false 49 _ rfl rfl rfl rfl) rfl rfl (by kernel_rfl) ?_
         refine D.q (o := _) 34 [] hQ hS rfl (.none rfl) rfl rfl (by exact Rd.pk rfl rfl rfl rfl) rfl (by kernel_rfl) ?_
         refine D.ps 1 [(35, [])] rfl hQ hS T rfl rfl (by kernel_rfl) ?_
         refine D.sq (o := _) 36 [] hQ hS rfl (.skip 35 false 54 _ rfl rfl rfl rfl) rfl rfl (by kernel_rfl) ?_
         refine D.sq (o := _) 37 [] hQ hS rfl (.skip 35 false 54 _ rfl rfl rfl rfl) rfl rfl (by kernel_rfl) ?_
         refine D.sq (o := _) 38 [] hQ hS rfl (.skip 35 false 54 _ rfl rfl rfl rfl) rfl rfl (by kernel_rfl) ?_
         refine D.sq (o := _) 39 [] hQ hS rfl (.skip 35 false 54 _ rfl rfl rfl rfl) rfl rfl (by kernel_rfl) ?_
         refine D.q (o := _) 40 [] hQ hS rfl (.none rfl) rfl rfl (by exact Rd.pk rfl rfl rfl rfl) rfl (by kernel_rfl) ?_
         refine D.done (by kernel_rfl) ?_
         exact St.wk (hJ18 _ hm) (Wk.mk' [some 0, some 1] rfl rfl (.eqs rfl) ⟨⟨_, rfl, .box rfl (.eq rfl)⟩, ⟨_, rfl, .box rfl (.eq rfl)⟩, trivial⟩ rfl)
        ·refine D.q (o := _) 26 [] hQ hS rfl (.take 25 false 44 _ hb25 rfl rfl rfl) rfl rfl (by exact Rd.p T rfl) rfl (by kernel_rfl) ?_
         refine D.q (o := _) 27 [] hQ hS rfl (.take 25 false 44 _ hb25 rfl rfl rfl) rfl rfl (by exact Rd.l T rfl rfl rfl) rfl (by kernel_rfl) ?_
         refine D.q (o := _) 28 [] hQ hS rfl (.take 25 false 44 _ hb25 rfl rfl rfl) rfl rfl (by exact Rd.p T rfl) rfl (by kernel_rfl) ?_
         refine D.q (o := _) 29 [] hQ hS rfl (.none rfl) rfl rfl (by exact Rd.pk' rfl rfl hb25 rfl) rfl (by kernel_rfl) ?_
         refine D.ps 1 [(30, [])] rfl hQ hS T rfl rfl (by kernel_rfl) ?_
         refine hm.cs (fun hb26 hm => ?_) (fun hb26 hm => ?_)
         ·refine D.sq (o := _) 31 [] hQ hS rfl (.skip 30 false 49 _ hb26 rfl rfl rfl) rfl rfl (by kernel_rfl) ?_
          refine D.sq (o := _) 32 [] hQ hS rfl (.skip 30 false 49 _ hb26 rfl rfl rfl) rfl rfl (by kernel_rfl) ?_
          refine D.sq (o := _) 33 [] hQ hS rfl (.skip 30 false 49 _ hb26 rfl rfl rfl) rfl rfl (by kernel_rfl) ?_
          refine D.q (o := _) 34 [] hQ hS rfl (.none rfl) rfl rfl (by exact Rd.pk rfl rfl hb26 rfl) rfl (by kernel_rfl) ?_
          refine D.ps 1 [(35, [])] rfl hQ hS T rfl rfl (by kernel_rfl) ?_
          refine D.sq (o := _) 36 [] hQ hS rfl (.skip 35 false 54 _ rfl rfl rfl rfl) rfl rfl (by kernel_rfl) ?_
          refine D.sq (o := _) 37 [] hQ hS rfl (.skip 35 false 54 _ rfl rfl rfl rfl) rfl rfl (by kernel_rfl) ?_
          refine D.sq (o := _) 38 [] hQ hS rfl (.skip 35 false 54 _ rfl rfl rfl rfl) rfl rfl (by kernel_rfl) ?_
          refine D.sq (o := _) 39 [] hQ hS rfl (.skip 35 false 54 _ rfl rfl rfl rfl) rfl rfl (by kernel_rfl) ?_
          refine D.q (o := _) 40 [] hQ hS rfl (.none rfl) rfl rfl (by exact Rd.pk rfl rfl rfl rfl) rfl (by kernel_rfl) ?_
          refine D.done (by kernel_rfl) ?_
          exact St.wk (hJ18 _ hm) (Wk.mk' [some 0, some 1] rfl rfl (.eqs rfl) ⟨⟨_, rfl, .box rfl (.eq rfl)⟩, ⟨_, rfl, .box rfl (.eq rfl)⟩, trivial⟩ rfl)
         ·refine D.q (o := _) 31 [] hQ hS rfl (.take 30 false 49 _ hb26 rfl rfl rfl) rfl rfl (by exact Rd.p T rfl) rfl (by kernel_rfl) ?_
          refine D.q (o := _) 32 [] hQ hS rfl (.take 30 false 49 _ hb26 rfl rfl rfl) rfl rfl (by exact Rd.l T rfl rfl rfl) rfl (by kernel_rfl) ?_
          refine D.q (o := _) 33 [] hQ hS rfl (.take 30 false 49 _ hb26 rfl rfl rfl) rfl rfl (by exact Rd.p T rfl) rfl (by kernel_rfl) ?_
          refine D.q (o := _) 34 [] hQ hS rfl (.none rfl) rfl rfl (by exact Rd.pk' rfl rfl hb26 rfl) rfl (by kernel_rfl) ?_
          refine D.ps 1 [(35, [])] rfl hQ hS T rfl rfl (by kernel_rfl) ?_
          refine hm.cs (fun hb27 hm => ?_) (fun hb27 hm => ?_)
          ·refine D.sq (o := _) 36 [] hQ hS rfl (.skip 35 false 54 _ hb27 rfl rfl rfl) rfl rfl (by kernel_rfl) ?_
           refine D.sq (o := _) 37 [] hQ hS rfl (.skip 35 false 54 _ hb27 rfl rfl rfl) rfl rfl (by kernel_rfl) ?_
           refine D.sq (o := _) 38 [] hQ hS rfl (.skip 35 false 54 _ hb27 rfl rfl rfl) rfl rfl (by kernel_rfl) ?_
           refine D.sq (o := _) 39 [] hQ hS rfl (.skip 35 false 54 _ hb27 rfl rfl rfl) rfl rfl (by kernel_rfl) ?_
           refine D.q (o := _) 40 [] hQ hS rfl (.none rfl) rfl rfl (by exact Rd.pk rfl rfl hb27 rfl) rfl (by kernel_rfl) ?_
           refine D.done (by kernel_rfl) ?_
           exact St.wk (hJ18 _ hm) (Wk.mk' [some 0, some 1] rfl rfl (.eqs rfl) ⟨⟨_, rfl, .box rfl (.eq rfl)⟩, ⟨_, rfl, .box rfl (.eq rfl)⟩, trivial⟩ rfl)
          ·refine D.q (o := _) 36 [] hQ hS rfl (.take 35 false 54 _ hb27 rfl rfl rfl) rfl rfl (by exact Rd.p T rfl) rfl (by kernel_rfl) ?_
           refine D.q (o := _) 37 [] hQ hS rfl (.take 35 false 54 _ hb27 rfl rfl rfl) rfl rfl (by exact Rd.l T rfl rfl rfl) rfl (by kernel_rfl) ?_
           refine D.e (o := _) 38 rfl (.take 35 false 54 _ hb27 rfl rfl rfl) (by exact Eff.c [] (v := true) (T_taquinref11_spans x16.Shut _ hm) en66 rfl rfl rfl (.eq rfl) trivial rfl rfl rfl rfl rfl rfl (fun _ _ => ⟨(.v _), trivial⟩) (.inr ⟨rfl, rfl⟩) (fun _ => rfl) (fun _ => rfl) rfl) (by kernel_rfl) rfl rfl (fun x28' hm => ?_)
           obtain ⟨x28⟩ := x28'
           refine D.q (o := _) 39 [] hQ hS rfl (.take 35 false 54 _ hb27 rfl rfl rfl) rfl rfl (by exact Rd.p T rfl) rfl (by kernel_rfl) ?_
           refine D.q (o := _) 40 [] hQ hS rfl (.none rfl) rfl rfl (by exact Rd.pk' rfl rfl hb27 rfl) rfl (by kernel_rfl) ?_
           refine D.done (by kernel_rfl) ?_
           exact St.wk (hJ18 _ hm) (Wk.mk' [some 0, some 1] rfl rfl (.eqs rfl) ⟨⟨_, rfl, .box rfl (.eq rfl)⟩, ⟨_, rfl, .box rfl (.eq rfl)⟩, trivial⟩ rfl)
     ·refine D.sq (o := _) 5 [] hQ hS rfl (.skip 4 false 23 _ (ntT hb20) rfl rfl rfl) rfl rfl (by kernel_rfl) ?_
      refine D.sq (o := _) 6 [] hQ hS rfl (.skip 4 false 23 _ (ntT hb20) rfl rfl rfl) rfl rfl (by kernel_rfl) ?_
      refine D.sq (o := _) 7 [] hQ hS rfl (.skip 4 false 23 _ (ntT hb20) rfl rfl rfl) rfl rfl (by kernel_rfl) ?_
      refine D.sq (o := _) 8 [] hQ hS rfl (.skip 4 false 23 _ (ntT hb20) rfl rfl rfl) rfl rfl (by kernel_rfl) ?_
      refine D.sq (o := _) 9 [] hQ hS rfl (.skip 4 false 23 _ (ntT hb20) rfl rfl rfl) rfl rfl (by kernel_rfl) ?_
      refine D.sq (o := _) 10 [] hQ hS rfl (.skip 4 false 23 _ (ntT hb20) rfl rfl rfl) rfl rfl (by kernel_rfl) ?_
      refine D.sq (o := _) 11 [] hQ hS rfl (.skip 4 false 23 _ (ntT hb20) rfl rfl rfl) rfl rfl (by kernel_rfl) ?_
      refine D.sq (o := _) 12 [] hQ hS rfl (.skip 4 false 23 _ (ntT hb20) rfl rfl rfl) rfl rfl (by kernel_rfl) ?_
      refine D.q (o := _) 13 [] hQ hS rfl (.none rfl) rfl rfl (by exact Rd.pk rfl rfl (ntT hb20) rfl) rfl (by kernel_rfl) ?_
      refine D.ps 1 [(14, [])] rfl hQ hS T rfl rfl (by kernel_rfl) ?_
      refine D.sq (o := _) 15 [] hQ hS rfl (.skip 14 false 33 _ rfl rfl rfl rfl) rfl rfl (by kernel_rfl) ?_
      refine D.sq (o := _) 16 [] hQ hS rfl (.skip 14 false 33 _ rfl rfl rfl rfl) rfl rfl (by kernel_rfl) ?_
      refine D.sq (o := _) 17 [] hQ hS rfl (.skip 14 false 33 _ rfl rfl rfl rfl) rfl rfl (by kernel_rfl) ?_
      refine D.sq (o := _) 18 [] hQ hS rfl (.skip 14 false 33 _ rfl rfl rfl rfl) rfl rfl (by kernel_rfl) ?_
      refine D.q (o := _) 19 [] hQ hS rfl (.none rfl) rfl rfl (by exact Rd.pk rfl rfl rfl rfl) rfl (by kernel_rfl) ?_
      refine D.ps 1 [(20, [])] rfl hQ hS T rfl rfl (by kernel_rfl) ?_
      refine D.sq (o := _) 21 [] hQ hS rfl (.skip 20 false 39 _ rfl rfl rfl rfl) rfl rfl (by kernel_rfl) ?_
      refine D.sq (o := _) 22 [] hQ hS rfl (.skip 20 false 39 _ rfl rfl rfl rfl) rfl rfl (by kernel_rfl) ?_
      refine D.sq (o := _) 23 [] hQ hS rfl (.skip 20 false 39 _ rfl rfl rfl rfl) rfl rfl (by kernel_rfl) ?_
      refine D.q (o := _) 24 [] hQ hS rfl (.none rfl) rfl rfl (by exact Rd.pk rfl rfl rfl rfl) rfl (by kernel_rfl) ?_
      refine D.ps 1 [(25, [])] rfl hQ hS T rfl rfl (by kernel_rfl) ?_
      refine D.sq (o := _) 26 [] hQ hS rfl (.skip 25 false 44 _ rfl rfl rfl rfl) rfl rfl (by kernel_rfl) ?_
      refine D.sq (o := _) 27 [] hQ hS rfl (.skip 25 false 44 _ rfl rfl rfl rfl) rfl rfl (by kernel_rfl) ?_
      refine D.sq (o := _) 28 [] hQ hS rfl (.skip 25 false 44 _ rfl rfl rfl rfl) rfl rfl (by kernel_rfl) ?_
      refine D.q (o := _) 29 [] hQ hS rfl (.none rfl) rfl rfl (by exact Rd.pk rfl rfl rfl rfl) rfl (by kernel_rfl) ?_
      refine D.ps 1 [(30, [])] rfl hQ hS T rfl rfl (by kernel_rfl) ?_
      refine D.sq (o := _) 31 [] hQ hS rfl (.skip 30 false 49 _ rfl rfl rfl rfl) rfl rfl (by kernel_rfl) ?_
      refine D.sq (o := _) 32 [] hQ hS rfl (.skip 30 false 49 _ rfl rfl rfl rfl) rfl rfl (by kernel_rfl) ?_
      refine D.sq (o := _) 33 [] hQ hS rfl (.skip 30 false 49 _ rfl rfl rfl rfl) rfl rfl (by kernel_rfl) ?_
      refine D.q (o := _) 34 [] hQ hS rfl (.none rfl) rfl rfl (by exact Rd.pk rfl rfl rfl rfl) rfl (by kernel_rfl) ?_
      refine D.ps 1 [(35, [])] rfl hQ hS T rfl rfl (by kernel_rfl) ?_
      refine D.sq (o := _) 36 [] hQ hS rfl (.skip 35 false 54 _ rfl rfl rfl rfl) rfl rfl (by kernel_rfl) ?_
      refine D.sq (o := _) 37 [] hQ hS rfl (.skip 35 false 54 _ rfl rfl rfl rfl) rfl rfl (by kernel_rfl) ?_
      refine D.sq (o := _) 38 [] hQ hS rfl (.skip 35 false 54 _ rfl rfl rfl rfl) rfl rfl (by kernel_rfl) ?_
      refine D.sq (o := _) 39 [] hQ hS rfl (.skip 35 false 54 _ rfl rfl rfl rfl) rfl rfl (by kernel_rfl) ?_
      refine D.q (o := _) 40 [] hQ hS rfl (.none rfl) rfl rfl (by exact Rd.pk rfl rfl rfl rfl) rfl (by kernel_rfl) ?_
      refine D.done (by kernel_rfl) ?_
      exact St.wk (hJ18 _ hm) (Wk.mk' [some 0, some 1] rfl rfl (.eqs rfl) ⟨⟨_, rfl, .box rfl (.eq rfl)⟩, ⟨_, rfl, .box rfl (.eq rfl)⟩, trivial⟩ rfl)
  ·refine C.exit (C.ex (C.ex (C.bex ?_)))
   exact St.wk (hJ6 _ hm) (Wk.mk' [some 0] rfl rfl (.eqs rfl) ⟨⟨_, rfl, .box rfl (.eq rfl)⟩, trivial⟩ rfl)
theorem T_taquinref11_Apart (l : List ApiApart) (a : ByteArray) (b : ByteArray) (post : Bool → Prop) (hm : V_taquinref11_Apart l a b post) :
    Tr Try.prog 42 [.sl 2 eApiApart l, .v (.string a), .v (.string b)] [] 0 (fun A H' k => ∃ y, post y ∧ A = (.b y) ∧ H' = [] ∧ k = 0) := by
 refine Tr.intro (n := 56) Try.func42 rfl Try.ntmps42 rfl (fun w0 ok F β hβ => ?_)
 unfold V_taquinref11_Apart at hm
 refine C.seq (U.start ?_)
 refine U.ps 1 T rfl ?_
 refine U.done (C.nx (C.seq (C.seq (U.start ?_))))
 refine U.ps 1 T rfl ?_
 refine U.done (C.nx ?_)
 refine C.jn (fun (x5 : Unit) => []) (fun (x5 : Unit) => []) 0 hm (fun x5 hm => ?_) (fun J6 hm hJ6 => ?_)
 ·refine C.nx (C.seq (U.start ?_))
  refine U.ps 1 T rfl ?_
  refine U.done (C.nx (C.ret ?_))
  exact C.fin T (rs' := [.b false]) (H' := []) (nl' := 0) [] rfl rfl (.eq rfl) trivial rfl rfl rfl rfl hβ ⟨false, hm, rfl, rfl, rfl⟩
 ·refine C.block ?_
  refine St.wk (C.loop (fun (s7 : Int) => [(0, .sl 2 eApiApart l), (1, .v (.string a)), (2, .v (.string b)), (7, .i s7)]) (fun (s7 : Int) => []) hm (fun s7 Y8 hm => ?_)) (Wk.mk' [] rfl rfl (.eqs rfl) trivial rfl)
  refine C.seq (C.seq ?_)
  refine C.jn (fun (x9 : Bool) => [(0, .sl 2 eApiApart l), (1, .v (.string a)), (2, .v (.string b)), (7, .i s7), (19, .b x9)]) (fun (x9 : Bool) => []) 0 hm (fun x9 hm => ?_) (fun J10 hm hJ10 => ?_)
  ·refine C.nx ?_
   refine C.ite rfl hm (fun hb13 hm => ?_) (fun hb13 hm => ?_)
   ·refine C.skip (C.nx (C.seq (C.block (C.seq ?_))))
    refine C.jn (fun (x14 : Bool) => [(0, .sl 2 eApiApart l), (1, .v (.string a)), (2, .v (.string b)), (7, .i s7), (55, .b x14)]) (fun (x14 : Bool) => []) 0 hm (fun x14 hm => ?_) (fun J15 hm hJ15 => ?_)
    ·refine C.nx ?_
     refine C.ite rfl hm (fun hb21 hm => ?_) (fun hb21 hm => ?_)
     ·refine C.seq (U.start ?_)
      refine U.ps 1 T rfl ?_
      refine U.done (C.nx (C.ret (C.brt (C.rt (C.rt (C.brt (C.rt ?_)))))))
      exact C.fin T (rs' := [.b true]) (H' := []) (nl' := 0) [] rfl rfl (.eq rfl) trivial rfl rfl rfl rfl hβ ⟨true, hm, rfl, rfl, rfl⟩
     ·refine C.skip (C.bnx (C.nx (U.start ?_)))
      refine U.ps 3 T rfl ?_
      refine U.done (C.nx ?_)
      exact St.wk (C.next hm) (Wk.mk' [] rfl rfl (.eqs rfl) trivial rfl)
    ·refine U.start ?_
     refine U.ps 2 T rfl ?_
     obtain ⟨x16, hx16, hm⟩ := hm
     refine U.r (o := _) rfl (.none rfl) rfl rfl (by exact Rd.ix T rfl rfl rfl rfl rfl rfl hx16) ?_
     refine U.ps 5 T rfl ?_
     refine hm.cs (fun hb17 hm => ?_) (fun hb17 hm => ?_)
     ·refine U.pg 2 7 true 29 hb17 T rfl rfl rfl rfl ?_
      refine U.r (o := _) rfl (.take 7 true 29 _ hb17 rfl rfl rfl) rfl rfl (by exact Rd.ix T rfl rfl rfl rfl rfl rfl hx16) ?_
      refine U.pg 4 7 true 29 hb17 T rfl rfl rfl rfl ?_
      refine U.r (o := _) rfl (.none rfl) rfl rfl (by exact Rd.pk rfl rfl hb17 rfl) ?_
      refine U.ps 1 T rfl ?_
      refine hm.cs (fun hb18 hm => ?_) (fun hb18 hm => ?_)
      ·refine U.sks 8 16 false 38 hb18 rfl rfl rfl ?_
       refine U.sku 7 24 true 46 rfl rfl rfl ?_
       refine U.sks 1 16 false 38 hb18 rfl rfl rfl ?_
       refine U.r (o := _) rfl (.none rfl) rfl rfl (by exact Rd.pk rfl rfl hb18 rfl) ?_
       refine U.done ?_
       exact St.wk (hJ15 _ hm) (Wk.mk' [] rfl rfl (.eqs rfl) trivial rfl)
      ·refine U.pg 2 16 false 38 hb18 T rfl rfl rfl rfl ?_
       refine U.r (o := _) rfl (.take 16 false 38 _ hb18 rfl rfl rfl) rfl rfl (by exact Rd.ix T rfl rfl rfl rfl rfl rfl hx16) ?_
       refine U.pg 5 16 false 38 hb18 T rfl rfl rfl rfl ?_
       refine hm.cs (fun hb19 hm => ?_) (fun hb19 hm => ?_)
       ·refine U.pg 2 24 true 46 hb19 T rfl rfl rfl rfl ?_
        refine U.r (o := _) rfl (.take 24 true 46 _ hb19 rfl rfl rfl) rfl rfl (by exact Rd.ix T rfl rfl rfl rfl rfl rfl hx16) ?_
        refine U.pg 4 24 true 46 hb19 T rfl rfl rfl rfl ?_
        refine U.r (o := _) rfl (.take 16 false 38 _ hb18 rfl rfl rfl) rfl rfl (by exact Rd.pk rfl rfl hb19 rfl) ?_
        refine U.r (o := _) rfl (.none rfl) rfl rfl (by exact Rd.pk' rfl rfl hb18 rfl) ?_
        refine U.done ?_
        exact St.wk (hJ15 _ hm) (Wk.mk' [] rfl rfl (.eqs rfl) trivial rfl)
       ·refine U.sks 7 24 true 46 hb19 rfl rfl rfl ?_
        refine U.r (o := _) rfl (.take 16 false 38 _ hb18 rfl rfl rfl) rfl rfl (by exact Rd.pk' rfl rfl hb19 rfl) ?_
        refine U.r (o := _) rfl (.none rfl) rfl rfl (by exact Rd.pk' rfl rfl hb18 rfl) ?_
        refine U.done ?_
        exact St.wk (hJ15 _ hm) (Wk.mk' [] rfl rfl (.eqs rfl) trivial rfl)
     ·refine U.sks 7 7 true 29 hb17 rfl rfl rfl ?_
      refine U.r (o := _) rfl (.none rfl) rfl rfl (by exact Rd.pk' rfl rfl hb17 rfl) ?_
      refine U.ps 1 T rfl ?_
      refine U.pg 2 16 false 38 rfl T rfl rfl rfl rfl ?_
      refine U.r (o := _) rfl (.take 16 false 38 _ rfl rfl rfl rfl) rfl rfl (by exact Rd.ix T rfl rfl rfl rfl rfl rfl hx16) ?_
      refine U.pg 5 16 false 38 rfl T rfl rfl rfl rfl ?_
      refine hm.cs (fun hb20 hm => ?_) (fun hb20 hm => ?_)
      ·refine U.pg 2 24 true 46 hb20 T rfl rfl rfl rfl ?_
       refine U.r (o := _) rfl (.take 24 true 46 _ hb20 rfl rfl rfl) rfl rfl (by exact Rd.ix T rfl rfl rfl rfl rfl rfl hx16) ?_
       refine U.pg 4 24 true 46 hb20 T rfl rfl rfl rfl ?_
       refine U.r (o := _) rfl (.take 16 false 38 _ rfl rfl rfl rfl) rfl rfl (by exact Rd.pk rfl rfl hb20 rfl) ?_
       refine U.r (o := _) rfl (.none rfl) rfl rfl (by exact Rd.pk' rfl rfl rfl rfl) ?_
       refine U.done ?_
       exact St.wk (hJ15 _ hm) (Wk.mk' [] rfl rfl (.eqs rfl) trivial rfl)
      ·refine U.sks 7 24 true 46 hb20 rfl rfl rfl ?_
       refine U.r (o := _) rfl (.take 16 false 38 _ rfl rfl rfl rfl) rfl rfl (by exact Rd.pk' rfl rfl hb20 rfl) ?_
       refine U.r (o := _) rfl (.none rfl) rfl rfl (by exact Rd.pk' rfl rfl rfl rfl) ?_
       refine U.done ?_
       exact St.wk (hJ15 _ hm) (Wk.mk' [] rfl rfl (.eqs rfl) trivial rfl)
   ·refine C.exit (C.ex (C.ex (C.bex ?_)))
    exact St.wk (hJ6 _ hm) (Wk.mk' [] rfl rfl trivial trivial rfl)
  ·refine U.start ?_
   refine U.ps 5 T rfl ?_
   refine hm.cs (fun hb11 hm => ?_) (fun hb11 hm => ?_)
   ·refine U.pg 2 4 true 12 hb11 T rfl rfl rfl rfl ?_
    refine U.r (o := _) rfl (.none rfl) rfl rfl (by exact Rd.pk rfl rfl hb11 rfl) ?_
    refine U.ps 1 T rfl ?_
    refine hm.cs (fun hb12 hm => ?_) (fun hb12 hm => ?_)
    ·refine U.sks 2 8 true 16 (ntF hb12) rfl rfl rfl ?_
     refine U.r (o := _) rfl (.none rfl) rfl rfl (by exact Rd.pk' rfl rfl (ntF hb12) rfl) ?_
     refine U.done ?_
     exact St.wk (hJ10 _ hm) (Wk.mk' [] rfl rfl (.eqs rfl) trivial rfl)
    ·refine U.pg 2 8 true 16 (ntT hb12) T rfl rfl rfl rfl ?_
     refine U.r (o := _) rfl (.none rfl) rfl rfl (by exact Rd.pk rfl rfl (ntT hb12) rfl) ?_
     refine U.done ?_
     exact St.wk (hJ10 _ hm) (Wk.mk' [] rfl rfl (.eqs rfl) trivial rfl)
   ·refine U.sks 2 4 true 12 hb11 rfl rfl rfl ?_
    refine U.r (o := _) rfl (.none rfl) rfl rfl (by exact Rd.pk' rfl rfl hb11 rfl) ?_
    refine U.ps 1 T rfl ?_
    refine U.sks 2 8 true 16 rfl rfl rfl rfl ?_
    refine U.r (o := _) rfl (.none rfl) rfl rfl (by exact Rd.pk' rfl rfl rfl rfl) ?_
    refine U.done ?_
    exact St.wk (hJ10 _ hm) (Wk.mk' [] rfl rfl (.eqs rfl) trivial rfl)
theorem T_taquinref11_stands (kind : Int) (post : Bool → Prop) (hm : V_taquinref11_stands kind post) :
    Tr Try.prog 43 [.i kind] [] 0 (fun A H' k => ∃ y, post y ∧ A = (.b y) ∧ H' = [] ∧ k = 0) := by
 refine Tr.intro (n := 9) Try.func43 rfl Try.ntmps43 rfl (fun w0 ok F β hβ => ?_)
 unfold V_taquinref11_stands at hm
 refine C.seq (U.start ?_)
 refine U.ps 1 T rfl ?_
 refine U.done (C.nx (C.seq ?_))
 refine C.jn (fun (x3 : Bool) => [(2, .b x3)]) (fun (x3 : Bool) => []) 0 hm (fun x3 hm => ?_) (fun J4 hm hJ4 => ?_)
 ·refine C.nx (C.ret ?_)
  exact C.fin T (rs' := [.b x3]) (H' := []) (nl' := 0) [] rfl rfl (.eq rfl) trivial rfl rfl rfl rfl hβ ⟨x3, hm, rfl, rfl, rfl⟩
 ·refine U.start ?_
  refine U.ps 3 T rfl ?_
  refine hm.cs (fun hb5 hm => ?_) (fun hb5 hm => ?_)
  ·refine U.sks 2 2 false 5 hb5 rfl rfl rfl ?_
   refine U.r (o := _) rfl (.none rfl) rfl rfl (by exact Rd.pk rfl rfl hb5 rfl) ?_
   refine U.ps 1 T rfl ?_
   refine U.done ?_
   exact St.wk (hJ4 _ hm) (Wk.mk' [] rfl rfl (.eqs rfl) trivial rfl)
  ·refine U.pg 2 2 false 5 hb5 T rfl rfl rfl rfl ?_
   refine U.r (o := _) rfl (.none rfl) rfl rfl (by exact Rd.pk' rfl rfl hb5 rfl) ?_
   refine U.ps 1 T rfl ?_
   refine U.done ?_
   exact St.wk (hJ4 _ hm) (Wk.mk' [] rfl rfl (.eqs rfl) trivial rfl)
theorem T_taquinref11_shelfAt (l : List ApiShelf) (c : Int) (post : Int → Prop) (hm : V_taquinref11_shelfAt l c post) :
    Tr Try.prog 44 [.sl 2 eApiShelf l, .i c] [] 0 (fun A H' k => ∃ y, post y ∧ A = (.i y) ∧ H' = [] ∧ k = 0) := by
 refine Tr.intro (n := 20) Try.func44 rfl Try.ntmps44 rfl (fun w0 ok F β hβ => ?_)
 unfold V_taquinref11_shelfAt at hm
 refine C.seq (U.start ?_)
 refine U.ps 1 T rfl ?_
 refine U.done (C.nx (C.seq (C.seq (U.start ?_))))
 refine U.ps 1 T rfl ?_
 refine U.done (C.nx ?_)
 refine C.jn (fun (x5 : Unit) => []) (fun (x5 : Unit) => []) 0 hm (fun x5 hm => ?_) (fun J6 hm hJ6 => ?_)
 ·refine C.nx (C.seq (U.start ?_))
  refine U.ps 1 T rfl ?_
  refine U.done (C.nx (C.ret ?_))
  exact C.fin T (rs' := [.i (-1)]) (H' := []) (nl' := 0) [] rfl rfl (.eq rfl) trivial rfl rfl rfl rfl hβ ⟨(-1), hm, rfl, rfl, rfl⟩
 ·refine C.block ?_
  refine St.wk (C.loop (fun (s7 : Int) => [(0, .sl 2 eApiShelf l), (1, .i c), (5, .i s7)]) (fun (s7 : Int) => []) hm (fun s7 Y8 hm => ?_)) (Wk.mk' [] rfl rfl (.eqs rfl) trivial rfl)
  refine C.seq (C.seq (U.start ?_))
  refine U.ps 4 T rfl ?_
  refine U.done (C.nx ?_)
  refine C.ite rfl hm (fun hb11 hm => ?_) (fun hb11 hm => ?_)
  ·refine C.skip (C.nx (C.seq (C.block (C.seq (U.start ?_)))))
   refine U.ps 2 T rfl ?_
   obtain ⟨x14, hx14, hm⟩ := hm
   refine U.r (o := _) rfl (.none rfl) rfl rfl (by exact Rd.ix T rfl rfl rfl rfl rfl rfl hx14) ?_
   refine U.ps 4 T rfl ?_
   refine U.done (C.nx ?_)
   refine C.ite rfl hm (fun hb15 hm => ?_) (fun hb15 hm => ?_)
   ·refine C.seq (U.start ?_)
    refine U.ps 2 T rfl ?_
    refine U.done (C.nx (C.ret (C.brt (C.rt (C.rt (C.brt (C.rt ?_)))))))
    exact C.fin T (rs' := [.i s7]) (H' := []) (nl' := 0) [] rfl rfl (.eq rfl) trivial rfl rfl rfl rfl hβ ⟨s7, hm, rfl, rfl, rfl⟩
   ·refine C.skip (C.bnx (C.nx (U.start ?_)))
    refine U.ps 3 T rfl ?_
    refine U.done (C.nx ?_)
    exact St.wk (C.next hm) (Wk.mk' [] rfl rfl (.eqs rfl) trivial rfl)
  ·refine C.exit (C.ex (C.ex (C.bex ?_)))
   exact St.wk (hJ6 _ hm) (Wk.mk' [] rfl rfl trivial trivial rfl)
theorem T_taquinref11_robotAt (l : List ApiStart) (c : Int) (post : Bool → Prop) (hm : V_taquinref11_robotAt l c post) :
    Tr Try.prog 45 [.sl 2 eApiStart l, .i c] [] 0 (fun A H' k => ∃ y, post y ∧ A = (.b y) ∧ H' = [] ∧ k = 0) := by
 refine Tr.intro (n := 19) Try.func45 rfl Try.ntmps45 rfl (fun w0 ok F β hβ => ?_)
 unfold V_taquinref11_robotAt at hm
 refine C.seq (U.start ?_)
 refine U.ps 1 T rfl ?_
 refine U.done (C.nx (C.seq (C.seq (U.start ?_))))
 refine U.ps 1 T rfl ?_
 refine U.done (C.nx ?_)
 refine C.jn (fun (x5 : Unit) => []) (fun (x5 : Unit) => []) 0 hm (fun x5 hm => ?_) (fun J6 hm hJ6 => ?_)
 ·refine C.nx (C.seq (U.start ?_))
  refine U.ps 1 T rfl ?_
  refine U.done (C.nx (C.ret ?_))
  exact C.fin T (rs' := [.b false]) (H' := []) (nl' := 0) [] rfl rfl (.eq rfl) trivial rfl rfl rfl rfl hβ ⟨false, hm, rfl, rfl, rfl⟩
 ·refine C.block ?_
  refine St.wk (C.loop (fun (s7 : Int) => [(0, .sl 2 eApiStart l), (1, .i c), (5, .i s7)]) (fun (s7 : Int) => []) hm (fun s7 Y8 hm => ?_)) (Wk.mk' [] rfl rfl (.eqs rfl) trivial rfl)
  refine C.seq (C.seq (U.start ?_))
  refine U.ps 4 T rfl ?_
  refine U.done (C.nx ?_)
  refine C.ite rfl hm (fun hb11 hm => ?_) (fun hb11 hm => ?_)
  ·refine C.skip (C.nx (C.seq (C.block (C.seq (U.start ?_)))))
   refine U.ps 2 T rfl ?_
   obtain ⟨x14, hx14, hm⟩ := hm
   refine U.r (o := _) rfl (.none rfl) rfl rfl (by exact Rd.ix T rfl rfl rfl rfl rfl rfl hx14) ?_
   refine U.ps 4 T rfl ?_
   refine U.done (C.nx ?_)
   refine C.ite rfl hm (fun hb15 hm => ?_) (fun hb15 hm => ?_)
   ·refine C.seq (U.start ?_)
    refine U.ps 1 T rfl ?_
    refine U.done (C.nx (C.ret (C.brt (C.rt (C.rt (C.brt (C.rt ?_)))))))
    exact C.fin T (rs' := [.b true]) (H' := []) (nl' := 0) [] rfl rfl (.eq rfl) trivial rfl rfl rfl rfl hβ ⟨true, hm, rfl, rfl, rfl⟩
   ·refine C.skip (C.bnx (C.nx (U.start ?_)))
    refine U.ps 3 T rfl ?_
    refine U.done (C.nx ?_)
    exact St.wk (C.next hm) (Wk.mk' [] rfl rfl (.eqs rfl) trivial rfl)
  ·refine C.exit (C.ex (C.ex (C.bex ?_)))
   exact St.wk (hJ6 _ hm) (Wk.mk' [] rfl rfl trivial trivial rfl)
theorem T_taquinref11_blanks (s_1 : ApiSite) (z : ApiZone) (post : Int → Prop) (hm : V_taquinref11_blanks s_1 z post) :
    Tr Try.prog 46 [.agg (eApiSite s_1), .agg (eApiZone z)] [] 0 (fun A H' k => ∃ y, post y ∧ A = (.i y) ∧ H' = [] ∧ k = 0) := by
 refine Tr.intro (n := 39) Try.func46 rfl Try.ntmps46 rfl (fun w0 ok F β hβ => ?_)
 unfold V_taquinref11_blanks at hm
 refine C.seq (U.start ?_)
 refine U.e1 (o := _) rfl (.none rfl) (by exact Eff1.box rfl rfl rfl rfl rfl) ?_
 refine U.e1 (o := _) rfl (.none rfl) (by exact Eff1.box rfl rfl rfl rfl rfl) ?_
 refine U.ps 1 T rfl ?_
 refine U.done (C.nx (C.seq (U.start ?_)))
 refine U.ps 1 T rfl ?_
 refine U.done (C.nx (C.seq (C.seq (U.start ?_))))
 refine U.ps 1 T rfl ?_
 refine U.done (C.nx ?_)
 refine C.jn (fun (x7 : Int) => [(5, .i x7)]) (fun (x7 : Int) => []) 0 hm (fun x7 hm => ?_) (fun J8 hm hJ8 => ?_)
 ·refine C.nx (C.seq (U.start ?_))
  refine U.ps 2 T rfl ?_
  refine U.done (C.nx (C.ret ?_))
  exact C.fin T (rs' := [.i x7]) (H' := []) (nl' := 0) [] rfl rfl (.eq rfl) trivial rfl rfl rfl rfl hβ ⟨x7, hm, rfl, rfl, rfl⟩
 ·refine C.block ?_
  refine St.wk (C.loop (fun (s9 : Int × Int) => [(2, .p 0 0), (3, .p 1 0), (5, .i s9.1), (6, .i s9.2)]) (fun (s9 : Int × Int) => [(0, .box (eApiSite s_1)), (1, .box (eApiZone z))]) hm (fun s9 Y10 hm => ?_)) (Wk.mk' [some 0, some 1] rfl rfl (.eqs rfl) ⟨⟨_, rfl, .box rfl (.eq rfl)⟩, ⟨_, rfl, .box rfl (.eq rfl)⟩, trivial⟩ rfl)
  refine C.seq (C.seq (U.start ?_))
  refine U.ps 5 T rfl ?_
  refine U.done (C.nx ?_)
  refine C.ite rfl hm (fun hb13 hm => ?_) (fun hb13 hm => ?_)
  ·refine C.skip (C.nx (C.seq (C.block (C.seq ?_))))
   refine C.jn (fun (x14 : Bool) => [(2, .p 0 0), (3, .p 1 0), (5, .i s9.1), (6, .i s9.2), (35, .b x14)]) (fun (x14 : Bool) => [(0, .box (eApiSite s_1)), (1, .box (eApiZone z))]) 2 hm (fun x14 hm => ?_) (fun J15 hm hJ15 => ?_)
   ·refine C.nx ?_
    refine C.jn (fun (x21 : Int) => [(2, .p 0 0), (3, .p 1 0), (5, .i x21), (6, .i s9.2)]) (fun (x21 : Int) => [(0, .box (eApiSite s_1)), (1, .box (eApiZone z))]) 2 hm (fun x21 hm => ?_) (fun J22 hm hJ22 => ?_)
    ·refine C.bnx (C.nx (U.start ?_))
     refine U.ps 3 T rfl ?_
     refine U.done (C.nx ?_)
     exact St.wk (C.next hm) (Wk.mk' [some 0, some 1] rfl rfl (.eqs rfl) ⟨⟨_, rfl, .box rfl (.eq rfl)⟩, ⟨_, rfl, .box rfl (.eq rfl)⟩, trivial⟩ rfl)
    ·refine C.ite rfl hm (fun hb23 hm => ?_) (fun hb23 hm => ?_)
     ·refine U.start ?_
      refine U.ps 3 T rfl ?_
      refine U.done ?_
      exact St.wk (hJ22 _ hm) (Wk.mk' [some 0, some 1] rfl rfl (.eqs rfl) ⟨⟨_, rfl, .box rfl (.eq rfl)⟩, ⟨_, rfl, .box rfl (.eq rfl)⟩, trivial⟩ rfl)
     ·refine C.skip ?_
      exact St.wk (hJ22 _ hm) (Wk.mk' [some 0, some 1] rfl rfl (.eqs rfl) ⟨⟨_, rfl, .box rfl (.eq rfl)⟩, ⟨_, rfl, .box rfl (.eq rfl)⟩, trivial⟩ rfl)
   ·refine D.beg 9999 [0, 1] [] mix rfl rfl (by kernel_rfl) (by repeat (first | exact NoPanicQ.body | refine NoPanicQ.th ?_ | refine NoPanicQ.blk ?_)) (fun hQ hS ws M' => ?_)
    refine D.ps 6 [(0, []), (1, []), (2, []), (3, []), (4, []), (5, [])] rfl hQ hS T rfl rfl (by kernel_rfl) ?_
    obtain ⟨x16, hx16, hm⟩ := hm
    refine D.q (o := _) 6 [] hQ hS rfl (.none rfl) rfl rfl (by exact Rd.ix T rfl rfl rfl rfl rfl rfl hx16) rfl (by kernel_rfl) ?_
    refine D.ps 1 [(7, [])] rfl hQ hS T rfl rfl (by kernel_rfl) ?_
    obtain ⟨x17, hx17, hm⟩ := hm
    refine D.q (o := _) 8 [] hQ hS rfl (.none rfl) rfl rfl (by exact Rd.ix T rfl rfl rfl rfl rfl rfl hx17) rfl (by kernel_rfl) ?_
    refine D.ps 1 [(9, [])] rfl hQ hS T rfl rfl (by kernel_rfl) ?_
    refine D.e (o := _) 10 rfl (.none rfl) (by exact Eff.c [] (v := true) (T_taquinref11_stands x17 _ hm) en43 rfl rfl rfl (.eq rfl) trivial rfl rfl rfl rfl rfl rfl (fun _ _ => ⟨(.v _), trivial⟩) (.inr ⟨rfl, rfl⟩) (fun _ => rfl) (fun _ => rfl) rfl) (by kernel_rfl) rfl rfl (fun x18' hm => ?_)
    obtain ⟨x18⟩ := x18'
    refine D.ps 1 [(11, [])] rfl hQ hS T rfl rfl (by kernel_rfl) ?_
    refine hm.cs (fun hb19 hm => ?_) (fun hb19 hm => ?_)
    ·refine D.q (o := _) 12 [] hQ hS rfl (.take 11 true 25 _ hb19 rfl rfl rfl) rfl rfl (by exact Rd.p T rfl) rfl (by kernel_rfl) ?_
     refine D.q (o := _) 13 [] hQ hS rfl (.take 11 true 25 _ hb19 rfl rfl rfl) rfl rfl (by exact Rd.l T rfl rfl rfl) rfl (by kernel_rfl) ?_
     refine D.q (o := _) 14 [] hQ hS rfl (.take 11 true 25 _ hb19 rfl rfl rfl) rfl rfl (by exact Rd.p T rfl) rfl (by kernel_rfl) ?_
     refine D.q (o := _) 15 [] hQ hS rfl (.take 11 true 25 _ hb19 rfl rfl rfl) rfl rfl (by exact Rd.l T rfl rfl rfl) rfl (by kernel_rfl) ?_
     refine D.q (o := _) 16 [] hQ hS rfl (.take 11 true 25 _ hb19 rfl rfl rfl) rfl rfl (by exact Rd.p T rfl) rfl (by kernel_rfl) ?_
     refine D.q (o := _) 17 [] hQ hS rfl (.take 11 true 25 _ hb19 rfl rfl rfl) rfl rfl (by exact Rd.ix T rfl rfl rfl rfl rfl rfl hx16) rfl (by kernel_rfl) ?_
     refine D.q (o := _) 18 [] hQ hS rfl (.take 11 true 25 _ hb19 rfl rfl rfl) rfl rfl (by exact Rd.l T rfl rfl rfl) rfl (by kernel_rfl) ?_
     refine D.e (o := _) 19 rfl (.take 11 true 25 _ hb19 rfl rfl rfl) (by exact Eff.c [] (v := true) (T_taquinref11_shelfAt s_1.Shelves x16 _ hm) en44 rfl rfl rfl (.eq rfl) trivial rfl rfl rfl rfl rfl rfl (fun _ _ => ⟨(.v _), trivial⟩) (.inr ⟨rfl, rfl⟩) (fun _ => rfl) (fun _ => rfl) rfl) (by kernel_rfl) rfl rfl (fun x20' hm => ?_)
     obtain ⟨x20⟩ := x20'
     refine D.q (o := _) 20 [] hQ hS rfl (.take 11 true 25 _ hb19 rfl rfl rfl) rfl rfl (by exact Rd.p T rfl) rfl (by kernel_rfl) ?_
     refine D.q (o := _) 21 [] hQ hS rfl (.none rfl) rfl rfl (by exact Rd.pk rfl rfl hb19 rfl) rfl (by kernel_rfl) ?_
     refine D.done (by kernel_rfl) ?_
     exact St.wk (hJ15 _ hm) (Wk.mk' [some 0, some 1] rfl rfl (.eqs rfl) ⟨⟨_, rfl, .box rfl (.eq rfl)⟩, ⟨_, rfl, .box rfl (.eq rfl)⟩, trivial⟩ rfl)
    ·refine D.sq (o := _) 12 [] hQ hS rfl (.skip 11 true 25 _ hb19 rfl rfl rfl) rfl rfl (by kernel_rfl) ?_
     refine D.sq (o := _) 13 [] hQ hS rfl (.skip 11 true 25 _ hb19 rfl rfl rfl) rfl rfl (by kernel_rfl) ?_
     refine D.sq (o := _) 14 [] hQ hS rfl (.skip 11 true 25 _ hb19 rfl rfl rfl) rfl rfl (by kernel_rfl) ?_
     refine D.sq (o := _) 15 [] hQ hS rfl (.skip 11 true 25 _ hb19 rfl rfl rfl) rfl rfl (by kernel_rfl) ?_
     refine D.sq (o := _) 16 [] hQ hS rfl (.skip 11 true 25 _ hb19 rfl rfl rfl) rfl rfl (by kernel_rfl) ?_
     refine D.sq (o := _) 17 [] hQ hS rfl (.skip 11 true 25 _ hb19 rfl rfl rfl) rfl rfl (by kernel_rfl) ?_
     refine D.sq (o := _) 18 [] hQ hS rfl (.skip 11 true 25 _ hb19 rfl rfl rfl) rfl rfl (by kernel_rfl) ?_
     refine D.sq (o := _) 19 [] hQ hS rfl (.skip 11 true 25 _ hb19 rfl rfl rfl) rfl rfl (by kernel_rfl) ?_
     refine D.sq (o := _) 20 [] hQ hS rfl (.skip 11 true 25 _ hb19 rfl rfl rfl) rfl rfl (by kernel_rfl) ?_
     refine D.q (o := _) 21 [] hQ hS rfl (.none rfl) rfl rfl (by exact Rd.pk' rfl rfl hb19 rfl) rfl (by kernel_rfl) ?_
     refine D.done (by kernel_rfl) ?_
     exact St.wk (hJ15 _ hm) (Wk.mk' [some 0, some 1] rfl rfl (.eqs rfl) ⟨⟨_, rfl, .box rfl (.eq rfl)⟩, ⟨_, rfl, .box rfl (.eq rfl)⟩, trivial⟩ rfl)
  ·refine C.exit (C.ex (C.ex (C.bex ?_)))
   exact St.wk (hJ8 _ hm) (Wk.mk' [] rfl rfl (.eqs rfl) trivial rfl)
theorem T_taquinref07_At (f : ApiFloor) (c : Int) (post : (Int × Int × Int) → Prop) (hm : V_taquinref07_At f c post) :
    Tr Try.prog 75 [.agg (eApiFloor f), .i c] [] 0 (fun A H' k => ∃ y, post y ∧ A = (.tup [.i y.1, .i y.2.1, .i y.2.2]) ∧ H' = [] ∧ k = 0) := by
 refine Tr.intro (n := 29) Try.func75 rfl Try.ntmps75 rfl (fun w0 ok F β hβ => ?_)
 unfold V_taquinref07_At at hm
 refine C.seq (U.start ?_)
 refine U.e1 (o := _) rfl (.none rfl) (by exact Eff1.box rfl rfl rfl rfl rfl) ?_
 refine U.ps 3 T rfl ?_
 refine U.done (C.nx (C.seq (C.seq (U.start ?_))))
 refine U.ps 2 T rfl ?_
 refine U.e (o := _) rfl (.none rfl) (by exact Eff.c [] (v := true) (T_taquinref07_Is f c _ hm) en34 rfl rfl rfl (.eq rfl) trivial rfl rfl rfl rfl rfl rfl (fun _ _ => ⟨(.v _), trivial⟩) (.inr ⟨rfl, rfl⟩) (fun _ => rfl) (fun _ => rfl) rfl) (fun x5' hm => ?_)
 obtain ⟨x5⟩ := x5'
 refine U.ps 1 T rfl ?_
 refine U.done (C.nx ?_)
 refine C.ite rfl hm (fun hb6 hm => ?_) (fun hb6 hm => ?_)
 ·refine C.seq (U.start ?_)
  refine U.ps 3 T rfl ?_
  refine U.done (C.nx (C.ret (C.rt ?_)))
  exact C.fin T (rs' := [.i ((0, 0, 0).1), .i ((0, 0, 0).2.1), .i ((0, 0, 0).2.2)]) (H' := []) (nl' := 0) [] rfl rfl (.eq rfl) trivial rfl rfl rfl rfl hβ ⟨(0, 0, 0), hm, rfl, rfl, rfl⟩
 ·refine C.skip (C.nx (C.seq ?_))
  refine D.beg 9999 [0] [] mix rfl rfl (by kernel_rfl) (by repeat (first | exact NoPanicQ.body | refine NoPanicQ.th ?_ | refine NoPanicQ.blk ?_)) (fun hQ hS ws M' => ?_)
  refine D.ps 3 [(0, []), (1, []), (2, [])] rfl hQ hS T rfl rfl (by kernel_rfl) ?_
  obtain ⟨hx11, hm⟩ := hm
  refine D.q (o := _) 3 [] hQ hS rfl (.none rfl) rfl rfl (by exact Rd.rm rfl rfl rfl rfl hx11) rfl (by kernel_rfl) ?_
  refine D.ps 3 [(4, []), (5, []), (6, [])] rfl hQ hS T rfl rfl (by kernel_rfl) ?_
  obtain ⟨hx12, hm⟩ := hm
  refine D.q (o := _) 7 [] hQ hS rfl (.none rfl) rfl rfl (by exact Rd.dv rfl rfl rfl rfl hx12) rfl (by kernel_rfl) ?_
  refine D.ps 2 [(8, []), (9, [])] rfl hQ hS T rfl rfl (by kernel_rfl) ?_
  obtain ⟨hx13, hm⟩ := hm
  refine D.q (o := _) 10 [] hQ hS rfl (.none rfl) rfl rfl (by exact Rd.rm rfl rfl rfl rfl hx13) rfl (by kernel_rfl) ?_
  refine D.ps 3 [(11, []), (12, []), (13, [])] rfl hQ hS T rfl rfl (by kernel_rfl) ?_
  obtain ⟨hx14, hm⟩ := hm
  refine D.q (o := _) 14 [] hQ hS rfl (.none rfl) rfl rfl (by exact Rd.dv rfl rfl rfl rfl hx14) rfl (by kernel_rfl) ?_
  refine D.ps 2 [(15, []), (16, [])] rfl hQ hS T rfl rfl (by kernel_rfl) ?_
  obtain ⟨hx15, hm⟩ := hm
  refine D.q (o := _) 17 [] hQ hS rfl (.none rfl) rfl rfl (by exact Rd.dv rfl rfl rfl rfl hx15) rfl (by kernel_rfl) ?_
  refine D.ps 3 [(18, []), (19, []), (20, [])] rfl hQ hS T rfl rfl (by kernel_rfl) ?_
  refine D.done (by kernel_rfl) ?_
  refine C.nx (C.ret ?_)
  exact C.fin T (rs' := [.i ((c.tmod f.W, (w64 (c.tdiv f.W)).tmod f.H, w64 ((w64 (c.tdiv f.W)).tdiv f.H)).1), .i ((c.tmod f.W, (w64 (c.tdiv f.W)).tmod f.H, w64 ((w64 (c.tdiv f.W)).tdiv f.H)).2.1), .i ((c.tmod f.W, (w64 (c.tdiv f.W)).tmod f.H, w64 ((w64 (c.tdiv f.W)).tdiv f.H)).2.2)]) (H' := []) (nl' := 0) [] rfl rfl (.eq rfl) trivial rfl rfl rfl rfl hβ ⟨(c.tmod f.W, (w64 (c.tdiv f.W)).tmod f.H, w64 ((w64 (c.tdiv f.W)).tdiv f.H)), hm, rfl, rfl, rfl⟩
theorem T_taquinref07_Cell (f : ApiFloor) (x_1 : Int) (y_1 : Int) (z : Int) (post : Int → Prop) (hm : V_taquinref07_Cell f x_1 y_1 z post) :
    Tr Try.prog 76 [.agg (eApiFloor f), .i x_1, .i y_1, .i z] [] 0 (fun A H' k => ∃ y, post y ∧ A = (.i y) ∧ H' = [] ∧ k = 0) := by
 refine Tr.intro (n := 48) Try.func76 rfl Try.ntmps76 rfl (fun w0 ok F β hβ => ?_)
 unfold V_taquinref07_Cell at hm
 refine C.seq (U.start ?_)
 refine U.e1 (o := _) rfl (.none rfl) (by exact Eff1.box rfl rfl rfl rfl rfl) ?_
 refine U.ps 1 T rfl ?_
 refine U.done (C.nx (C.seq (C.seq ?_)))
 refine C.jn (fun (x3 : Bool) => [(1, .i x_1), (2, .i y_1), (3, .i z), (4, .p 0 0), (36, .b x3)]) (fun (x3 : Bool) => [(0, .box (eApiFloor f))]) 1 hm (fun x3 hm => ?_) (fun J4 hm hJ4 => ?_)
 ·refine C.nx ?_
  refine C.ite rfl hm (fun hb10 hm => ?_) (fun hb10 hm => ?_)
  ·refine C.seq (U.start ?_)
   refine U.ps 1 T rfl ?_
   refine U.done (C.nx (C.ret (C.rt ?_)))
   exact C.fin T (rs' := [.i (-1)]) (H' := []) (nl' := 0) [] rfl rfl (.eq rfl) trivial rfl rfl rfl rfl hβ ⟨(-1), hm, rfl, rfl, rfl⟩
  ·refine C.skip (C.nx (C.seq (U.start ?_)))
   refine U.ps 12 T rfl ?_
   refine U.done (C.nx (C.ret ?_))
   exact C.fin T (rs' := [.i (w64 ((w64 ((w64 ((w64 (z * f.H)) + y_1)) * f.W)) + x_1))]) (H' := []) (nl' := 0) [] rfl rfl (.eq rfl) trivial rfl rfl rfl rfl hβ ⟨w64 ((w64 ((w64 ((w64 (z * f.H)) + y_1)) * f.W)) + x_1), hm, rfl, rfl, rfl⟩
 ·refine U.start ?_
  refine U.ps 3 T rfl ?_
  refine hm.cs (fun hb5 hm => ?_) (fun hb5 hm => ?_)
  ·refine U.sks 4 2 false 11 hb5 rfl rfl rfl ?_
   refine U.r (o := _) rfl (.none rfl) rfl rfl (by exact Rd.pk rfl rfl hb5 rfl) ?_
   refine U.ps 1 T rfl ?_
   refine U.sks 2 8 false 17 rfl rfl rfl rfl ?_
   refine U.r (o := _) rfl (.none rfl) rfl rfl (by exact Rd.pk rfl rfl rfl rfl) ?_
   refine U.ps 1 T rfl ?_
   refine U.sks 4 12 false 21 rfl rfl rfl rfl ?_
   refine U.r (o := _) rfl (.none rfl) rfl rfl (by exact Rd.pk rfl rfl rfl rfl) ?_
   refine U.ps 1 T rfl ?_
   refine U.sks 2 18 false 27 rfl rfl rfl rfl ?_
   refine U.r (o := _) rfl (.none rfl) rfl rfl (by exact Rd.pk rfl rfl rfl rfl) ?_
   refine U.ps 1 T rfl ?_
   refine U.sks 4 22 false 31 rfl rfl rfl rfl ?_
   refine U.r (o := _) rfl (.none rfl) rfl rfl (by exact Rd.pk rfl rfl rfl rfl) ?_
   refine U.done ?_
   exact St.wk (hJ4 _ hm) (Wk.mk' [some 0] rfl rfl (.eqs rfl) ⟨⟨_, rfl, .box rfl (.eq rfl)⟩, trivial⟩ rfl)
  ·refine U.pg 4 2 false 11 hb5 T rfl rfl rfl rfl ?_
   refine U.r (o := _) rfl (.none rfl) rfl rfl (by exact Rd.pk' rfl rfl hb5 rfl) ?_
   refine U.ps 1 T rfl ?_
   refine hm.cs (fun hb6 hm => ?_) (fun hb6 hm => ?_)
   ·refine U.sks 2 8 false 17 hb6 rfl rfl rfl ?_
    refine U.r (o := _) rfl (.none rfl) rfl rfl (by exact Rd.pk rfl rfl hb6 rfl) ?_
    refine U.ps 1 T rfl ?_
    refine U.sks 4 12 false 21 rfl rfl rfl rfl ?_
    refine U.r (o := _) rfl (.none rfl) rfl rfl (by exact Rd.pk rfl rfl rfl rfl) ?_
    refine U.ps 1 T rfl ?_
    refine U.sks 2 18 false 27 rfl rfl rfl rfl ?_
    refine U.r (o := _) rfl (.none rfl) rfl rfl (by exact Rd.pk rfl rfl rfl rfl) ?_
    refine U.ps 1 T rfl ?_
    refine U.sks 4 22 false 31 rfl rfl rfl rfl ?_
    refine U.r (o := _) rfl (.none rfl) rfl rfl (by exact Rd.pk rfl rfl rfl rfl) ?_
    refine U.done ?_
    exact St.wk (hJ4 _ hm) (Wk.mk' [some 0] rfl rfl (.eqs rfl) ⟨⟨_, rfl, .box rfl (.eq rfl)⟩, trivial⟩ rfl)
   ·refine U.pg 2 8 false 17 hb6 T rfl rfl rfl rfl ?_
    refine U.r (o := _) rfl (.none rfl) rfl rfl (by exact Rd.pk' rfl rfl hb6 rfl) ?_
    refine U.ps 1 T rfl ?_
    refine hm.cs (fun hb7 hm => ?_) (fun hb7 hm => ?_)
    ·refine U.sks 4 12 false 21 hb7 rfl rfl rfl ?_
     refine U.r (o := _) rfl (.none rfl) rfl rfl (by exact Rd.pk rfl rfl hb7 rfl) ?_
     refine U.ps 1 T rfl ?_
     refine U.sks 2 18 false 27 rfl rfl rfl rfl ?_
     refine U.r (o := _) rfl (.none rfl) rfl rfl (by exact Rd.pk rfl rfl rfl rfl) ?_
     refine U.ps 1 T rfl ?_
     refine U.sks 4 22 false 31 rfl rfl rfl rfl ?_
     refine U.r (o := _) rfl (.none rfl) rfl rfl (by exact Rd.pk rfl rfl rfl rfl) ?_
     refine U.done ?_
     exact St.wk (hJ4 _ hm) (Wk.mk' [some 0] rfl rfl (.eqs rfl) ⟨⟨_, rfl, .box rfl (.eq rfl)⟩, trivial⟩ rfl)
    ·refine U.pg 4 12 false 21 hb7 T rfl rfl rfl rfl ?_
     refine U.r (o := _) rfl (.none rfl) rfl rfl (by exact Rd.pk' rfl rfl hb7 rfl) ?_
     refine U.ps 1 T rfl ?_
     refine hm.cs (fun hb8 hm => ?_) (fun hb8 hm => ?_)
     ·refine U.sks 2 18 false 27 hb8 rfl rfl rfl ?_
      refine U.r (o := _) rfl (.none rfl) rfl rfl (by exact Rd.pk rfl rfl hb8 rfl) ?_
      refine U.ps 1 T rfl ?_
      refine U.sks 4 22 false 31 rfl rfl rfl rfl ?_
      refine U.r (o := _) rfl (.none rfl) rfl rfl (by exact Rd.pk rfl rfl rfl rfl) ?_
      refine U.done ?_
      exact St.wk (hJ4 _ hm) (Wk.mk' [some 0] rfl rfl (.eqs rfl) ⟨⟨_, rfl, .box rfl (.eq rfl)⟩, trivial⟩ rfl)
     ·refine U.pg 2 18 false 27 hb8 T rfl rfl rfl rfl ?_
      refine U.r (o := _) rfl (.none rfl) rfl rfl (by exact Rd.pk' rfl rfl hb8 rfl) ?_
      refine U.ps 1 T rfl ?_
      refine hm.cs (fun hb9 hm => ?_) (fun hb9 hm => ?_)
      ·refine U.sks 4 22 false 31 hb9 rfl rfl rfl ?_
       refine U.r (o := _) rfl (.none rfl) rfl rfl (by exact Rd.pk rfl rfl hb9 rfl) ?_
       refine U.done ?_
       exact St.wk (hJ4 _ hm) (Wk.mk' [some 0] rfl rfl (.eqs rfl) ⟨⟨_, rfl, .box rfl (.eq rfl)⟩, trivial⟩ rfl)
      ·refine U.pg 4 22 false 31 hb9 T rfl rfl rfl rfl ?_
       refine U.r (o := _) rfl (.none rfl) rfl rfl (by exact Rd.pk' rfl rfl hb9 rfl) ?_
       refine U.done ?_
       exact St.wk (hJ4 _ hm) (Wk.mk' [some 0] rfl rfl (.eqs rfl) ⟨⟨_, rfl, .box rfl (.eq rfl)⟩, trivial⟩ rfl)
theorem T_taquinref07_Beside (f : ApiFloor) (c : Int) (d : Int) (post : Int → Prop) (hm : V_taquinref07_Beside f c d post) :
    Tr Try.prog 58 [.agg (eApiFloor f), .i c, .i d] [] 0 (fun A H' k => ∃ y, post y ∧ A = (.i y) ∧ H' = [] ∧ k = 0) := by
 refine Tr.intro (n := 70) Try.func58 rfl Try.ntmps58 rfl (fun w0 ok F β hβ => ?_)
 unfold V_taquinref07_Beside at hm
 refine C.seq (U.start ?_)
 refine U.e1 (o := _) rfl (.none rfl) (by exact Eff1.box rfl rfl rfl rfl rfl) ?_
 refine U.ps 1 T rfl ?_
 refine U.done (C.nx (C.seq (C.seq (U.start ?_))))
 refine U.ps 2 T rfl ?_
 refine U.e (o := _) rfl (.none rfl) (by exact Eff.c [] (v := true) (T_taquinref07_Is f c _ hm) en34 rfl rfl rfl (.eq rfl) trivial rfl rfl rfl rfl rfl rfl (fun _ _ => ⟨(.v _), trivial⟩) (.inr ⟨rfl, rfl⟩) (fun _ => rfl) (fun _ => rfl) rfl) (fun x5' hm => ?_)
 obtain ⟨x5⟩ := x5'
 refine U.ps 1 T rfl ?_
 refine U.done (C.nx ?_)
 refine C.ite rfl hm (fun hb6 hm => ?_) (fun hb6 hm => ?_)
 ·refine C.seq (U.start ?_)
  refine U.ps 1 T rfl ?_
  refine U.done (C.nx (C.ret (C.rt ?_)))
  exact C.fin T (rs' := [.i (-1)]) (H' := []) (nl' := 0) [] rfl rfl (.eq rfl) trivial rfl rfl rfl rfl hβ ⟨(-1), hm, rfl, rfl, rfl⟩
 ·refine C.skip (C.nx (C.seq (U.start ?_)))
  refine U.ps 2 T rfl ?_
  refine U.e (o := _) rfl (.none rfl) (by exact Eff.c [] (v := true) (T_taquinref07_At f c _ hm) en75 rfl rfl rfl (.eq rfl) trivial rfl rfl rfl rfl rfl rfl (fun _ _ => ⟨(.tup (.cons (.v _) (.cons (.v _) (.cons (.v _) .nil)))), trivial⟩) (.inr ⟨rfl, rfl⟩) (fun _ => rfl) (fun _ => rfl) rfl) (fun x11' hm => ?_)
  obtain ⟨x11⟩ := x11'
  refine U.ps 7 T rfl ?_
  refine U.done (C.nx (C.seq (C.seq (U.start ?_))))
  refine U.ps 1 T rfl ?_
  refine U.done (C.nx (C.block (C.seq (U.start ?_))))
  refine U.ps 2 T rfl ?_
  refine U.done (C.nx ?_)
  refine C.ite rfl hm (fun hb16 hm => ?_) (fun hb16 hm => ?_)
  ·refine C.seq (U.start ?_)
   refine U.ps 5 T rfl ?_
   refine U.e (o := _) rfl (.none rfl) (by exact Eff.c [] (v := true) (T_taquinref07_Cell f (w64 (x11.1 + 1)) x11.2.1 x11.2.2 _ hm) en76 rfl rfl rfl (.eq rfl) trivial rfl rfl rfl rfl rfl rfl (fun _ _ => ⟨(.v _), trivial⟩) (.inr ⟨rfl, rfl⟩) (fun _ => rfl) (fun _ => rfl) rfl) (fun x19' hm => ?_)
   obtain ⟨x19⟩ := x19'
   refine U.ps 1 T rfl ?_
   refine U.done (C.nx (C.ret (C.brt (C.rt ?_))))
   exact C.fin T (rs' := [.i x19]) (H' := []) (nl' := 0) [] rfl rfl (.eq rfl) trivial rfl rfl rfl rfl hβ ⟨x19, hm, rfl, rfl, rfl⟩
  ·refine C.seq (U.start ?_)
   refine U.ps 2 T rfl ?_
   refine U.done (C.nx ?_)
   refine C.ite rfl hm (fun hb22 hm => ?_) (fun hb22 hm => ?_)
   ·refine C.seq (U.start ?_)
    refine U.ps 5 T rfl ?_
    refine U.e (o := _) rfl (.none rfl) (by exact Eff.c [] (v := true) (T_taquinref07_Cell f x11.1 (w64 (x11.2.1 + 1)) x11.2.2 _ hm) en76 rfl rfl rfl (.eq rfl) trivial rfl rfl rfl rfl rfl rfl (fun _ _ => ⟨(.v _), trivial⟩) (.inr ⟨rfl, rfl⟩) (fun _ => rfl) (fun _ => rfl) rfl) (fun x25' hm => ?_)
    obtain ⟨x25⟩ := x25'
    refine U.ps 1 T rfl ?_
    refine U.done (C.nx (C.ret (C.brt (C.rt ?_))))
    exact C.fin T (rs' := [.i x25]) (H' := []) (nl' := 0) [] rfl rfl (.eq rfl) trivial rfl rfl rfl rfl hβ ⟨x25, hm, rfl, rfl, rfl⟩
   ·refine C.seq (U.start ?_)
    refine U.ps 2 T rfl ?_
    refine U.done (C.nx ?_)
    refine C.ite rfl hm (fun hb28 hm => ?_) (fun hb28 hm => ?_)
    ·refine C.seq (U.start ?_)
     refine U.ps 5 T rfl ?_
     refine U.e (o := _) rfl (.none rfl) (by exact Eff.c [] (v := true) (T_taquinref07_Cell f (w64 (x11.1 - 1)) x11.2.1 x11.2.2 _ hm) en76 rfl rfl rfl (.eq rfl) trivial rfl rfl rfl rfl rfl rfl (fun _ _ => ⟨(.v _), trivial⟩) (.inr ⟨rfl, rfl⟩) (fun _ => rfl) (fun _ => rfl) rfl) (fun x31' hm => ?_)
     obtain ⟨x31⟩ := x31'
     refine U.ps 1 T rfl ?_
     refine U.done (C.nx (C.ret (C.brt (C.rt ?_))))
     exact C.fin T (rs' := [.i x31]) (H' := []) (nl' := 0) [] rfl rfl (.eq rfl) trivial rfl rfl rfl rfl hβ ⟨x31, hm, rfl, rfl, rfl⟩
    ·refine C.seq (U.start ?_)
     refine U.ps 2 T rfl ?_
     refine U.done (C.nx ?_)
     refine C.ite rfl hm (fun hb34 hm => ?_) (fun hb34 hm => ?_)
     ·refine C.seq (U.start ?_)
      refine U.ps 5 T rfl ?_
      refine U.e (o := _) rfl (.none rfl) (by exact Eff.c [] (v := true) (T_taquinref07_Cell f x11.1 (w64 (x11.2.1 - 1)) x11.2.2 _ hm) en76 rfl rfl rfl (.eq rfl) trivial rfl rfl rfl rfl rfl rfl (fun _ _ => ⟨(.v _), trivial⟩) (.inr ⟨rfl, rfl⟩) (fun _ => rfl) (fun _ => rfl) rfl) (fun x37' hm => ?_)
      obtain ⟨x37⟩ := x37'
      refine U.ps 1 T rfl ?_
      refine U.done (C.nx (C.ret (C.brt (C.rt ?_))))
      exact C.fin T (rs' := [.i x37]) (H' := []) (nl' := 0) [] rfl rfl (.eq rfl) trivial rfl rfl rfl rfl hβ ⟨x37, hm, rfl, rfl, rfl⟩
     ·refine C.seq (U.start ?_)
      refine U.ps 2 T rfl ?_
      refine U.done (C.nx ?_)
      refine C.ite rfl hm (fun hb40 hm => ?_) (fun hb40 hm => ?_)
      ·refine C.seq (U.start ?_)
       refine U.ps 5 T rfl ?_
       refine U.e (o := _) rfl (.none rfl) (by exact Eff.c [] (v := true) (T_taquinref07_Cell f x11.1 x11.2.1 (w64 (x11.2.2 + 1)) _ hm) en76 rfl rfl rfl (.eq rfl) trivial rfl rfl rfl rfl rfl rfl (fun _ _ => ⟨(.v _), trivial⟩) (.inr ⟨rfl, rfl⟩) (fun _ => rfl) (fun _ => rfl) rfl) (fun x43' hm => ?_)
       obtain ⟨x43⟩ := x43'
       refine U.ps 1 T rfl ?_
       refine U.done (C.nx (C.ret (C.brt (C.rt ?_))))
       exact C.fin T (rs' := [.i x43]) (H' := []) (nl' := 0) [] rfl rfl (.eq rfl) trivial rfl rfl rfl rfl hβ ⟨x43, hm, rfl, rfl, rfl⟩
      ·refine C.seq (U.start ?_)
       refine U.ps 2 T rfl ?_
       refine U.done (C.nx ?_)
       refine C.ite rfl hm (fun hb46 hm => ?_) (fun hb46 hm => ?_)
       ·refine C.seq (U.start ?_)
        refine U.ps 5 T rfl ?_
        refine U.e (o := _) rfl (.none rfl) (by exact Eff.c [] (v := true) (T_taquinref07_Cell f x11.1 x11.2.1 (w64 (x11.2.2 - 1)) _ hm) en76 rfl rfl rfl (.eq rfl) trivial rfl rfl rfl rfl rfl rfl (fun _ _ => ⟨(.v _), trivial⟩) (.inr ⟨rfl, rfl⟩) (fun _ => rfl) (fun _ => rfl) rfl) (fun x49' hm => ?_)
        obtain ⟨x49⟩ := x49'
        refine U.ps 1 T rfl ?_
        refine U.done (C.nx (C.ret (C.brt (C.rt ?_))))
        exact C.fin T (rs' := [.i x49]) (H' := []) (nl' := 0) [] rfl rfl (.eq rfl) trivial rfl rfl rfl rfl hβ ⟨x49, hm, rfl, rfl, rfl⟩
       ·refine C.skip (C.bnx (C.nx (C.seq (U.start ?_))))
        refine U.ps 1 T rfl ?_
        refine U.done (C.nx (C.ret ?_))
        exact C.fin T (rs' := [.i (-1)]) (H' := []) (nl' := 0) [] rfl rfl (.eq rfl) trivial rfl rfl rfl rfl hβ ⟨(-1), hm, rfl, rfl, rfl⟩
theorem T_taquinref11_Beside (s_1 : ApiSite) (post : Int → Prop) (hm : V_taquinref11_Beside s_1 post) :
    Tr Try.prog 47 [.agg (eApiSite s_1)] [] 0 (fun A H' k => ∃ y, post y ∧ A = (.i y) ∧ H' = [] ∧ k = 0) := by
 refine Tr.intro (n := 62) Try.func47 rfl Try.ntmps47 rfl (fun w0 ok F β hβ => ?_)
 unfold V_taquinref11_Beside at hm
 refine C.seq (U.start ?_)
 refine U.e1 (o := _) rfl (.none rfl) (by exact Eff1.box rfl rfl rfl rfl rfl) ?_
 refine U.ps 1 T rfl ?_
 refine U.done (C.nx (C.seq (C.seq (U.start ?_))))
 refine U.ps 1 T rfl ?_
 refine U.done (C.nx ?_)
 refine C.jn (fun (x5 : Unit) => []) (fun (x5 : Unit) => []) 0 hm (fun x5 hm => ?_) (fun J6 hm hJ6 => ?_)
 ·refine C.nx (C.seq (U.start ?_))
  refine U.ps 1 T rfl ?_
  refine U.done (C.nx (C.ret ?_))
  exact C.fin T (rs' := [.i (-1)]) (H' := []) (nl' := 0) [] rfl rfl (.eq rfl) trivial rfl rfl rfl rfl hβ ⟨(-1), hm, rfl, rfl, rfl⟩
 ·refine C.block ?_
  refine St.wk (C.loop (fun (s7 : Int) => [(1, .p 0 0), (3, .i s7)]) (fun (s7 : Int) => [(0, .box (eApiSite s_1))]) hm (fun s7 Y8 hm => ?_)) (Wk.mk' [some 0] rfl rfl (.eqs rfl) ⟨⟨_, rfl, .box rfl (.eq rfl)⟩, trivial⟩ rfl)
  refine C.seq (C.seq (U.start ?_))
  refine U.ps 5 T rfl ?_
  refine U.done (C.nx ?_)
  refine C.ite rfl hm (fun hb11 hm => ?_) (fun hb11 hm => ?_)
  ·refine C.skip (C.nx (C.seq ?_))
   refine C.jn (fun (x12 : Unit) => [(1, .p 0 0), (3, .i s7)]) (fun (x12 : Unit) => [(0, .box (eApiSite s_1))]) 1 hm (fun x12 hm => ?_) (fun J13 hm hJ13 => ?_)
   ·refine C.nx (U.start ?_)
    refine U.ps 3 T rfl ?_
    refine U.done (C.nx ?_)
    exact St.wk (C.next hm) (Wk.mk' [some 0] rfl rfl (.eqs rfl) ⟨⟨_, rfl, .box rfl (.eq rfl)⟩, trivial⟩ rfl)
   ·refine C.block (C.seq (U.start ?_))
    refine U.ps 1 T rfl ?_
    refine U.done (C.nx ?_)
    refine C.jn (fun (x16 : Unit) => [(1, .p 0 0), (3, .i s7)]) (fun (x16 : Unit) => [(0, .box (eApiSite s_1))]) 1 hm (fun x16 hm => ?_) (fun J17 hm hJ17 => ?_)
    ·refine C.bnx ?_
     exact St.wk (hJ13 _ hm) (Wk.mk' [some 0] rfl rfl (.eqs rfl) ⟨⟨_, rfl, .box rfl (.eq rfl)⟩, trivial⟩ rfl)
    ·refine C.block ?_
     refine St.wk (C.loop (fun (s18 : Int) => [(1, .p 0 0), (3, .i s7), (4, .i s18)]) (fun (s18 : Int) => [(0, .box (eApiSite s_1))]) hm (fun s18 Y19 hm => ?_)) (Wk.mk' [some 0] rfl rfl (.eqs rfl) ⟨⟨_, rfl, .box rfl (.eq rfl)⟩, trivial⟩ rfl)
     refine C.seq (C.seq (U.start ?_))
     refine U.ps 2 T rfl ?_
     refine U.done (C.nx ?_)
     refine C.ite rfl hm (fun hb22 hm => ?_) (fun hb22 hm => ?_)
     ·refine C.skip (C.nx (C.seq (C.block (C.seq ?_))))
      refine D.beg 9999 [0] [] mix rfl rfl (by kernel_rfl) (by repeat (first | exact NoPanicQ.body | refine NoPanicQ.th ?_ | refine NoPanicQ.blk ?_)) (fun hQ hS ws M' => ?_)
      refine D.ps 5 [(0, []), (1, []), (2, []), (3, []), (4, [])] rfl hQ hS T rfl rfl (by kernel_rfl) ?_
      obtain ⟨x25, hx25, hm⟩ := hm
      refine D.q (o := _) 5 [] hQ hS rfl (.none rfl) rfl rfl (by exact Rd.ix T rfl rfl rfl rfl rfl rfl hx25) rfl (by kernel_rfl) ?_
      refine D.ps 3 [(6, []), (7, []), (8, [])] rfl hQ hS T rfl rfl (by kernel_rfl) ?_
      refine D.e (o := _) 9 rfl (.none rfl) (by exact Eff.c [] (v := true) (T_taquinref07_Beside s_1.Floor x25.Cell s18 _ hm) en58 rfl rfl rfl (.eq rfl) trivial rfl rfl rfl rfl rfl rfl (fun _ _ => ⟨(.v _), trivial⟩) (.inr ⟨rfl, rfl⟩) (fun _ => rfl) (fun _ => rfl) rfl) (by kernel_rfl) rfl rfl (fun x26' hm => ?_)
      obtain ⟨x26⟩ := x26'
      refine D.ps 1 [(10, [])] rfl hQ hS T rfl rfl (by kernel_rfl) ?_
      refine D.done (by kernel_rfl) ?_
      refine C.nx (C.seq (U.start ?_))
      refine U.ps 3 T rfl ?_
      refine U.e (o := _) rfl (.none rfl) (by exact Eff.c [] (v := true) (T_taquinref11_shelfAt s_1.Shelves x26 _ hm) en44 rfl rfl rfl (.eq rfl) trivial rfl rfl rfl rfl rfl rfl (fun _ _ => ⟨(.v _), trivial⟩) (.inr ⟨rfl, rfl⟩) (fun _ => rfl) (fun _ => rfl) rfl) (fun x29' hm => ?_)
      obtain ⟨x29⟩ := x29'
      refine U.ps 1 T rfl ?_
      refine U.done (C.nx (C.seq ?_))
      refine C.jn (fun (x30 : Bool) => [(1, .p 0 0), (3, .i s7), (4, .i s18), (60, .b x30)]) (fun (x30 : Bool) => [(0, .box (eApiSite s_1))]) 1 hm (fun x30 hm => ?_) (fun J31 hm hJ31 => ?_)
      ·refine C.nx ?_
       refine C.ite rfl hm (fun hb37 hm => ?_) (fun hb37 hm => ?_)
       ·refine C.seq (U.start ?_)
        refine U.ps 2 T rfl ?_
        refine U.done (C.nx (C.ret (C.brt (C.rt (C.rt (C.brt (C.brt (C.rt (C.rt (C.brt (C.rt ?_)))))))))))
        exact C.fin T (rs' := [.i s7]) (H' := []) (nl' := 0) [] rfl rfl (.eq rfl) trivial rfl rfl rfl rfl hβ ⟨s7, hm, rfl, rfl, rfl⟩
       ·refine C.skip (C.bnx (C.nx (U.start ?_)))
        refine U.ps 3 T rfl ?_
        refine U.done (C.nx ?_)
        exact St.wk (C.next hm) (Wk.mk' [some 0] rfl rfl (.eqs rfl) ⟨⟨_, rfl, .box rfl (.eq rfl)⟩, trivial⟩ rfl)
      ·refine D.beg 9999 [0] [] mix rfl rfl (by kernel_rfl) (by repeat (first | exact NoPanicQ.body | refine NoPanicQ.th ?_ | refine NoPanicQ.blk ?_)) (fun hQ hS ws M' => ?_)
       refine D.ps 3 [(0, []), (1, []), (2, [])] rfl hQ hS T rfl rfl (by kernel_rfl) ?_
       refine hm.cs (fun hb32 hm => ?_) (fun hb32 hm => ?_)
       ·refine D.q (o := _) 3 [] hQ hS rfl (.take 2 true 34 _ hb32 rfl rfl rfl) rfl rfl (by exact Rd.p T rfl) rfl (by kernel_rfl) ?_
        refine D.q (o := _) 4 [] hQ hS rfl (.take 2 true 34 _ hb32 rfl rfl rfl) rfl rfl (by exact Rd.p T rfl) rfl (by kernel_rfl) ?_
        refine D.q (o := _) 5 [] hQ hS rfl (.none rfl) rfl rfl (by exact Rd.pk rfl rfl hb32 rfl) rfl (by kernel_rfl) ?_
        refine D.ps 1 [(6, [])] rfl hQ hS T rfl rfl (by kernel_rfl) ?_
        refine hm.cs (fun hb33 hm => ?_) (fun hb33 hm => ?_)
        ·refine D.q (o := _) 7 [] hQ hS rfl (.take 6 true 38 _ hb33 rfl rfl rfl) rfl rfl (by exact Rd.p T rfl) rfl (by kernel_rfl) ?_
         refine D.q (o := _) 8 [] hQ hS rfl (.take 6 true 38 _ hb33 rfl rfl rfl) rfl rfl (by exact Rd.p T rfl) rfl (by kernel_rfl) ?_
         refine D.q (o := _) 9 [] hQ hS rfl (.take 6 true 38 _ hb33 rfl rfl rfl) rfl rfl (by exact Rd.p T rfl) rfl (by kernel_rfl) ?_
         refine D.q (o := _) 10 [] hQ hS rfl (.none rfl) rfl rfl (by exact Rd.pk rfl rfl hb33 rfl) rfl (by kernel_rfl) ?_
         refine D.ps 1 [(11, [])] rfl hQ hS T rfl rfl (by kernel_rfl) ?_
         refine hm.cs (fun hb34 hm => ?_) (fun hb34 hm => ?_)
         ·refine D.q (o := _) 12 [] hQ hS rfl (.take 11 true 43 _ hb34 rfl rfl rfl) rfl rfl (by exact Rd.p T rfl) rfl (by kernel_rfl) ?_
          refine D.q (o := _) 13 [] hQ hS rfl (.take 11 true 43 _ hb34 rfl rfl rfl) rfl rfl (by exact Rd.l T rfl rfl rfl) rfl (by kernel_rfl) ?_
          refine D.q (o := _) 14 [] hQ hS rfl (.take 11 true 43 _ hb34 rfl rfl rfl) rfl rfl (by exact Rd.p T rfl) rfl (by kernel_rfl) ?_
          refine D.q (o := _) 15 [] hQ hS rfl (.take 11 true 43 _ hb34 rfl rfl rfl) rfl rfl (by exact Rd.l T rfl rfl rfl) rfl (by kernel_rfl) ?_
          refine D.q (o := _) 16 [] hQ hS rfl (.take 11 true 43 _ hb34 rfl rfl rfl) rfl rfl (by exact Rd.p T rfl) rfl (by kernel_rfl) ?_
          refine D.q (o := _) 17 [] hQ hS rfl (.take 11 true 43 _ hb34 rfl rfl rfl) rfl rfl (by exact Rd.ix T rfl rfl rfl rfl rfl rfl hx25) rfl (by kernel_rfl) ?_
          refine D.q (o := _) 18 [] hQ hS rfl (.take 11 true 43 _ hb34 rfl rfl rfl) rfl rfl (by exact Rd.p T rfl) rfl (by kernel_rfl) ?_
          refine D.q (o := _) 19 [] hQ hS rfl (.take 11 true 43 _ hb34 rfl rfl rfl) rfl rfl (by exact Rd.l T rfl rfl rfl) rfl (by kernel_rfl) ?_
          refine D.q (o := _) 20 [] hQ hS rfl (.take 11 true 43 _ hb34 rfl rfl rfl) rfl rfl (by exact Rd.p T rfl) rfl (by kernel_rfl) ?_
          refine D.q (o := _) 21 [] hQ hS rfl (.take 11 true 43 _ hb34 rfl rfl rfl) rfl rfl (by exact Rd.l T rfl rfl rfl) rfl (by kernel_rfl) ?_
          refine D.q (o := _) 22 [] hQ hS rfl (.take 11 true 43 _ hb34 rfl rfl rfl) rfl rfl (by exact Rd.p T rfl) rfl (by kernel_rfl) ?_
          refine D.q (o := _) 23 [] hQ hS rfl (.take 11 true 43 _ hb34 rfl rfl rfl) rfl rfl (by exact Rd.p T rfl) rfl (by kernel_rfl) ?_
          obtain ⟨x35, hx35, hm⟩ := hm
          refine D.q (o := _) 24 [] hQ hS rfl (.take 11 true 43 _ hb34 rfl rfl rfl) rfl rfl (by exact Rd.ix T rfl rfl rfl rfl rfl rfl hx35) rfl (by kernel_rfl) ?_
          refine D.q (o := _) 25 [] hQ hS rfl (.take 11 true 43 _ hb34 rfl rfl rfl) rfl rfl (by exact Rd.p T rfl) rfl (by kernel_rfl) ?_
          refine D.q (o := _) 26 [] hQ hS rfl (.take 11 true 43 _ hb34 rfl rfl rfl) rfl rfl (by exact Rd.l T rfl rfl rfl) rfl (by kernel_rfl) ?_
          refine D.e (o := _) 27 rfl (.take 11 true 43 _ hb34 rfl rfl rfl) (by exact Eff.c [] (v := true) (T_taquinref11_Apart s_1.Aparts x25.Class x35.Class _ hm) en42 rfl rfl rfl (.eq rfl) trivial rfl rfl rfl rfl rfl rfl (fun _ _ => ⟨(.v _), trivial⟩) (.inr ⟨rfl, rfl⟩) (fun _ => rfl) (fun _ => rfl) rfl) (by kernel_rfl) rfl rfl (fun x36' hm => ?_)
          obtain ⟨x36⟩ := x36'
          refine D.q (o := _) 28 [] hQ hS rfl (.none rfl) rfl rfl (by exact Rd.pk rfl rfl hb34 rfl) rfl (by kernel_rfl) ?_
          refine D.done (by kernel_rfl) ?_
          exact St.wk (hJ31 _ hm) (Wk.mk' [some 0] rfl rfl (.eqs rfl) ⟨⟨_, rfl, .box rfl (.eq rfl)⟩, trivial⟩ rfl)
         ·refine D.sq (o := _) 12 [] hQ hS rfl (.skip 11 true 43 _ hb34 rfl rfl rfl) rfl rfl (by kernel_rfl) ?_
          refine D.sq (o := _) 13 [] hQ hS rfl (.skip 11 true 43 _ hb34 rfl rfl rfl) rfl rfl (by kernel_rfl) ?_
          refine D.sq (o := _) 14 [] hQ hS rfl (.skip 11 true 43 _ hb34 rfl rfl rfl) rfl rfl (by kernel_rfl) ?_
          refine D.sq (o := _) 15 [] hQ hS rfl (.skip 11 true 43 _ hb34 rfl rfl rfl) rfl rfl (by kernel_rfl) ?_
          refine D.sq (o := _) 16 [] hQ hS rfl (.skip 11 true 43 _ hb34 rfl rfl rfl) rfl rfl (by kernel_rfl) ?_
          refine D.sq (o := _) 17 [] hQ hS rfl (.skip 11 true 43 _ hb34 rfl rfl rfl) rfl rfl (by kernel_rfl) ?_
          refine D.sq (o := _) 18 [] hQ hS rfl (.skip 11 true 43 _ hb34 rfl rfl rfl) rfl rfl (by kernel_rfl) ?_
          refine D.sq (o := _) 19 [] hQ hS rfl (.skip 11 true 43 _ hb34 rfl rfl rfl) rfl rfl (by kernel_rfl) ?_
          refine D.sq (o := _) 20 [] hQ hS rfl (.skip 11 true 43 _ hb34 rfl rfl rfl) rfl rfl (by kernel_rfl) ?_
          refine D.sq (o := _) 21 [] hQ hS rfl (.skip 11 true 43 _ hb34 rfl rfl rfl) rfl rfl (by kernel_rfl) ?_
          refine D.sq (o := _) 22 [] hQ hS rfl (.skip 11 true 43 _ hb34 rfl rfl rfl) rfl rfl (by kernel_rfl) ?_
          refine D.sq (o := _) 23 [] hQ hS rfl (.skip 11 true 43 _ hb34 rfl rfl rfl) rfl rfl (by kernel_rfl) ?_
          refine D.sq (o := _) 24 [] hQ hS rfl (.skip 11 true 43 _ hb34 rfl rfl rfl) rfl rfl (by kernel_rfl) ?_
          refine D.sq (o := _) 25 [] hQ hS rfl (.skip 11 true 43 _ hb34 rfl rfl rfl) rfl rfl (by kernel_rfl) ?_
          refine D.sq (o := _) 26 [] hQ hS rfl (.skip 11 true 43 _ hb34 rfl rfl rfl) rfl rfl (by kernel_rfl) ?_
          refine D.sq (o := _) 27 [] hQ hS rfl (.skip 11 true 43 _ hb34 rfl rfl rfl) rfl rfl (by kernel_rfl) ?_
          refine D.q (o := _) 28 [] hQ hS rfl (.none rfl) rfl rfl (by exact Rd.pk' rfl rfl hb34 rfl) rfl (by kernel_rfl) ?_
          refine D.done (by kernel_rfl) ?_
          exact St.wk (hJ31 _ hm) (Wk.mk' [some 0] rfl rfl (.eqs rfl) ⟨⟨_, rfl, .box rfl (.eq rfl)⟩, trivial⟩ rfl)
        ·refine D.sq (o := _) 7 [] hQ hS rfl (.skip 6 true 38 _ hb33 rfl rfl rfl) rfl rfl (by kernel_rfl) ?_
         refine D.sq (o := _) 8 [] hQ hS rfl (.skip 6 true 38 _ hb33 rfl rfl rfl) rfl rfl (by kernel_rfl) ?_
         refine D.sq (o := _) 9 [] hQ hS rfl (.skip 6 true 38 _ hb33 rfl rfl rfl) rfl rfl (by kernel_rfl) ?_
         refine D.q (o := _) 10 [] hQ hS rfl (.none rfl) rfl rfl (by exact Rd.pk' rfl rfl hb33 rfl) rfl (by kernel_rfl) ?_
         refine D.ps 1 [(11, [])] rfl hQ hS T rfl rfl (by kernel_rfl) ?_
         refine D.sq (o := _) 12 [] hQ hS rfl (.skip 11 true 43 _ rfl rfl rfl rfl) rfl rfl (by kernel_rfl) ?_
         refine D.sq (o := _) 13 [] hQ hS rfl (.skip 11 true 43 _ rfl rfl rfl rfl) rfl rfl (by kernel_rfl) ?_
         refine D.sq (o := _) 14 [] hQ hS rfl (.skip 11 true 43 _ rfl rfl rfl rfl) rfl rfl (by kernel_rfl) ?_
         refine D.sq (o := _) 15 [] hQ hS rfl (.skip 11 true 43 _ rfl rfl rfl rfl) rfl rfl (by kernel_rfl) ?_
         refine D.sq (o := _) 16 [] hQ hS rfl (.skip 11 true 43 _ rfl rfl rfl rfl) rfl rfl (by kernel_rfl) ?_
         refine D.sq (o := _) 17 [] hQ hS rfl (.skip 11 true 43 _ rfl rfl rfl rfl) rfl rfl (by kernel_rfl) ?_
         refine D.sq (o := _) 18 [] hQ hS rfl (.skip 11 true 43 _ rfl rfl rfl rfl) rfl rfl (by kernel_rfl) ?_
         refine D.sq (o := _) 19 [] hQ hS rfl (.skip 11 true 43 _ rfl rfl rfl rfl) rfl rfl (by kernel_rfl) ?_
         refine D.sq (o := _) 20 [] hQ hS rfl (.skip 11 true 43 _ rfl rfl rfl rfl) rfl rfl (by kernel_rfl) ?_
         refine D.sq (o := _) 21 [] hQ hS rfl (.skip 11 true 43 _ rfl rfl rfl rfl) rfl rfl (by kernel_rfl) ?_
         refine D.sq (o := _) 22 [] hQ hS rfl (.skip 11 true 43 _ rfl rfl rfl rfl) rfl rfl (by kernel_rfl) ?_
         refine D.sq (o := _) 23 [] hQ hS rfl (.skip 11 true 43 _ rfl rfl rfl rfl) rfl rfl (by kernel_rfl) ?_
         refine D.sq (o := _) 24 [] hQ hS rfl (.skip 11 true 43 _ rfl rfl rfl rfl) rfl rfl (by kernel_rfl) ?_
         refine D.sq (o := _) 25 [] hQ hS rfl (.skip 11 true 43 _ rfl rfl rfl rfl) rfl rfl (by kernel_rfl) ?_
         refine D.sq (o := _) 26 [] hQ hS rfl (.skip 11 true 43 _ rfl rfl rfl rfl) rfl rfl (by kernel_rfl) ?_
         refine D.sq (o := _) 27 [] hQ hS rfl (.skip 11 true 43 _ rfl rfl rfl rfl) rfl rfl (by kernel_rfl) ?_
         refine D.q (o := _) 28 [] hQ hS rfl (.none rfl) rfl rfl (by exact Rd.pk' rfl rfl rfl rfl) rfl (by kernel_rfl) ?_
         refine D.done (by kernel_rfl) ?_
         exact St.wk (hJ31 _ hm) (Wk.mk' [some 0] rfl rfl (.eqs rfl) ⟨⟨_, rfl, .box rfl (.eq rfl)⟩, trivial⟩ rfl)
       ·refine D.sq (o := _) 3 [] hQ hS rfl (.skip 2 true 34 _ hb32 rfl rfl rfl) rfl rfl (by kernel_rfl) ?_
        refine D.sq (o := _) 4 [] hQ hS rfl (.skip 2 true 34 _ hb32 rfl rfl rfl) rfl rfl (by kernel_rfl) ?_
        refine D.q (o := _) 5 [] hQ hS rfl (.none rfl) rfl rfl (by exact Rd.pk' rfl rfl hb32 rfl) rfl (by kernel_rfl) ?_
        refine D.ps 1 [(6, [])] rfl hQ hS T rfl rfl (by kernel_rfl) ?_
        refine D.sq (o := _) 7 [] hQ hS rfl (.skip 6 true 38 _ rfl rfl rfl rfl) rfl rfl (by kernel_rfl) ?_
        refine D.sq (o := _) 8 [] hQ hS rfl (.skip 6 true 38 _ rfl rfl rfl rfl) rfl rfl (by kernel_rfl) ?_
        refine D.sq (o := _) 9 [] hQ hS rfl (.skip 6 true 38 _ rfl rfl rfl rfl) rfl rfl (by kernel_rfl) ?_
        refine D.q (o := _) 10 [] hQ hS rfl (.none rfl) rfl rfl (by exact Rd.pk' rfl rfl rfl rfl) rfl (by kernel_rfl) ?_
        refine D.ps 1 [(11, [])] rfl hQ hS T rfl rfl (by kernel_rfl) ?_
        refine D.sq (o := _) 12 [] hQ hS rfl (.skip 11 true 43 _ rfl rfl rfl rfl) rfl rfl (by kernel_rfl) ?_
        refine D.sq (o := _) 13 [] hQ hS rfl (.skip 11 true 43 _ rfl rfl rfl rfl) rfl rfl (by kernel_rfl) ?_
        refine D.sq (o := _) 14 [] hQ hS rfl (.skip 11 true 43 _ rfl rfl rfl rfl) rfl rfl (by kernel_rfl) ?_
        refine D.sq (o := _) 15 [] hQ hS rfl (.skip 11 true 43 _ rfl rfl rfl rfl) rfl rfl (by kernel_rfl) ?_
        refine D.sq (o := _) 16 [] hQ hS rfl (.skip 11 true 43 _ rfl rfl rfl rfl) rfl rfl (by kernel_rfl) ?_
        refine D.sq (o := _) 17 [] hQ hS rfl (.skip 11 true 43 _ rfl rfl rfl rfl) rfl rfl (by kernel_rfl) ?_
        refine D.sq (o := _) 18 [] hQ hS rfl (.skip 11 true 43 _ rfl rfl rfl rfl) rfl rfl (by kernel_rfl) ?_
        refine D.sq (o := _) 19 [] hQ hS rfl (.skip 11 true 43 _ rfl rfl rfl rfl) rfl rfl (by kernel_rfl) ?_
        refine D.sq (o := _) 20 [] hQ hS rfl (.skip 11 true 43 _ rfl rfl rfl rfl) rfl rfl (by kernel_rfl) ?_
        refine D.sq (o := _) 21 [] hQ hS rfl (.skip 11 true 43 _ rfl rfl rfl rfl) rfl rfl (by kernel_rfl) ?_
        refine D.sq (o := _) 22 [] hQ hS rfl (.skip 11 true 43 _ rfl rfl rfl rfl) rfl rfl (by kernel_rfl) ?_
        refine D.sq (o := _) 23 [] hQ hS rfl (.skip 11 true 43 _ rfl rfl rfl rfl) rfl rfl (by kernel_rfl) ?_
        refine D.sq (o := _) 24 [] hQ hS rfl (.skip 11 true 43 _ rfl rfl rfl rfl) rfl rfl (by kernel_rfl) ?_
        refine D.sq (o := _) 25 [] hQ hS rfl (.skip 11 true 43 _ rfl rfl rfl rfl) rfl rfl (by kernel_rfl) ?_
        refine D.sq (o := _) 26 [] hQ hS rfl (.skip 11 true 43 _ rfl rfl rfl rfl) rfl rfl (by kernel_rfl) ?_
        refine D.sq (o := _) 27 [] hQ hS rfl (.skip 11 true 43 _ rfl rfl rfl rfl) rfl rfl (by kernel_rfl) ?_
        refine D.q (o := _) 28 [] hQ hS rfl (.none rfl) rfl rfl (by exact Rd.pk' rfl rfl rfl rfl) rfl (by kernel_rfl) ?_
        refine D.done (by kernel_rfl) ?_
        exact St.wk (hJ31 _ hm) (Wk.mk' [some 0] rfl rfl (.eqs rfl) ⟨⟨_, rfl, .box rfl (.eq rfl)⟩, trivial⟩ rfl)
     ·refine C.exit (C.ex (C.ex (C.bex ?_)))
      exact St.wk (hJ17 _ hm) (Wk.mk' [some 0] rfl rfl (.eqs rfl) ⟨⟨_, rfl, .box rfl (.eq rfl)⟩, trivial⟩ rfl)
  ·refine C.exit (C.ex (C.ex (C.bex ?_)))
   exact St.wk (hJ6 _ hm) (Wk.mk' [] rfl rfl trivial trivial rfl)
theorem T_taquinref11_charger (f : ApiFloor) (post : Bool → Prop) (hm : V_taquinref11_charger f post) :
    Tr Try.prog 48 [.agg (eApiFloor f)] [] 0 (fun A H' k => ∃ y, post y ∧ A = (.b y) ∧ H' = [] ∧ k = 0) := by
 refine Tr.intro (n := 6) Try.func48 rfl Try.ntmps48 rfl (fun w0 ok F β hβ => ?_)
 unfold V_taquinref11_charger at hm
 refine C.seq (U.start ?_)
 refine U.e1 (o := _) rfl (.none rfl) (by exact Eff1.box rfl rfl rfl rfl rfl) ?_
 refine U.ps 1 T rfl ?_
 refine U.done (C.nx (C.seq (U.start ?_)))
 refine U.ps 2 T rfl ?_
 refine U.e (o := _) rfl (.none rfl) (by exact Eff.c [] (v := true) (T_taquinref07_Has f.Kind 3 _ hm) en55 rfl rfl rfl (.eq rfl) trivial rfl rfl rfl rfl rfl rfl (fun _ _ => ⟨(.v _), trivial⟩) (.inr ⟨rfl, rfl⟩) (fun _ => rfl) (fun _ => rfl) rfl) (fun x5' hm => ?_)
 obtain ⟨x5⟩ := x5'
 refine U.ps 1 T rfl ?_
 refine U.done (C.nx (C.ret ?_))
 exact C.fin T (rs' := [.b x5]) (H' := []) (nl' := 0) [] rfl rfl (.eq rfl) trivial rfl rfl rfl rfl hβ ⟨x5, hm, rfl, rfl, rfl⟩
theorem T_taquinref11_Right (s_1 : ApiSite) (post : Bool → Prop) (hm : V_taquinref11_Right s_1 post) :
    Tr Try.prog 20 [.agg (eApiSite s_1)] [] 0 (fun A H' k => ∃ y, post y ∧ A = (.b y) ∧ H' = [] ∧ k = 0) := by
 refine Tr.intro (n := 186) Try.func20 rfl Try.ntmps20 rfl (fun w0 ok F β hβ => ?_)
 unfold V_taquinref11_Right at hm
 refine C.seq (U.start ?_)
 refine U.e1 (o := _) rfl (.none rfl) (by exact Eff1.box rfl rfl rfl rfl rfl) ?_
 refine U.ps 1 T rfl ?_
 refine U.done (C.nx (C.seq (C.seq ?_)))
 refine C.jn (fun (x3 : Bool) => [(1, .p 0 0), (30, .b x3)]) (fun (x3 : Bool) => [(0, .box (eApiSite s_1))]) 1 hm (fun x3 hm => ?_) (fun J4 hm hJ4 => ?_)
 ·refine C.nx ?_
  refine C.ite rfl hm (fun hb10 hm => ?_) (fun hb10 hm => ?_)
  ·refine C.seq (U.start ?_)
   refine U.ps 1 T rfl ?_
   refine U.done (C.nx (C.ret (C.rt ?_)))
   exact C.fin T (rs' := [.b false]) (H' := []) (nl' := 0) [] rfl rfl (.eq rfl) trivial rfl rfl rfl rfl hβ ⟨false, hm, rfl, rfl, rfl⟩
  ·refine C.skip (C.nx (C.seq (C.seq (U.start ?_))))
   refine U.ps 1 T rfl ?_
   refine U.done (C.nx ?_)
   refine C.jn (fun (x15 : Unit) => [(1, .p 0 0)]) (fun (x15 : Unit) => [(0, .box (eApiSite s_1))]) 1 hm (fun x15 hm => ?_) (fun J16 hm hJ16 => ?_)
   ·refine C.nx (C.seq (C.seq (U.start ?_)))
    refine U.ps 1 T rfl ?_
    refine U.done (C.nx ?_)
    refine C.jn (fun (x40 : Unit) => [(1, .p 0 0)]) (fun (x40 : Unit) => [(0, .box (eApiSite s_1))]) 1 hm (fun x40 hm => ?_) (fun J41 hm hJ41 => ?_)
    ·refine C.nx (C.seq (C.seq (U.start ?_)))
     refine U.ps 1 T rfl ?_
     refine U.done (C.nx ?_)
     refine C.jn (fun (x73 : Unit) => [(1, .p 0 0)]) (fun (x73 : Unit) => [(0, .box (eApiSite s_1))]) 1 hm (fun x73 hm => ?_) (fun J74 hm hJ74 => ?_)
     ·refine C.nx (C.seq (C.seq (U.start ?_)))
      refine U.ps 1 T rfl ?_
      refine U.done (C.nx ?_)
      refine C.jn (fun (x104 : Unit) => [(1, .p 0 0)]) (fun (x104 : Unit) => [(0, .box (eApiSite s_1))]) 1 hm (fun x104 hm => ?_) (fun J105 hm hJ105 => ?_)
      ·refine C.nx (C.seq ?_)
       refine C.jn (fun (x120 : Bool) => [(2, .b x120)]) (fun (x120 : Bool) => []) 0 hm (fun x120 hm => ?_) (fun J121 hm hJ121 => ?_)
       ·refine C.nx (C.ret ?_)
        exact C.fin T (rs' := [.b x120]) (H' := []) (nl' := 0) [] rfl rfl (.eq rfl) trivial rfl rfl rfl rfl hβ ⟨x120, hm, rfl, rfl, rfl⟩
       ·refine U.start ?_
        refine U.ps 1 T rfl ?_
        refine U.e (o := _) rfl (.none rfl) (by exact Eff.c [] (v := true) (T_taquinref11_Beside s_1 _ hm) en47 rfl rfl rfl (.eq rfl) trivial rfl rfl rfl rfl rfl rfl (fun _ _ => ⟨(.v _), trivial⟩) (.inr ⟨rfl, rfl⟩) (fun _ => rfl) (fun _ => rfl) rfl) (fun x122' hm => ?_)
        obtain ⟨x122⟩ := x122'
        refine U.ps 2 T rfl ?_
        refine hm.cs (fun hb123 hm => ?_) (fun hb123 hm => ?_)
        ·refine U.pg 2 3 true 181 hb123 T rfl rfl rfl rfl ?_
         refine U.e (o := _) rfl (.take 3 true 181 _ hb123 rfl rfl rfl) (by exact Eff.c [] (v := true) (T_taquinref11_charger s_1.Floor _ hm) en48 rfl rfl rfl (.eq rfl) trivial rfl rfl rfl rfl rfl rfl (fun _ _ => ⟨(.v _), trivial⟩) (.inr ⟨rfl, rfl⟩) (fun _ => rfl) (fun _ => rfl) rfl) (fun x124' hm => ?_)
         obtain ⟨x124⟩ := x124'
         refine U.r (o := _) rfl (.none rfl) rfl rfl (by exact Rd.pk rfl rfl hb123 rfl) ?_
         refine U.ps 1 T rfl ?_
         refine U.done ?_
         exact St.wk (hJ121 _ hm) (Wk.mk' [] rfl rfl (.eqs rfl) trivial rfl)
        ·refine U.sks 3 3 true 181 hb123 rfl rfl rfl ?_
         refine U.r (o := _) rfl (.none rfl) rfl rfl (by exact Rd.pk' rfl rfl hb123 rfl) ?_
         refine U.ps 1 T rfl ?_
         refine U.done ?_
         exact St.wk (hJ121 _ hm) (Wk.mk' [] rfl rfl (.eqs rfl) trivial rfl)
      ·refine C.block ?_
       refine St.wk (C.loop (fun (s106 : Int) => [(1, .p 0 0), (9, .i s106)]) (fun (s106 : Int) => [(0, .box (eApiSite s_1))]) hm (fun s106 Y107 hm => ?_)) (Wk.mk' [some 0] rfl rfl (.eqs rfl) ⟨⟨_, rfl, .box rfl (.eq rfl)⟩, trivial⟩ rfl)
       refine C.seq (C.seq (U.start ?_))
       refine U.ps 5 T rfl ?_
       refine U.done (C.nx ?_)
       refine C.ite rfl hm (fun hb110 hm => ?_) (fun hb110 hm => ?_)
       ·refine C.skip (C.nx (C.seq (C.block (C.seq ?_))))
        refine D.beg 9999 [0] [] mix rfl rfl (by kernel_rfl) (by repeat (first | exact NoPanicQ.body | refine NoPanicQ.th ?_ | refine NoPanicQ.blk ?_)) (fun hQ hS ws M' => ?_)
        refine D.ps 4 [(0, []), (1, []), (2, []), (3, [])] rfl hQ hS T rfl rfl (by kernel_rfl) ?_
        obtain ⟨x113, hx113, hm⟩ := hm
        refine D.q (o := _) 4 [] hQ hS rfl (.none rfl) rfl rfl (by exact Rd.ix T rfl rfl rfl rfl rfl rfl hx113) rfl (by kernel_rfl) ?_
        refine D.ps 4 [(5, []), (7, []), (8, []), (9, [])] rfl hQ hS T rfl rfl (by kernel_rfl) ?_
        refine D.q (o := _) 10 [] hQ hS rfl (.none rfl) rfl rfl (by exact Rd.ix T rfl rfl rfl rfl rfl rfl hx113) rfl (by kernel_rfl) ?_
        refine D.ps 2 [(11, []), (12, [])] rfl hQ hS T rfl rfl (by kernel_rfl) ?_
        refine D.e (o := _) 6 rfl (.none rfl) (by exact Eff.c [] (v := true) (T_taquinref11_blanks s_1 x113 _ hm) en46 rfl rfl rfl (.eq rfl) trivial rfl rfl rfl rfl rfl rfl (fun _ _ => ⟨(.v _), trivial⟩) (.inr ⟨rfl, rfl⟩) (fun _ => rfl) (fun _ => rfl) rfl) (by kernel_rfl) rfl rfl (fun x114' hm => ?_)
        obtain ⟨x114⟩ := x114'
        refine D.ps 1 [(13, [])] rfl hQ hS T rfl rfl (by kernel_rfl) ?_
        refine D.done (by kernel_rfl) ?_
        refine C.nx ?_
        refine C.ite rfl hm (fun hb115 hm => ?_) (fun hb115 hm => ?_)
        ·refine C.seq (U.start ?_)
         refine U.ps 1 T rfl ?_
         refine U.done (C.nx (C.ret (C.brt (C.rt (C.rt (C.brt (C.rt ?_)))))))
         exact C.fin T (rs' := [.b false]) (H' := []) (nl' := 0) [] rfl rfl (.eq rfl) trivial rfl rfl rfl rfl hβ ⟨false, hm, rfl, rfl, rfl⟩
        ·refine C.skip (C.bnx (C.nx (U.start ?_)))
         refine U.ps 3 T rfl ?_
         refine U.done (C.nx ?_)
         exact St.wk (C.next hm) (Wk.mk' [some 0] rfl rfl (.eqs rfl) ⟨⟨_, rfl, .box rfl (.eq rfl)⟩, trivial⟩ rfl)
       ·refine C.exit (C.ex (C.ex (C.bex ?_)))
        exact St.wk (hJ105 _ hm) (Wk.mk' [some 0] rfl rfl (.eqs rfl) ⟨⟨_, rfl, .box rfl (.eq rfl)⟩, trivial⟩ rfl)
     ·refine C.block ?_
      refine St.wk (C.loop (fun (s75 : Int) => [(1, .p 0 0), (7, .i s75)]) (fun (s75 : Int) => [(0, .box (eApiSite s_1))]) hm (fun s75 Y76 hm => ?_)) (Wk.mk' [some 0] rfl rfl (.eqs rfl) ⟨⟨_, rfl, .box rfl (.eq rfl)⟩, trivial⟩ rfl)
      refine C.seq (C.seq (U.start ?_))
      refine U.ps 5 T rfl ?_
      refine U.done (C.nx ?_)
      refine C.ite rfl hm (fun hb79 hm => ?_) (fun hb79 hm => ?_)
      ·refine C.skip (C.nx (C.seq (C.block (C.seq (U.start ?_)))))
       refine U.ps 3 T rfl ?_
       obtain ⟨x82, hx82, hm⟩ := hm
       refine U.r (o := _) rfl (.none rfl) rfl rfl (by exact Rd.ix T rfl rfl rfl rfl rfl rfl hx82) ?_
       refine U.ps 1 T rfl ?_
       refine U.e1 (o := _) rfl (.none rfl) (by exact Eff1.al T rfl rfl rfl rfl) ?_
       refine U.e1 (o := _) rfl (.none rfl) (by exact Eff1.st T rfl rfl rfl rfl rfl rfl rfl rfl rfl rfl) ?_
       refine U.done (C.nx (C.seq (C.seq ?_)))
       refine C.jn (fun (x83 : Bool) => [(1, .p 0 0), (7, .i s75), (8, .p 1 0), (139, .b x83)]) (fun (x83 : Bool) => [(0, .box (eApiSite s_1)), (1, .box [.i x82.Cell, .i x82.Charge])]) 2 hm (fun x83 hm => ?_) (fun J84 hm hJ84 => ?_)
       ·refine C.nx ?_
        refine C.ite rfl hm (fun hb88 hm => ?_) (fun hb88 hm => ?_)
        ·refine C.seq (U.start ?_)
         refine U.ps 1 T rfl ?_
         refine U.done (C.nx (C.ret (C.rt (C.brt (C.rt (C.rt (C.brt (C.rt ?_))))))))
         exact C.fin T (rs' := [.b false]) (H' := []) (nl' := 0) [] rfl rfl (.eq rfl) trivial rfl rfl rfl rfl hβ ⟨false, hm, rfl, rfl, rfl⟩
        ·refine C.skip (C.nx (C.seq ?_))
         refine C.jn (fun (x91 : Bool) => [(1, .p 0 0), (7, .i s75), (156, .b x91)]) (fun (x91 : Bool) => [(0, .box (eApiSite s_1))]) 1 hm (fun x91 hm => ?_) (fun J92 hm hJ92 => ?_)
         ·refine C.nx ?_
          refine C.ite rfl hm (fun hb97 hm => ?_) (fun hb97 hm => ?_)
          ·refine C.seq (U.start ?_)
           refine U.ps 1 T rfl ?_
           refine U.done (C.nx (C.ret (C.brt (C.rt (C.rt (C.brt (C.rt ?_)))))))
           exact C.fin T (rs' := [.b false]) (H' := []) (nl' := 0) [] rfl rfl (.eq rfl) trivial rfl rfl rfl rfl hβ ⟨false, hm, rfl, rfl, rfl⟩
          ·refine C.skip (C.bnx (C.nx (U.start ?_)))
           refine U.ps 3 T rfl ?_
           refine U.done (C.nx ?_)
           exact St.wk (C.next hm) (Wk.mk' [some 0] rfl rfl (.eqs rfl) ⟨⟨_, rfl, .box rfl (.eq rfl)⟩, trivial⟩ rfl)
         ·refine D.beg 9999 [0, 1] [] mix rfl rfl (by kernel_rfl) (by repeat (first | exact NoPanicQ.body | refine NoPanicQ.th ?_ | refine NoPanicQ.blk ?_)) (fun hQ hS ws M' => ?_)
          refine D.ps 5 [(0, []), (1, []), (2, []), (3, []), (4, [])] rfl hQ hS T rfl rfl (by kernel_rfl) ?_
          obtain ⟨x93, hx93, hm⟩ := hm
          refine D.q (o := _) 5 [] hQ hS rfl (.none rfl) rfl rfl (by exact Rd.ix T rfl rfl rfl rfl rfl rfl hx93) rfl (by kernel_rfl) ?_
          refine D.ps 3 [(6, []), (7, []), (8, [])] rfl hQ hS T rfl rfl (by kernel_rfl) ?_
          refine hm.cs (fun hb94 hm => ?_) (fun hb94 hm => ?_)
          ·refine D.sq (o := _) 9 [] hQ hS rfl (.skip 8 false 148 _ hb94 rfl rfl rfl) rfl rfl (by kernel_rfl) ?_
           refine D.sq (o := _) 10 [] hQ hS rfl (.skip 8 false 148 _ hb94 rfl rfl rfl) rfl rfl (by kernel_rfl) ?_
           refine D.sq (o := _) 11 [] hQ hS rfl (.skip 8 false 148 _ hb94 rfl rfl rfl) rfl rfl (by kernel_rfl) ?_
           refine D.sq (o := _) 12 [] hQ hS rfl (.skip 8 false 148 _ hb94 rfl rfl rfl) rfl rfl (by kernel_rfl) ?_
           refine D.sq (o := _) 13 [] hQ hS rfl (.skip 8 false 148 _ hb94 rfl rfl rfl) rfl rfl (by kernel_rfl) ?_
           refine D.sq (o := _) 14 [] hQ hS rfl (.skip 8 false 148 _ hb94 rfl rfl rfl) rfl rfl (by kernel_rfl) ?_
           refine D.sq (o := _) 15 [] hQ hS rfl (.skip 8 false 148 _ hb94 rfl rfl rfl) rfl rfl (by kernel_rfl) ?_
           refine D.q (o := _) 16 [] hQ hS rfl (.none rfl) rfl rfl (by exact Rd.pk rfl rfl hb94 rfl) rfl (by kernel_rfl) ?_
           refine D.done (by kernel_rfl) ?_
           exact St.wk (hJ92 _ hm) (Wk.mk' [some 0] rfl rfl (.eqs rfl) ⟨⟨_, rfl, .box rfl (.eq rfl)⟩, trivial⟩ rfl)
          ·refine D.q (o := _) 9 [] hQ hS rfl (.take 8 false 148 _ hb94 rfl rfl rfl) rfl rfl (by exact Rd.p T rfl) rfl (by kernel_rfl) ?_
           refine D.q (o := _) 10 [] hQ hS rfl (.take 8 false 148 _ hb94 rfl rfl rfl) rfl rfl (by exact Rd.l T rfl rfl rfl) rfl (by kernel_rfl) ?_
           refine D.q (o := _) 11 [] hQ hS rfl (.take 8 false 148 _ hb94 rfl rfl rfl) rfl rfl (by exact Rd.p T rfl) rfl (by kernel_rfl) ?_
           obtain ⟨hx95, hm⟩ := hm
           refine D.q (o := _) 12 [] hQ hS rfl (.take 8 false 148 _ hb94 rfl rfl rfl) rfl rfl (by exact Rd.so T rfl rfl rfl rfl rfl (.none _) (.some _ rfl) hx95) rfl (by kernel_rfl) ?_
           refine D.q (o := _) 13 [] hQ hS rfl (.take 8 false 148 _ hb94 rfl rfl rfl) rfl rfl (by exact Rd.p T rfl) rfl (by kernel_rfl) ?_
           refine D.q (o := _) 14 [] hQ hS rfl (.take 8 false 148 _ hb94 rfl rfl rfl) rfl rfl (by exact Rd.l T rfl rfl rfl) rfl (by kernel_rfl) ?_
           refine D.e (o := _) 15 rfl (.take 8 false 148 _ hb94 rfl rfl rfl) (by exact Eff.c [] (v := true) (T_taquinref11_robotAt (sub s_1.Robots 0 s75) x82.Cell _ hm) en45 rfl rfl rfl (.eq rfl) trivial rfl rfl rfl rfl rfl rfl (fun _ _ => ⟨(.v _), trivial⟩) (.inr ⟨rfl, rfl⟩) (fun _ => rfl) (fun _ => rfl) rfl) (by kernel_rfl) rfl rfl (fun x96' hm => ?_)
           obtain ⟨x96⟩ := x96'
           refine D.q (o := _) 16 [] hQ hS rfl (.none rfl) rfl rfl (by exact Rd.pk' rfl rfl hb94 rfl) rfl (by kernel_rfl) ?_
           refine D.done (by kernel_rfl) ?_
           exact St.wk (hJ92 _ hm) (Wk.mk' [some 0] rfl rfl (.eqs rfl) ⟨⟨_, rfl, .box rfl (.eq rfl)⟩, trivial⟩ rfl)
       ·refine U.start ?_
        refine U.ps 4 T rfl ?_
        refine U.e (o := _) rfl (.none rfl) (by exact Eff.c [] (v := true) (T_taquinref07_Is s_1.Floor x82.Cell _ hm) en34 rfl rfl rfl (.eq rfl) trivial rfl rfl rfl rfl rfl rfl (fun _ _ => ⟨(.v _), trivial⟩) (.inr ⟨rfl, rfl⟩) (fun _ => rfl) (fun _ => rfl) rfl) (fun x85' hm => ?_)
        obtain ⟨x85⟩ := x85'
        refine U.ps 2 T rfl ?_
        refine hm.cs (fun hb86 hm => ?_) (fun hb86 hm => ?_)
        ·refine U.pg 3 6 false 130 (ntF hb86) T rfl rfl rfl rfl ?_
         refine U.r (o := _) rfl (.none rfl) rfl rfl (by exact Rd.pk' rfl rfl (ntF hb86) rfl) ?_
         refine U.ps 1 T rfl ?_
         refine hm.cs (fun hb87 hm => ?_) (fun hb87 hm => ?_)
         ·refine U.sks 3 11 false 135 hb87 rfl rfl rfl ?_
          refine U.r (o := _) rfl (.none rfl) rfl rfl (by exact Rd.pk rfl rfl hb87 rfl) ?_
          refine U.done ?_
          exact St.wk (hJ84 _ hm) (Wk.mk' [some 0, some 1] rfl rfl (.eqs rfl) ⟨⟨_, rfl, .box rfl (.eq rfl)⟩, ⟨_, rfl, .box rfl (.eq rfl)⟩, trivial⟩ rfl)
         ·refine U.pg 3 11 false 135 hb87 T rfl rfl rfl rfl ?_
          refine U.r (o := _) rfl (.none rfl) rfl rfl (by exact Rd.pk' rfl rfl hb87 rfl) ?_
          refine U.done ?_
          exact St.wk (hJ84 _ hm) (Wk.mk' [some 0, some 1] rfl rfl (.eqs rfl) ⟨⟨_, rfl, .box rfl (.eq rfl)⟩, ⟨_, rfl, .box rfl (.eq rfl)⟩, trivial⟩ rfl)
        ·refine U.sks 3 6 false 130 (ntT hb86) rfl rfl rfl ?_
         refine U.r (o := _) rfl (.none rfl) rfl rfl (by exact Rd.pk rfl rfl (ntT hb86) rfl) ?_
         refine U.ps 1 T rfl ?_
         refine U.sks 3 11 false 135 rfl rfl rfl rfl ?_
         refine U.r (o := _) rfl (.none rfl) rfl rfl (by exact Rd.pk rfl rfl rfl rfl) ?_
         refine U.done ?_
         exact St.wk (hJ84 _ hm) (Wk.mk' [some 0, some 1] rfl rfl (.eqs rfl) ⟨⟨_, rfl, .box rfl (.eq rfl)⟩, ⟨_, rfl, .box rfl (.eq rfl)⟩, trivial⟩ rfl)
      ·refine C.exit (C.ex (C.ex (C.bex ?_)))
       exact St.wk (hJ74 _ hm) (Wk.mk' [some 0] rfl rfl (.eqs rfl) ⟨⟨_, rfl, .box rfl (.eq rfl)⟩, trivial⟩ rfl)
    ·refine C.block ?_
     refine St.wk (C.loop (fun (s42 : Int) => [(1, .p 0 0), (5, .i s42)]) (fun (s42 : Int) => [(0, .box (eApiSite s_1))]) hm (fun s42 Y43 hm => ?_)) (Wk.mk' [some 0] rfl rfl (.eqs rfl) ⟨⟨_, rfl, .box rfl (.eq rfl)⟩, trivial⟩ rfl)
     refine C.seq (C.seq (U.start ?_))
     refine U.ps 5 T rfl ?_
     refine U.done (C.nx ?_)
     refine C.ite rfl hm (fun hb46 hm => ?_) (fun hb46 hm => ?_)
     ·refine C.skip (C.nx (C.seq (C.block (C.seq (U.start ?_)))))
      refine U.ps 3 T rfl ?_
      obtain ⟨x49, hx49, hm⟩ := hm
      refine U.r (o := _) rfl (.none rfl) rfl rfl (by exact Rd.ix T rfl rfl rfl rfl rfl rfl hx49) ?_
      refine U.ps 1 T rfl ?_
      refine U.e1 (o := _) rfl (.none rfl) (by exact Eff1.al T rfl rfl rfl rfl) ?_
      refine U.e1 (o := _) rfl (.none rfl) (by exact Eff1.st T rfl rfl rfl rfl rfl rfl rfl rfl rfl rfl) ?_
      refine U.done (C.nx (C.seq (C.seq ?_)))
      refine C.jn (fun (x50 : Bool) => [(1, .p 0 0), (5, .i s42), (6, .p 1 0), (92, .b x50)]) (fun (x50 : Bool) => [(0, .box (eApiSite s_1)), (1, .box [.i x49.Cell, .v (.string x49.Class)])]) 2 hm (fun x50 hm => ?_) (fun J51 hm hJ51 => ?_)
      ·refine C.nx ?_
       refine C.ite rfl hm (fun hb56 hm => ?_) (fun hb56 hm => ?_)
       ·refine C.seq (U.start ?_)
        refine U.ps 1 T rfl ?_
        refine U.done (C.nx (C.ret (C.rt (C.brt (C.rt (C.rt (C.brt (C.rt ?_))))))))
        exact C.fin T (rs' := [.b false]) (H' := []) (nl' := 0) [] rfl rfl (.eq rfl) trivial rfl rfl rfl rfl hβ ⟨false, hm, rfl, rfl, rfl⟩
       ·refine C.skip (C.nx (C.seq ?_))
        refine C.jn (fun (x59 : Bool) => [(1, .p 0 0), (5, .i s42), (111, .b x59)]) (fun (x59 : Bool) => [(0, .box (eApiSite s_1))]) 1 hm (fun x59 hm => ?_) (fun J60 hm hJ60 => ?_)
        ·refine C.nx ?_
         refine C.ite rfl hm (fun hb66 hm => ?_) (fun hb66 hm => ?_)
         ·refine C.seq (U.start ?_)
          refine U.ps 1 T rfl ?_
          refine U.done (C.nx (C.ret (C.brt (C.rt (C.rt (C.brt (C.rt ?_)))))))
          exact C.fin T (rs' := [.b false]) (H' := []) (nl' := 0) [] rfl rfl (.eq rfl) trivial rfl rfl rfl rfl hβ ⟨false, hm, rfl, rfl, rfl⟩
         ·refine C.skip (C.bnx (C.nx (U.start ?_)))
          refine U.ps 3 T rfl ?_
          refine U.done (C.nx ?_)
          exact St.wk (C.next hm) (Wk.mk' [some 0] rfl rfl (.eqs rfl) ⟨⟨_, rfl, .box rfl (.eq rfl)⟩, trivial⟩ rfl)
        ·refine D.beg 9999 [0, 1] [] mix rfl rfl (by kernel_rfl) (by repeat (first | exact NoPanicQ.body | refine NoPanicQ.th ?_ | refine NoPanicQ.blk ?_)) (fun hQ hS ws M' => ?_)
         refine D.ps 5 [(0, []), (1, []), (2, []), (3, []), (4, [])] rfl hQ hS T rfl rfl (by kernel_rfl) ?_
         obtain ⟨x61, hx61, hm⟩ := hm
         refine D.q (o := _) 5 [] hQ hS rfl (.none rfl) rfl rfl (by exact Rd.ix T rfl rfl rfl rfl rfl rfl hx61) rfl (by kernel_rfl) ?_
         refine D.ps 1 [(6, [])] rfl hQ hS T rfl rfl (by kernel_rfl) ?_
         refine D.e (o := _) 7 rfl (.none rfl) (by exact Eff.c [] (v := true) (T_taquinref11_stands x61 _ hm) en43 rfl rfl rfl (.eq rfl) trivial rfl rfl rfl rfl rfl rfl (fun _ _ => ⟨(.v _), trivial⟩) (.inr ⟨rfl, rfl⟩) (fun _ => rfl) (fun _ => rfl) rfl) (by kernel_rfl) rfl rfl (fun x62' hm => ?_)
         obtain ⟨x62⟩ := x62'
         refine D.ps 2 [(8, []), (9, [])] rfl hQ hS T rfl rfl (by kernel_rfl) ?_
         refine hm.cs (fun hb63 hm => ?_) (fun hb63 hm => ?_)
         ·refine D.q (o := _) 10 [] hQ hS rfl (.take 9 false 102 _ (ntF hb63) rfl rfl rfl) rfl rfl (by exact Rd.p T rfl) rfl (by kernel_rfl) ?_
          refine D.q (o := _) 11 [] hQ hS rfl (.take 9 false 102 _ (ntF hb63) rfl rfl rfl) rfl rfl (by exact Rd.l T rfl rfl rfl) rfl (by kernel_rfl) ?_
          refine D.q (o := _) 12 [] hQ hS rfl (.take 9 false 102 _ (ntF hb63) rfl rfl rfl) rfl rfl (by exact Rd.p T rfl) rfl (by kernel_rfl) ?_
          obtain ⟨hx64, hm⟩ := hm
          refine D.q (o := _) 13 [] hQ hS rfl (.take 9 false 102 _ (ntF hb63) rfl rfl rfl) rfl rfl (by exact Rd.so T rfl rfl rfl rfl rfl (.none _) (.some _ rfl) hx64) rfl (by kernel_rfl) ?_
          refine D.q (o := _) 14 [] hQ hS rfl (.take 9 false 102 _ (ntF hb63) rfl rfl rfl) rfl rfl (by exact Rd.p T rfl) rfl (by kernel_rfl) ?_
          refine D.q (o := _) 15 [] hQ hS rfl (.take 9 false 102 _ (ntF hb63) rfl rfl rfl) rfl rfl (by exact Rd.l T rfl rfl rfl) rfl (by kernel_rfl) ?_
          refine D.e (o := _) 16 rfl (.take 9 false 102 _ (ntF hb63) rfl rfl rfl) (by exact Eff.c [] (v := true) (T_taquinref11_shelfAt (sub s_1.Shelves 0 s42) x49.Cell _ hm) en44 rfl rfl rfl (.eq rfl) trivial rfl rfl rfl rfl rfl rfl (fun _ _ => ⟨(.v _), trivial⟩) (.inr ⟨rfl, rfl⟩) (fun _ => rfl) (fun _ => rfl) rfl) (by kernel_rfl) rfl rfl (fun x65' hm => ?_)
          obtain ⟨x65⟩ := x65'
          refine D.q (o := _) 17 [] hQ hS rfl (.take 9 false 102 _ (ntF hb63) rfl rfl rfl) rfl rfl (by exact Rd.p T rfl) rfl (by kernel_rfl) ?_
          refine D.q (o := _) 18 [] hQ hS rfl (.none rfl) rfl rfl (by exact Rd.pk' rfl rfl (ntF hb63) rfl) rfl (by kernel_rfl) ?_
          refine D.done (by kernel_rfl) ?_
          exact St.wk (hJ60 _ hm) (Wk.mk' [some 0] rfl rfl (.eqs rfl) ⟨⟨_, rfl, .box rfl (.eq rfl)⟩, trivial⟩ rfl)
         ·refine D.sq (o := _) 10 [] hQ hS rfl (.skip 9 false 102 _ (ntT hb63) rfl rfl rfl) rfl rfl (by kernel_rfl) ?_
          refine D.sq (o := _) 11 [] hQ hS rfl (.skip 9 false 102 _ (ntT hb63) rfl rfl rfl) rfl rfl (by kernel_rfl) ?_
          refine D.sq (o := _) 12 [] hQ hS rfl (.skip 9 false 102 _ (ntT hb63) rfl rfl rfl) rfl rfl (by kernel_rfl) ?_
          refine D.sq (o := _) 13 [] hQ hS rfl (.skip 9 false 102 _ (ntT hb63) rfl rfl rfl) rfl rfl (by kernel_rfl) ?_
          refine D.sq (o := _) 14 [] hQ hS rfl (.skip 9 false 102 _ (ntT hb63) rfl rfl rfl) rfl rfl (by kernel_rfl) ?_
          refine D.sq (o := _) 15 [] hQ hS rfl (.skip 9 false 102 _ (ntT hb63) rfl rfl rfl) rfl rfl (by kernel_rfl) ?_
          refine D.sq (o := _) 16 [] hQ hS rfl (.skip 9 false 102 _ (ntT hb63) rfl rfl rfl) rfl rfl (by kernel_rfl) ?_
          refine D.sq (o := _) 17 [] hQ hS rfl (.skip 9 false 102 _ (ntT hb63) rfl rfl rfl) rfl rfl (by kernel_rfl) ?_
          refine D.q (o := _) 18 [] hQ hS rfl (.none rfl) rfl rfl (by exact Rd.pk rfl rfl (ntT hb63) rfl) rfl (by kernel_rfl) ?_
          refine D.done (by kernel_rfl) ?_
          exact St.wk (hJ60 _ hm) (Wk.mk' [some 0] rfl rfl (.eqs rfl) ⟨⟨_, rfl, .box rfl (.eq rfl)⟩, trivial⟩ rfl)
      ·refine U.start ?_
       refine U.ps 4 T rfl ?_
       refine U.e (o := _) rfl (.none rfl) (by exact Eff.c [] (v := true) (T_taquinref07_Is s_1.Floor x49.Cell _ hm) en34 rfl rfl rfl (.eq rfl) trivial rfl rfl rfl rfl rfl rfl (fun _ _ => ⟨(.v _), trivial⟩) (.inr ⟨rfl, rfl⟩) (fun _ => rfl) (fun _ => rfl) rfl) (fun x52' hm => ?_)
       obtain ⟨x52⟩ := x52'
       refine U.ps 2 T rfl ?_
       refine hm.cs (fun hb53 hm => ?_) (fun hb53 hm => ?_)
       ·refine U.pg 4 6 false 82 (ntF hb53) T rfl rfl rfl rfl ?_
        refine hm.cs (fun hb54 hm => ?_) (fun hb54 hm => ?_)
        ·refine U.sks 4 10 true 86 (ntF hb54) rfl rfl rfl ?_
         refine U.r (o := _) rfl (.take 6 false 82 _ (ntF hb53) rfl rfl rfl) rfl rfl (by exact Rd.pk' rfl rfl (ntF hb54) rfl) ?_
         refine U.r (o := _) rfl (.none rfl) rfl rfl (by exact Rd.pk' rfl rfl (ntF hb53) rfl) ?_
         refine U.done ?_
         exact St.wk (hJ51 _ hm) (Wk.mk' [some 0, some 1] rfl rfl (.eqs rfl) ⟨⟨_, rfl, .box rfl (.eq rfl)⟩, ⟨_, rfl, .box rfl (.eq rfl)⟩, trivial⟩ rfl)
        ·refine U.pg 2 10 true 86 (ntT hb54) T rfl rfl rfl rfl ?_
         refine U.e (o := _) rfl (.take 10 true 86 _ (ntT hb54) rfl rfl rfl) (by exact Eff.c [] (v := true) (T_taquinref11_Name x49.Class _ hm) en41 rfl rfl rfl (.eq rfl) trivial rfl rfl rfl rfl rfl rfl (fun _ _ => ⟨(.v _), trivial⟩) (.inr ⟨rfl, rfl⟩) (fun _ => rfl) (fun _ => rfl) rfl) (fun x55' hm => ?_)
         obtain ⟨x55⟩ := x55'
         refine U.pg 1 10 true 86 (ntT hb54) T rfl rfl rfl rfl ?_
         refine U.r (o := _) rfl (.take 6 false 82 _ (ntF hb53) rfl rfl rfl) rfl rfl (by exact Rd.pk rfl rfl (ntT hb54) rfl) ?_
         refine U.r (o := _) rfl (.none rfl) rfl rfl (by exact Rd.pk' rfl rfl (ntF hb53) rfl) ?_
         refine U.done ?_
         exact St.wk (hJ51 _ hm) (Wk.mk' [some 0, some 1] rfl rfl (.eqs rfl) ⟨⟨_, rfl, .box rfl (.eq rfl)⟩, ⟨_, rfl, .box rfl (.eq rfl)⟩, trivial⟩ rfl)
       ·refine U.sks 4 6 false 82 (ntT hb53) rfl rfl rfl ?_
        refine U.sku 4 10 true 86 rfl rfl rfl ?_
        refine U.sks 1 6 false 82 (ntT hb53) rfl rfl rfl ?_
        refine U.r (o := _) rfl (.none rfl) rfl rfl (by exact Rd.pk rfl rfl (ntT hb53) rfl) ?_
        refine U.done ?_
        exact St.wk (hJ51 _ hm) (Wk.mk' [some 0, some 1] rfl rfl (.eqs rfl) ⟨⟨_, rfl, .box rfl (.eq rfl)⟩, ⟨_, rfl, .box rfl (.eq rfl)⟩, trivial⟩ rfl)
     ·refine C.exit (C.ex (C.ex (C.bex ?_)))
      exact St.wk (hJ41 _ hm) (Wk.mk' [some 0] rfl rfl (.eqs rfl) ⟨⟨_, rfl, .box rfl (.eq rfl)⟩, trivial⟩ rfl)
   ·refine C.block ?_
    refine St.wk (C.loop (fun (s17 : Int) => [(1, .p 0 0), (3, .i s17)]) (fun (s17 : Int) => [(0, .box (eApiSite s_1))]) hm (fun s17 Y18 hm => ?_)) (Wk.mk' [some 0] rfl rfl (.eqs rfl) ⟨⟨_, rfl, .box rfl (.eq rfl)⟩, trivial⟩ rfl)
    refine C.seq (C.seq (U.start ?_))
    refine U.ps 5 T rfl ?_
    refine U.done (C.nx ?_)
    refine C.ite rfl hm (fun hb21 hm => ?_) (fun hb21 hm => ?_)
    ·refine C.skip (C.nx (C.seq (C.block (C.seq (U.start ?_)))))
     refine U.ps 3 T rfl ?_
     obtain ⟨x24, hx24, hm⟩ := hm
     refine U.r (o := _) rfl (.none rfl) rfl rfl (by exact Rd.ix T rfl rfl rfl rfl rfl rfl hx24) ?_
     refine U.ps 1 T rfl ?_
     refine U.e1 (o := _) rfl (.none rfl) (by exact Eff1.al T rfl rfl rfl rfl) ?_
     refine U.e1 (o := _) rfl (.none rfl) (by exact Eff1.st T rfl rfl rfl rfl rfl rfl rfl rfl rfl rfl) ?_
     refine U.done (C.nx (C.seq ?_))
     refine C.jn (fun (x25 : Bool) => [(1, .p 0 0), (3, .i s17), (63, .b x25)]) (fun (x25 : Bool) => [(0, .box (eApiSite s_1))]) 1 hm (fun x25 hm => ?_) (fun J26 hm hJ26 => ?_)
     ·refine C.nx ?_
      refine C.ite rfl hm (fun hb33 hm => ?_) (fun hb33 hm => ?_)
      ·refine C.seq (U.start ?_)
       refine U.ps 1 T rfl ?_
       refine U.done (C.nx (C.ret (C.brt (C.rt (C.rt (C.brt (C.rt ?_)))))))
       exact C.fin T (rs' := [.b false]) (H' := []) (nl' := 0) [] rfl rfl (.eq rfl) trivial rfl rfl rfl rfl hβ ⟨false, hm, rfl, rfl, rfl⟩
      ·refine C.skip (C.bnx (C.nx (U.start ?_)))
       refine U.ps 3 T rfl ?_
       refine U.done (C.nx ?_)
       exact St.wk (C.next hm) (Wk.mk' [some 0] rfl rfl (.eqs rfl) ⟨⟨_, rfl, .box rfl (.eq rfl)⟩, trivial⟩ rfl)
     ·refine D.beg 9999 [0, 1] [] mix rfl rfl (by kernel_rfl) (by repeat (first | exact NoPanicQ.body | refine NoPanicQ.th ?_ | refine NoPanicQ.blk ?_)) (fun hQ hS ws M' => ?_)
      refine D.ps 2 [(0, []), (1, [])] rfl hQ hS T rfl rfl (by kernel_rfl) ?_
      refine D.e (o := _) 2 rfl (.none rfl) (by exact Eff.c [] (v := true) (T_taquinref11_Name x24.A _ hm) en41 rfl rfl rfl (.eq rfl) trivial rfl rfl rfl rfl rfl rfl (fun _ _ => ⟨(.v _), trivial⟩) (.inr ⟨rfl, rfl⟩) (fun _ => rfl) (fun _ => rfl) rfl) (by kernel_rfl) rfl rfl (fun x27' hm => ?_)
      obtain ⟨x27⟩ := x27'
      refine D.ps 2 [(3, []), (4, [])] rfl hQ hS T rfl rfl (by kernel_rfl) ?_
      refine hm.cs (fun hb28 hm => ?_) (fun hb28 hm => ?_)
      ·refine D.q (o := _) 5 [] hQ hS rfl (.take 4 false 47 _ (ntF hb28) rfl rfl rfl) rfl rfl (by exact Rd.p T rfl) rfl (by kernel_rfl) ?_
       refine D.q (o := _) 6 [] hQ hS rfl (.take 4 false 47 _ (ntF hb28) rfl rfl rfl) rfl rfl (by exact Rd.l T rfl rfl rfl) rfl (by kernel_rfl) ?_
       refine D.e (o := _) 7 rfl (.take 4 false 47 _ (ntF hb28) rfl rfl rfl) (by exact Eff.c [] (v := true) (T_taquinref11_Name x24.B _ hm) en41 rfl rfl rfl (.eq rfl) trivial rfl rfl rfl rfl rfl rfl (fun _ _ => ⟨(.v _), trivial⟩) (.inr ⟨rfl, rfl⟩) (fun _ => rfl) (fun _ => rfl) rfl) (by kernel_rfl) rfl rfl (fun x29' hm => ?_)
       obtain ⟨x29⟩ := x29'
       refine D.q (o := _) 8 [] hQ hS rfl (.take 4 false 47 _ (ntF hb28) rfl rfl rfl) rfl rfl (by exact Rd.p T rfl) rfl (by kernel_rfl) ?_
       refine D.q (o := _) 9 [] hQ hS rfl (.none rfl) rfl rfl (by exact Rd.pk' rfl rfl (ntF hb28) rfl) rfl (by kernel_rfl) ?_
       refine D.ps 1 [(10, [])] rfl hQ hS T rfl rfl (by kernel_rfl) ?_
       refine hm.cs (fun hb30 hm => ?_) (fun hb30 hm => ?_)
       ·refine D.q (o := _) 11 [] hQ hS rfl (.take 10 false 53 _ (ntF hb30) rfl rfl rfl) rfl rfl (by exact Rd.p T rfl) rfl (by kernel_rfl) ?_
        refine D.q (o := _) 12 [] hQ hS rfl (.take 10 false 53 _ (ntF hb30) rfl rfl rfl) rfl rfl (by exact Rd.l T rfl rfl rfl) rfl (by kernel_rfl) ?_
        refine D.q (o := _) 13 [] hQ hS rfl (.take 10 false 53 _ (ntF hb30) rfl rfl rfl) rfl rfl (by exact Rd.p T rfl) rfl (by kernel_rfl) ?_
        obtain ⟨hx31, hm⟩ := hm
        refine D.q (o := _) 14 [] hQ hS rfl (.take 10 false 53 _ (ntF hb30) rfl rfl rfl) rfl rfl (by exact Rd.so T rfl rfl rfl rfl rfl (.none _) (.some _ rfl) hx31) rfl (by kernel_rfl) ?_
        refine D.q (o := _) 15 [] hQ hS rfl (.take 10 false 53 _ (ntF hb30) rfl rfl rfl) rfl rfl (by exact Rd.p T rfl) rfl (by kernel_rfl) ?_
        refine D.q (o := _) 16 [] hQ hS rfl (.take 10 false 53 _ (ntF hb30) rfl rfl rfl) rfl rfl (by exact Rd.l T rfl rfl rfl) rfl (by kernel_rfl) ?_
        refine D.q (o := _) 17 [] hQ hS rfl (.take 10 false 53 _ (ntF hb30) rfl rfl rfl) rfl rfl (by exact Rd.p T rfl) rfl (by kernel_rfl) ?_
        refine D.q (o := _) 18 [] hQ hS rfl (.take 10 false 53 _ (ntF hb30) rfl rfl rfl) rfl rfl (by exact Rd.l T rfl rfl rfl) rfl (by kernel_rfl) ?_
        refine D.e (o := _) 19 rfl (.take 10 false 53 _ (ntF hb30) rfl rfl rfl) (by exact Eff.c [] (v := true) (T_taquinref11_Apart (sub s_1.Aparts 0 s17) x24.A x24.B _ hm) en42 rfl rfl rfl (.eq rfl) trivial rfl rfl rfl rfl rfl rfl (fun _ _ => ⟨(.v _), trivial⟩) (.inr ⟨rfl, rfl⟩) (fun _ => rfl) (fun _ => rfl) rfl) (by kernel_rfl) rfl rfl (fun x32' hm => ?_)
        obtain ⟨x32⟩ := x32'
        refine D.q (o := _) 20 [] hQ hS rfl (.none rfl) rfl rfl (by exact Rd.pk' rfl rfl (ntF hb30) rfl) rfl (by kernel_rfl) ?_
        refine D.done (by kernel_rfl) ?_
        exact St.wk (hJ26 _ hm) (Wk.mk' [some 0] rfl rfl (.eqs rfl) ⟨⟨_, rfl, .box rfl (.eq rfl)⟩, trivial⟩ rfl)
       ·refine D.sq (o := _) 11 [] hQ hS rfl (.skip 10 false 53 _ (ntT hb30) rfl rfl rfl) rfl rfl (by kernel_rfl) ?_
        refine D.sq (o := _) 12 [] hQ hS rfl (.skip 10 false 53 _ (ntT hb30) rfl rfl rfl) rfl rfl (by kernel_rfl) ?_
        refine D.sq (o := _) 13 [] hQ hS rfl (.skip 10 false 53 _ (ntT hb30) rfl rfl rfl) rfl rfl (by kernel_rfl) ?_
        refine D.sq (o := _) 14 [] hQ hS rfl (.skip 10 false 53 _ (ntT hb30) rfl rfl rfl) rfl rfl (by kernel_rfl) ?_
        refine D.sq (o := _) 15 [] hQ hS rfl (.skip 10 false 53 _ (ntT hb30) rfl rfl rfl) rfl rfl (by kernel_rfl) ?_
        refine D.sq (o := _) 16 [] hQ hS rfl (.skip 10 false 53 _ (ntT hb30) rfl rfl rfl) rfl rfl (by kernel_rfl) ?_
        refine D.sq (o := _) 17 [] hQ hS rfl (.skip 10 false 53 _ (ntT hb30) rfl rfl rfl) rfl rfl (by kernel_rfl) ?_
        refine D.sq (o := _) 18 [] hQ hS rfl (.skip 10 false 53 _ (ntT hb30) rfl rfl rfl) rfl rfl (by kernel_rfl) ?_
        refine D.sq (o := _) 19 [] hQ hS rfl (.skip 10 false 53 _ (ntT hb30) rfl rfl rfl) rfl rfl (by kernel_rfl) ?_
        refine D.q (o := _) 20 [] hQ hS rfl (.none rfl) rfl rfl (by exact Rd.pk rfl rfl (ntT hb30) rfl) rfl (by kernel_rfl) ?_
        refine D.done (by kernel_rfl) ?_
        exact St.wk (hJ26 _ hm) (Wk.mk' [some 0] rfl rfl (.eqs rfl) ⟨⟨_, rfl, .box rfl (.eq rfl)⟩, trivial⟩ rfl)
      ·refine D.sq (o := _) 5 [] hQ hS rfl (.skip 4 false 47 _ (ntT hb28) rfl rfl rfl) rfl rfl (by kernel_rfl) ?_
       refine D.sq (o := _) 6 [] hQ hS rfl (.skip 4 false 47 _ (ntT hb28) rfl rfl rfl) rfl rfl (by kernel_rfl) ?_
       refine D.sq (o := _) 7 [] hQ hS rfl (.skip 4 false 47 _ (ntT hb28) rfl rfl rfl) rfl rfl (by kernel_rfl) ?_
       refine D.sq (o := _) 8 [] hQ hS rfl (.skip 4 false 47 _ (ntT hb28) rfl rfl rfl) rfl rfl (by kernel_rfl) ?_
       refine D.q (o := _) 9 [] hQ hS rfl (.none rfl) rfl rfl (by exact Rd.pk rfl rfl (ntT hb28) rfl) rfl (by kernel_rfl) ?_
       refine D.ps 1 [(10, [])] rfl hQ hS T rfl rfl (by kernel_rfl) ?_
       refine D.sq (o := _) 11 [] hQ hS rfl (.skip 10 false 53 _ rfl rfl rfl rfl) rfl rfl (by kernel_rfl) ?_
       refine D.sq (o := _) 12 [] hQ hS rfl (.skip 10 false 53 _ rfl rfl rfl rfl) rfl rfl (by kernel_rfl) ?_
       refine D.sq (o := _) 13 [] hQ hS rfl (.skip 10 false 53 _ rfl rfl rfl rfl) rfl rfl (by kernel_rfl) ?_
       refine D.sq (o := _) 14 [] hQ hS rfl (.skip 10 false 53 _ rfl rfl rfl rfl) rfl rfl (by kernel_rfl) ?_
       refine D.sq (o := _) 15 [] hQ hS rfl (.skip 10 false 53 _ rfl rfl rfl rfl) rfl rfl (by kernel_rfl) ?_
       refine D.sq (o := _) 16 [] hQ hS rfl (.skip 10 false 53 _ rfl rfl rfl rfl) rfl rfl (by kernel_rfl) ?_
       refine D.sq (o := _) 17 [] hQ hS rfl (.skip 10 false 53 _ rfl rfl rfl rfl) rfl rfl (by kernel_rfl) ?_
       refine D.sq (o := _) 18 [] hQ hS rfl (.skip 10 false 53 _ rfl rfl rfl rfl) rfl rfl (by kernel_rfl) ?_
       refine D.sq (o := _) 19 [] hQ hS rfl (.skip 10 false 53 _ rfl rfl rfl rfl) rfl rfl (by kernel_rfl) ?_
       refine D.q (o := _) 20 [] hQ hS rfl (.none rfl) rfl rfl (by exact Rd.pk rfl rfl rfl rfl) rfl (by kernel_rfl) ?_
       refine D.done (by kernel_rfl) ?_
       exact St.wk (hJ26 _ hm) (Wk.mk' [some 0] rfl rfl (.eqs rfl) ⟨⟨_, rfl, .box rfl (.eq rfl)⟩, trivial⟩ rfl)
    ·refine C.exit (C.ex (C.ex (C.bex ?_)))
     exact St.wk (hJ16 _ hm) (Wk.mk' [some 0] rfl rfl (.eqs rfl) ⟨⟨_, rfl, .box rfl (.eq rfl)⟩, trivial⟩ rfl)
 ·refine U.start ?_
  refine U.ps 2 T rfl ?_
  refine U.e (o := _) rfl (.none rfl) (by exact Eff.c [] (v := true) (T_taquinref07_Right s_1.Floor _ hm) en39 rfl rfl rfl (.eq rfl) trivial rfl rfl rfl rfl rfl rfl (fun _ _ => ⟨(.v _), trivial⟩) (.inr ⟨rfl, rfl⟩) (fun _ => rfl) (fun _ => rfl) rfl) (fun x5' hm => ?_)
  obtain ⟨x5⟩ := x5'
  refine U.ps 2 T rfl ?_
  refine hm.cs (fun hb6 hm => ?_) (fun hb6 hm => ?_)
  ·refine U.pg 1 4 false 14 (ntF hb6) T rfl rfl rfl rfl ?_
   refine U.e (o := _) rfl (.take 4 false 14 _ (ntF hb6) rfl rfl rfl) (by exact Eff.c [] (v := true) (T_taquinref11_rightZones s_1 _ hm) en40 rfl rfl rfl (.eq rfl) trivial rfl rfl rfl rfl rfl rfl (fun _ _ => ⟨(.v _), trivial⟩) (.inr ⟨rfl, rfl⟩) (fun _ => rfl) (fun _ => rfl) rfl) (fun x7' hm => ?_)
   obtain ⟨x7⟩ := x7'
   refine U.pg 1 4 false 14 (ntF hb6) T rfl rfl rfl rfl ?_
   refine U.r (o := _) rfl (.none rfl) rfl rfl (by exact Rd.pk' rfl rfl (ntF hb6) rfl) ?_
   refine U.ps 1 T rfl ?_
   refine hm.cs (fun hb8 hm => ?_) (fun hb8 hm => ?_)
   ·refine U.pg 4 9 false 19 (ntF hb8) T rfl rfl rfl rfl ?_
    refine U.r (o := _) rfl (.none rfl) rfl rfl (by exact Rd.pk' rfl rfl (ntF hb8) rfl) ?_
    refine U.ps 1 T rfl ?_
    refine hm.cs (fun hb9 hm => ?_) (fun hb9 hm => ?_)
    ·refine U.sks 4 15 false 25 hb9 rfl rfl rfl ?_
     refine U.r (o := _) rfl (.none rfl) rfl rfl (by exact Rd.pk rfl rfl hb9 rfl) ?_
     refine U.done ?_
     exact St.wk (hJ4 _ hm) (Wk.mk' [some 0] rfl rfl (.eqs rfl) ⟨⟨_, rfl, .box rfl (.eq rfl)⟩, trivial⟩ rfl)
    ·refine U.pg 4 15 false 25 hb9 T rfl rfl rfl rfl ?_
     refine U.r (o := _) rfl (.none rfl) rfl rfl (by exact Rd.pk' rfl rfl hb9 rfl) ?_
     refine U.done ?_
     exact St.wk (hJ4 _ hm) (Wk.mk' [some 0] rfl rfl (.eqs rfl) ⟨⟨_, rfl, .box rfl (.eq rfl)⟩, trivial⟩ rfl)
   ·refine U.sks 4 9 false 19 (ntT hb8) rfl rfl rfl ?_
    refine U.r (o := _) rfl (.none rfl) rfl rfl (by exact Rd.pk rfl rfl (ntT hb8) rfl) ?_
    refine U.ps 1 T rfl ?_
    refine U.sks 4 15 false 25 rfl rfl rfl rfl ?_
    refine U.r (o := _) rfl (.none rfl) rfl rfl (by exact Rd.pk rfl rfl rfl rfl) ?_
    refine U.done ?_
    exact St.wk (hJ4 _ hm) (Wk.mk' [some 0] rfl rfl (.eqs rfl) ⟨⟨_, rfl, .box rfl (.eq rfl)⟩, trivial⟩ rfl)
  ·refine U.sks 3 4 false 14 (ntT hb6) rfl rfl rfl ?_
   refine U.r (o := _) rfl (.none rfl) rfl rfl (by exact Rd.pk rfl rfl (ntT hb6) rfl) ?_
   refine U.ps 1 T rfl ?_
   refine U.sks 4 9 false 19 rfl rfl rfl rfl ?_
   refine U.r (o := _) rfl (.none rfl) rfl rfl (by exact Rd.pk rfl rfl rfl rfl) ?_
   refine U.ps 1 T rfl ?_
   refine U.sks 4 15 false 25 rfl rfl rfl rfl ?_
   refine U.r (o := _) rfl (.none rfl) rfl rfl (by exact Rd.pk rfl rfl rfl rfl) ?_
   refine U.done ?_
   exact St.wk (hJ4 _ hm) (Wk.mk' [some 0] rfl rfl (.eqs rfl) ⟨⟨_, rfl, .box rfl (.eq rfl)⟩, trivial⟩ rfl)
theorem T_taquinlaw23_fair (s_1 : ApiSite) (taken : List ApiTaken) (avoid : List Int) (post : Bool → Prop) (hm : V_taquinlaw23_fair s_1 taken avoid post) :
    Tr Try.prog 8 [.agg (eApiSite s_1), .sl 3 eApiTaken taken, .sl 1 eI avoid] [] 0 (fun A H' k => ∃ y, post y ∧ A = (.b y) ∧ H' = [] ∧ k = 0) := by
 refine Tr.intro (n := 42) Try.func8 rfl Try.ntmps8 rfl (fun w0 ok F β hβ => ?_)
 unfold V_taquinlaw23_fair at hm
 refine C.seq (U.start ?_)
 refine U.e1 (o := _) rfl (.none rfl) (by exact Eff1.box rfl rfl rfl rfl rfl) ?_
 refine U.ps 1 T rfl ?_
 refine U.done (C.nx (C.seq (C.seq (U.start ?_))))
 refine U.ps 1 T rfl ?_
 refine U.done (C.nx ?_)
 refine C.jn (fun (x5 : Unit) => [(1, .sl 3 eApiTaken taken), (2, .sl 1 eI avoid), (3, .p 0 0)]) (fun (x5 : Unit) => [(0, .box (eApiSite s_1))]) 1 hm (fun x5 hm => ?_) (fun J6 hm hJ6 => ?_)
 ·refine C.nx (C.seq ?_)
  refine C.jn (fun (x21 : Bool) => [(6, .b x21)]) (fun (x21 : Bool) => []) 0 hm (fun x21 hm => ?_) (fun J22 hm hJ22 => ?_)
  ·refine C.nx (C.ret ?_)
   exact C.fin T (rs' := [.b x21]) (H' := []) (nl' := 0) [] rfl rfl (.eq rfl) trivial rfl rfl rfl rfl hβ ⟨x21, hm, rfl, rfl, rfl⟩
  ·refine U.start ?_
   refine U.ps 1 T rfl ?_
   refine U.e (o := _) rfl (.none rfl) (by exact Eff.c [] (v := true) (T_taquinref11_Few s_1 50 20 _ hm) en19 rfl rfl rfl (.eq rfl) trivial rfl rfl rfl rfl rfl rfl (fun _ _ => ⟨(.v _), trivial⟩) (.inr ⟨rfl, rfl⟩) (fun _ => rfl) (fun _ => rfl) rfl) (fun x23' hm => ?_)
   obtain ⟨x23⟩ := x23'
   refine U.ps 1 T rfl ?_
   refine hm.cs (fun hb24 hm => ?_) (fun hb24 hm => ?_)
   ·refine U.pg 1 2 true 28 hb24 T rfl rfl rfl rfl ?_
    refine U.e (o := _) rfl (.take 2 true 28 _ hb24 rfl rfl rfl) (by exact Eff.c [] (v := true) (T_taquinref11_Right s_1 _ hm) en20 rfl rfl rfl (.eq rfl) trivial rfl rfl rfl rfl rfl rfl (fun _ _ => ⟨(.v _), trivial⟩) (.inr ⟨rfl, rfl⟩) (fun _ => rfl) (fun _ => rfl) rfl) (fun x25' hm => ?_)
    obtain ⟨x25⟩ := x25'
    refine U.r (o := _) rfl (.none rfl) rfl rfl (by exact Rd.pk rfl rfl hb24 rfl) ?_
    refine U.ps 1 T rfl ?_
    refine hm.cs (fun hb26 hm => ?_) (fun hb26 hm => ?_)
    ·refine U.pg 3 6 true 32 hb26 T rfl rfl rfl rfl ?_
     refine U.r (o := _) rfl (.none rfl) rfl rfl (by exact Rd.pk rfl rfl hb26 rfl) ?_
     refine U.ps 1 T rfl ?_
     refine hm.cs (fun hb27 hm => ?_) (fun hb27 hm => ?_)
     ·refine U.pg 3 11 true 37 hb27 T rfl rfl rfl rfl ?_
      refine U.r (o := _) rfl (.none rfl) rfl rfl (by exact Rd.pk rfl rfl hb27 rfl) ?_
      refine U.ps 1 T rfl ?_
      refine U.done ?_
      exact St.wk (hJ22 _ hm) (Wk.mk' [] rfl rfl (.eqs rfl) trivial rfl)
     ·refine U.sks 3 11 true 37 hb27 rfl rfl rfl ?_
      refine U.r (o := _) rfl (.none rfl) rfl rfl (by exact Rd.pk' rfl rfl hb27 rfl) ?_
      refine U.ps 1 T rfl ?_
      refine U.done ?_
      exact St.wk (hJ22 _ hm) (Wk.mk' [] rfl rfl (.eqs rfl) trivial rfl)
    ·refine U.sks 3 6 true 32 hb26 rfl rfl rfl ?_
     refine U.r (o := _) rfl (.none rfl) rfl rfl (by exact Rd.pk' rfl rfl hb26 rfl) ?_
     refine U.ps 1 T rfl ?_
     refine U.sks 3 11 true 37 rfl rfl rfl rfl ?_
     refine U.r (o := _) rfl (.none rfl) rfl rfl (by exact Rd.pk' rfl rfl rfl rfl) ?_
     refine U.ps 1 T rfl ?_
     refine U.done ?_
     exact St.wk (hJ22 _ hm) (Wk.mk' [] rfl rfl (.eqs rfl) trivial rfl)
   ·refine U.sks 2 2 true 28 hb24 rfl rfl rfl ?_
    refine U.r (o := _) rfl (.none rfl) rfl rfl (by exact Rd.pk' rfl rfl hb24 rfl) ?_
    refine U.ps 1 T rfl ?_
    refine U.sks 3 6 true 32 rfl rfl rfl rfl ?_
    refine U.r (o := _) rfl (.none rfl) rfl rfl (by exact Rd.pk' rfl rfl rfl rfl) ?_
    refine U.ps 1 T rfl ?_
    refine U.sks 3 11 true 37 rfl rfl rfl rfl ?_
    refine U.r (o := _) rfl (.none rfl) rfl rfl (by exact Rd.pk' rfl rfl rfl rfl) ?_
    refine U.ps 1 T rfl ?_
    refine U.done ?_
    exact St.wk (hJ22 _ hm) (Wk.mk' [] rfl rfl (.eqs rfl) trivial rfl)
 ·refine C.block ?_
  refine St.wk (C.loop (fun (s7 : Int) => [(1, .sl 3 eApiTaken taken), (2, .sl 1 eI avoid), (3, .p 0 0), (7, .i s7)]) (fun (s7 : Int) => [(0, .box (eApiSite s_1))]) hm (fun s7 Y8 hm => ?_)) (Wk.mk' [some 0] rfl rfl (.eqs rfl) ⟨⟨_, rfl, .box rfl (.eq rfl)⟩, trivial⟩ rfl)
  refine C.seq (C.seq ?_)
  refine C.jn (fun (x9 : Bool) => [(1, .sl 3 eApiTaken taken), (2, .sl 1 eI avoid), (3, .p 0 0), (7, .i s7), (16, .b x9)]) (fun (x9 : Bool) => [(0, .box (eApiSite s_1))]) 1 hm (fun x9 hm => ?_) (fun J10 hm hJ10 => ?_)
  ·refine C.nx ?_
   refine C.ite rfl hm (fun hb12 hm => ?_) (fun hb12 hm => ?_)
   ·refine C.skip (C.nx (C.seq (C.block (C.seq (U.start ?_)))))
    refine U.ps 3 T rfl ?_
    obtain ⟨x15, hx15, hm⟩ := hm
    refine U.r (o := _) rfl (.none rfl) rfl rfl (by exact Rd.ix T rfl rfl rfl rfl rfl rfl hx15) ?_
    refine U.ps 3 T rfl ?_
    refine U.done (C.nx ?_)
    refine C.ite rfl hm (fun hb16 hm => ?_) (fun hb16 hm => ?_)
    ·refine C.seq (U.start ?_)
     refine U.ps 1 T rfl ?_
     refine U.done (C.nx (C.ret (C.brt (C.rt (C.rt (C.brt (C.rt ?_)))))))
     exact C.fin T (rs' := [.b false]) (H' := []) (nl' := 0) [] rfl rfl (.eq rfl) trivial rfl rfl rfl rfl hβ ⟨false, hm, rfl, rfl, rfl⟩
    ·refine C.skip (C.bnx (C.nx (U.start ?_)))
     refine U.ps 3 T rfl ?_
     refine U.done (C.nx ?_)
     exact St.wk (C.next hm) (Wk.mk' [some 0] rfl rfl (.eqs rfl) ⟨⟨_, rfl, .box rfl (.eq rfl)⟩, trivial⟩ rfl)
   ·refine C.exit (C.ex (C.ex (C.bex ?_)))
    exact St.wk (hJ6 _ hm) (Wk.mk' [some 0] rfl rfl (.eqs rfl) ⟨⟨_, rfl, .box rfl (.eq rfl)⟩, trivial⟩ rfl)
  ·refine U.start ?_
   refine U.ps 6 T rfl ?_
   refine hm.cs (fun hb11 hm => ?_) (fun hb11 hm => ?_)
   ·refine U.pg 2 5 true 13 hb11 T rfl rfl rfl rfl ?_
    refine U.r (o := _) rfl (.none rfl) rfl rfl (by exact Rd.pk rfl rfl hb11 rfl) ?_
    refine U.done ?_
    exact St.wk (hJ10 _ hm) (Wk.mk' [some 0] rfl rfl (.eqs rfl) ⟨⟨_, rfl, .box rfl (.eq rfl)⟩, trivial⟩ rfl)
   ·refine U.sks 2 5 true 13 hb11 rfl rfl rfl ?_
    refine U.r (o := _) rfl (.none rfl) rfl rfl (by exact Rd.pk' rfl rfl hb11 rfl) ?_
    refine U.done ?_
    exact St.wk (hJ10 _ hm) (Wk.mk' [some 0] rfl rfl (.eqs rfl) ⟨⟨_, rfl, .box rfl (.eq rfl)⟩, trivial⟩ rfl)
end Go.Proofs.Ytliikemkgfjpaaa
