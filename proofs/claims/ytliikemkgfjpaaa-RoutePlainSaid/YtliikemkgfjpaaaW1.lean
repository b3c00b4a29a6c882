/- The walks: each Go function does what its verification condition says (written by a program of the prover). -/
import Derived.Test.YtliikemkgfjpaaaW0
import Derived.KernelRfl
set_option maxRecDepth 100000
set_option maxHeartbeats 8000000
set_option linter.unusedVariables false
namespace Go.Proofs.Ytliikemkgfjpaaa
open Go Go.Taq
theorem T_taquinref11_Name (s_1 : ByteArray) (post : Bool → Prop) (hm : V_taquinref11_Name s_1 post) :
    Tr Try.prog 41 [.v (.string s_1)] [] 0 (fun A H' k => ∃ y, post y ∧ A = (.b y) ∧ H' = [] ∧ k = 0) := by
 refine Tr.intro (n := 62) Try.func41 rfl Try.ntmps41 rfl (fun w0 ok F β hβ => ?_)
 unfold V_taquinref11_Name at hm
 refine C.seq (U.start ?_)
 refine U.ps 1 T rfl ?_
 refine U.done (C.nx (C.seq (C.seq (U.start ?_))))
 refine U.ps 1 T rfl ?_
 refine U.done (C.nx ?_)
 refine C.jn (fun (x1 : Unit) => [(0, .v (.string s_1))]) (fun (x1 : Unit) => []) 0 hm (fun x1 hm => ?_) (fun J2 hm hJ2 => ?_)
 ·refine C.nx (C.seq ?_)
  refine C.jn (fun (x46 : Bool) => [(2, .b x46)]) (fun (x46 : Bool) => []) 0 hm (fun x46 hm => ?_) (fun J47 hm hJ47 => ?_)
  ·refine C.nx (C.ret ?_)
   exact C.fin T (rs' := [.b x46]) (H' := []) (nl' := 0) [] rfl rfl (.eq rfl) trivial rfl rfl rfl rfl hβ ⟨x46, hm, rfl, rfl, rfl⟩
  ·refine U.start ?_
   refine U.ps 4 T rfl ?_
   refine hm.cs (fun hb48 hm => ?_) (fun hb48 hm => ?_)
   ·refine U.pg 3 3 true 57 hb48 T rfl rfl rfl rfl ?_
    refine U.r (o := _) rfl (.none rfl) rfl rfl (by exact Rd.pk rfl rfl hb48 rfl) ?_
    refine U.ps 1 T rfl ?_
    refine U.done ?_
    exact St.wk (hJ47 _ hm) (Wk.mk' [] rfl rfl (.eqs rfl) trivial rfl)
   ·refine U.sks 3 3 true 57 hb48 rfl rfl rfl ?_
    refine U.r (o := _) rfl (.none rfl) rfl rfl (by exact Rd.pk' rfl rfl hb48 rfl) ?_
    refine U.ps 1 T rfl ?_
    refine U.done ?_
    exact St.wk (hJ47 _ hm) (Wk.mk' [] rfl rfl (.eqs rfl) trivial rfl)
 ·refine C.block ?_
  refine St.wk (C.loop (fun (s3 : Int) => [(0, .v (.string s_1)), (3, .i s3)]) (fun (s3 : Int) => []) hm (fun s3 Y4 hm => ?_)) (Wk.mk' [] rfl rfl (.eqs rfl) trivial rfl)
  refine C.seq (C.seq (U.start ?_))
  refine U.ps 4 T rfl ?_
  refine U.done (C.nx ?_)
  refine C.ite rfl hm (fun hb5 hm => ?_) (fun hb5 hm => ?_)
  ·refine C.skip (C.nx (C.seq (C.block (C.seq (U.start ?_)))))
   refine U.ps 2 T rfl ?_
   obtain ⟨x6, hx6, hm⟩ := hm
   refine U.r (o := _) rfl (.none rfl) rfl rfl (by exact Rd.ib T rfl rfl rfl rfl hx6) ?_
   refine U.ps 1 T rfl ?_
   refine U.done (C.nx (C.seq ?_))
   refine C.jn (fun (x7 : Bool) => [(0, .v (.string s_1)), (3, .i s3), (4, .v (.int .u8 (x6.toNat : Int))), (5, .b x7)]) (fun (x7 : Bool) => []) 0 hm (fun x7 hm => ?_) (fun J8 hm hJ8 => ?_)
   ·refine C.nx (C.seq ?_)
    refine C.jn (fun (x10 : Bool) => [(0, .v (.string s_1)), (3, .i s3), (53, .b x10)]) (fun (x10 : Bool) => []) 0 hm (fun x10 hm => ?_) (fun J11 hm hJ11 => ?_)
    ·refine C.nx ?_
     refine C.ite rfl hm (fun hb45 hm => ?_) (fun hb45 hm => ?_)
     ·refine C.seq (U.start ?_)
      refine U.ps 1 T rfl ?_
      refine U.done (C.nx (C.ret (C.brt (C.rt (C.rt (C.brt (C.rt ?_)))))))
      exact C.fin T (rs' := [.b false]) (H' := []) (nl' := 0) [] rfl rfl (.eq rfl) trivial rfl rfl rfl rfl hβ ⟨false, hm, rfl, rfl, rfl⟩
     ·refine C.skip (C.bnx (C.nx (U.start ?_)))
      refine U.ps 3 T rfl ?_
      refine U.done (C.nx ?_)
      exact St.wk (C.next hm) (Wk.mk' [] rfl rfl (.eqs rfl) trivial rfl)
    ·refine U.start ?_
     refine U.ps 3 T rfl ?_
     refine hm.cs (fun hb12 hm => ?_) (fun hb12 hm => ?_)
     ·refine U.pg 2 2 true 23 hb12 T rfl rfl rfl rfl ?_
      refine U.r (o := _) rfl (.none rfl) rfl rfl (by exact Rd.pk rfl rfl hb12 rfl) ?_
      refine U.ps 1 T rfl ?_
      refine hm.cs (fun hb13 hm => ?_) (fun hb13 hm => ?_)
      ·refine U.sks 3 6 false 27 hb13 rfl rfl rfl ?_
       refine U.sku 2 9 true 30 rfl rfl rfl ?_
       refine U.sks 1 6 false 27 hb13 rfl rfl rfl ?_
       refine U.r (o := _) rfl (.none rfl) rfl rfl (by exact Rd.pk rfl rfl hb13 rfl) ?_
       refine U.ps 1 T rfl ?_
       refine U.sks 1 14 false 35 rfl rfl rfl rfl ?_
       refine U.r (o := _) rfl (.none rfl) rfl rfl (by exact Rd.pk rfl rfl rfl rfl) ?_
       refine U.ps 1 T rfl ?_
       refine U.sks 2 17 false 38 rfl rfl rfl rfl ?_
       refine U.r (o := _) rfl (.none rfl) rfl rfl (by exact Rd.pk rfl rfl rfl rfl) ?_
       refine U.ps 1 T rfl ?_
       refine U.sks 2 21 false 42 rfl rfl rfl rfl ?_
       refine U.r (o := _) rfl (.none rfl) rfl rfl (by exact Rd.pk rfl rfl rfl rfl) ?_
       refine U.ps 2 T rfl ?_
       refine U.pg 3 26 false 47 rfl T rfl rfl rfl rfl ?_
       refine hm.cs (fun hb14 hm => ?_) (fun hb14 hm => ?_)
       ·refine U.pg 1 29 true 50 hb14 T rfl rfl rfl rfl ?_
        refine U.r (o := _) rfl (.take 26 false 47 _ rfl rfl rfl rfl) rfl rfl (by exact Rd.pk rfl rfl hb14 rfl) ?_
        refine U.r (o := _) rfl (.none rfl) rfl rfl (by exact Rd.pk' rfl rfl rfl rfl) ?_
        refine U.done ?_
        exact St.wk (hJ11 _ hm) (Wk.mk' [] rfl rfl (.eqs rfl) trivial rfl)
       ·refine U.sks 1 29 true 50 hb14 rfl rfl rfl ?_
        refine U.r (o := _) rfl (.take 26 false 47 _ rfl rfl rfl rfl) rfl rfl (by exact Rd.pk' rfl rfl hb14 rfl) ?_
        refine U.r (o := _) rfl (.none rfl) rfl rfl (by exact Rd.pk' rfl rfl rfl rfl) ?_
        refine U.done ?_
        exact St.wk (hJ11 _ hm) (Wk.mk' [] rfl rfl (.eqs rfl) trivial rfl)
      ·refine U.pg 3 6 false 27 hb13 T rfl rfl rfl rfl ?_
       refine hm.cs (fun hb15 hm => ?_) (fun hb15 hm => ?_)
       ·refine U.pg 2 9 true 30 hb15 T rfl rfl rfl rfl ?_
        refine U.r (o := _) rfl (.take 6 false 27 _ hb13 rfl rfl rfl) rfl rfl (by exact Rd.pk rfl rfl hb15 rfl) ?_
        refine U.r (o := _) rfl (.none rfl) rfl rfl (by exact Rd.pk' rfl rfl hb13 rfl) ?_
        refine U.ps 1 T rfl ?_
        refine hm.cs (fun hb16 hm => ?_) (fun hb16 hm => ?_)
        ·refine U.sks 1 14 false 35 hb16 rfl rfl rfl ?_
         refine U.r (o := _) rfl (.none rfl) rfl rfl (by exact Rd.pk rfl rfl hb16 rfl) ?_
         refine U.ps 1 T rfl ?_
         refine U.sks 2 17 false 38 rfl rfl rfl rfl ?_
         refine U.r (o := _) rfl (.none rfl) rfl rfl (by exact Rd.pk rfl rfl rfl rfl) ?_
         refine U.ps 1 T rfl ?_
         refine U.sks 2 21 false 42 rfl rfl rfl rfl ?_
         refine U.r (o := _) rfl (.none rfl) rfl rfl (by exact Rd.pk rfl rfl rfl rfl) ?_
         refine U.ps 2 T rfl ?_
         refine U.pg 3 26 false 47 rfl T rfl rfl rfl rfl ?_
         refine hm.cs (fun hb17 hm => ?_) (fun hb17 hm => ?_)
         ·refine U.pg 1 29 true 50 hb17 T rfl rfl rfl rfl ?_
          refine U.r (o := _) rfl (.take 26 false 47 _ rfl rfl rfl rfl) rfl rfl (by exact Rd.pk rfl rfl hb17 rfl) ?_
          refine U.r (o := _) rfl (.none rfl) rfl rfl (by exact Rd.pk' rfl rfl rfl rfl) ?_
          refine U.done ?_
          exact St.wk (hJ11 _ hm) (Wk.mk' [] rfl rfl (.eqs rfl) trivial rfl)
         ·refine U.sks 1 29 true 50 hb17 rfl rfl rfl ?_
          refine U.r (o := _) rfl (.take 26 false 47 _ rfl rfl rfl rfl) rfl rfl (by exact Rd.pk' rfl rfl hb17 rfl) ?_
          refine U.r (o := _) rfl (.none rfl) rfl rfl (by exact Rd.pk' rfl rfl rfl rfl) ?_
          refine U.done ?_
          exact St.wk (hJ11 _ hm) (Wk.mk' [] rfl rfl (.eqs rfl) trivial rfl)
        ·refine U.pg 1 14 false 35 hb16 T rfl rfl rfl rfl ?_
         refine U.r (o := _) rfl (.none rfl) rfl rfl (by exact Rd.pk' rfl rfl hb16 rfl) ?_
         refine U.ps 1 T rfl ?_
         refine hm.cs (fun hb18 hm => ?_) (fun hb18 hm => ?_)
         ·refine U.sks 2 17 false 38 hb18 rfl rfl rfl ?_
          refine U.r (o := _) rfl (.none rfl) rfl rfl (by exact Rd.pk rfl rfl hb18 rfl) ?_
          refine U.ps 1 T rfl ?_
          refine U.sks 2 21 false 42 rfl rfl rfl rfl ?_
          refine U.r (o := _) rfl (.none rfl) rfl rfl (by exact Rd.pk rfl rfl rfl rfl) ?_
          refine U.ps 2 T rfl ?_
          refine U.pg 3 26 false 47 rfl T rfl rfl rfl rfl ?_
          refine hm.cs (fun hb19 hm => ?_) (fun hb19 hm => ?_)
          ·refine U.pg 1 29 true 50 hb19 T rfl rfl rfl rfl ?_
           refine U.r (o := _) rfl (.take 26 false 47 _ rfl rfl rfl rfl) rfl rfl (by exact Rd.pk rfl rfl hb19 rfl) ?_
           refine U.r (o := _) rfl (.none rfl) rfl rfl (by exact Rd.pk' rfl rfl rfl rfl) ?_
           refine U.done ?_
           exact St.wk (hJ11 _ hm) (Wk.mk' [] rfl rfl (.eqs rfl) trivial rfl)
          ·refine U.sks 1 29 true 50 hb19 rfl rfl rfl ?_
           refine U.r (o := _) rfl (.take 26 false 47 _ rfl rfl rfl rfl) rfl rfl (by exact Rd.pk' rfl rfl hb19 rfl) ?_
           refine U.r (o := _) rfl (.none rfl) rfl rfl (by exact Rd.pk' rfl rfl rfl rfl) ?_
           refine U.done ?_
           exact St.wk (hJ11 _ hm) (Wk.mk' [] rfl rfl (.eqs rfl) trivial rfl)
         ·refine U.pg 2 17 false 38 hb18 T rfl rfl rfl rfl ?_
          refine U.r (o := _) rfl (.none rfl) rfl rfl (by exact Rd.pk' rfl rfl hb18 rfl) ?_
          refine U.ps 1 T rfl ?_
          refine hm.cs (fun hb20 hm => ?_) (fun hb20 hm => ?_)
          ·refine U.sks 2 21 false 42 hb20 rfl rfl rfl ?_
           refine U.r (o := _) rfl (.none rfl) rfl rfl (by exact Rd.pk rfl rfl hb20 rfl) ?_
           refine U.ps 2 T rfl ?_
           refine U.pg 3 26 false 47 rfl T rfl rfl rfl rfl ?_
           refine hm.cs (fun hb21 hm => ?_) (fun hb21 hm => ?_)
           ·refine U.pg 1 29 true 50 hb21 T rfl rfl rfl rfl ?_
            refine U.r (o := _) rfl (.take 26 false 47 _ rfl rfl rfl rfl) rfl rfl (by exact Rd.pk rfl rfl hb21 rfl) ?_
            refine U.r (o := _) rfl (.none rfl) rfl rfl (by exact Rd.pk' rfl rfl rfl rfl) ?_
            refine U.done ?_
            exact St.wk (hJ11 _ hm) (Wk.mk' [] rfl rfl (.eqs rfl) trivial rfl)
           ·refine U.sks 1 29 true 50 hb21 rfl rfl rfl ?_
            refine U.r (o := _) rfl (.take 26 false 47 _ rfl rfl rfl rfl) rfl rfl (by exact Rd.pk' rfl rfl hb21 rfl) ?_
            refine U.r (o := _) rfl (.none rfl) rfl rfl (by exact Rd.pk' rfl rfl rfl rfl) ?_
            refine U.done ?_
            exact St.wk (hJ11 _ hm) (Wk.mk' [] rfl rfl (.eqs rfl) trivial rfl)
          ·refine U.pg 2 21 false 42 hb20 T rfl rfl rfl rfl ?_
           refine U.r (o := _) rfl (.none rfl) rfl rfl (by exact Rd.pk' rfl rfl hb20 rfl) ?_
           refine U.ps 2 T rfl ?_
           refine hm.cs (fun hb22 hm => ?_) (fun hb22 hm => ?_)
           ·refine U.pg 3 26 false 47 (ntF hb22) T rfl rfl rfl rfl ?_
            refine hm.cs (fun hb23 hm => ?_) (fun hb23 hm => ?_)
            ·refine U.pg 1 29 true 50 hb23 T rfl rfl rfl rfl ?_
             refine U.r (o := _) rfl (.take 26 false 47 _ (ntF hb22) rfl rfl rfl) rfl rfl (by exact Rd.pk rfl rfl hb23 rfl) ?_
             refine U.r (o := _) rfl (.none rfl) rfl rfl (by exact Rd.pk' rfl rfl (ntF hb22) rfl) ?_
             refine U.done ?_
             exact St.wk (hJ11 _ hm) (Wk.mk' [] rfl rfl (.eqs rfl) trivial rfl)
            ·refine U.sks 1 29 true 50 hb23 rfl rfl rfl ?_
             refine U.r (o := _) rfl (.take 26 false 47 _ (ntF hb22) rfl rfl rfl) rfl rfl (by exact Rd.pk' rfl rfl hb23 rfl) ?_
             refine U.r (o := _) rfl (.none rfl) rfl rfl (by exact Rd.pk' rfl rfl (ntF hb22) rfl) ?_
             refine U.done ?_
             exact St.wk (hJ11 _ hm) (Wk.mk' [] rfl rfl (.eqs rfl) trivial rfl)
           ·refine U.sks 3 26 false 47 (ntT hb22) rfl rfl rfl ?_
            refine U.sku 1 29 true 50 rfl rfl rfl ?_
            refine U.sks 1 26 false 47 (ntT hb22) rfl rfl rfl ?_
            refine U.r (o := _) rfl (.none rfl) rfl rfl (by exact Rd.pk rfl rfl (ntT hb22) rfl) ?_
            refine U.done ?_
            exact St.wk (hJ11 _ hm) (Wk.mk' [] rfl rfl (.eqs rfl) trivial rfl)
       ·refine U.sks 2 9 true 30 hb15 rfl rfl rfl ?_
        refine U.r (o := _) rfl (.take 6 false 27 _ hb13 rfl rfl rfl) rfl rfl (by exact Rd.pk' rfl rfl hb15 rfl) ?_
        refine U.r (o := _) rfl (.none rfl) rfl rfl (by exact Rd.pk' rfl rfl hb13 rfl) ?_
        refine U.ps 1 T rfl ?_
        refine U.pg 1 14 false 35 rfl T rfl rfl rfl rfl ?_
        refine U.r (o := _) rfl (.none rfl) rfl rfl (by exact Rd.pk' rfl rfl rfl rfl) ?_
        refine U.ps 1 T rfl ?_
        refine hm.cs (fun hb24 hm => ?_) (fun hb24 hm => ?_)
        ·refine U.sks 2 17 false 38 hb24 rfl rfl rfl ?_
         refine U.r (o := _) rfl (.none rfl) rfl rfl (by exact Rd.pk rfl rfl hb24 rfl) ?_
         refine U.ps 1 T rfl ?_
         refine U.sks 2 21 false 42 rfl rfl rfl rfl ?_
         refine U.r (o := _) rfl (.none rfl) rfl rfl (by exact Rd.pk rfl rfl rfl rfl) ?_
         refine U.ps 2 T rfl ?_
         refine U.pg 3 26 false 47 rfl T rfl rfl rfl rfl ?_
         refine hm.cs (fun hb25 hm => ?_) (fun hb25 hm => ?_)
         ·refine U.pg 1 29 true 50 hb25 T rfl rfl rfl rfl ?_
          refine U.r (o := _) rfl (.take 26 false 47 _ rfl rfl rfl rfl) rfl rfl (by exact Rd.pk rfl rfl hb25 rfl) ?_
          refine U.r (o := _) rfl (.none rfl) rfl rfl (by exact Rd.pk' rfl rfl rfl rfl) ?_
          refine U.done ?_
          exact St.wk (hJ11 _ hm) (Wk.mk' [] rfl rfl (.eqs rfl) trivial rfl)
         ·refine U.sks 1 29 true 50 hb25 rfl rfl rfl ?_
          refine U.r (o := _) rfl (.take 26 false 47 _ rfl rfl rfl rfl) rfl rfl (by exact Rd.pk' rfl rfl hb25 rfl) ?_
          refine U.r (o := _) rfl (.none rfl) rfl rfl (by exact Rd.pk' rfl rfl rfl rfl) ?_
          refine U.done ?_
          exact St.wk (hJ11 _ hm) (Wk.mk' [] rfl rfl (.eqs rfl) trivial rfl)
        ·refine U.pg 2 17 false 38 hb24 T rfl rfl rfl rfl ?_
         refine U.r (o := _) rfl (.none rfl) rfl rfl (by exact Rd.pk' rfl rfl hb24 rfl) ?_
         refine U.ps 1 T rfl ?_
         refine hm.cs (fun hb26 hm => ?_) (fun hb26 hm => ?_)
         ·refine U.sks 2 21 false 42 hb26 rfl rfl rfl ?_
          refine U.r (o := _) rfl (.none rfl) rfl rfl (by exact Rd.pk rfl rfl hb26 rfl) ?_
          refine U.ps 2 T rfl ?_
          refine U.pg 3 26 false 47 rfl T rfl rfl rfl rfl ?_
          refine hm.cs (fun hb27 hm => ?_) (fun hb27 hm => ?_)
          ·refine U.pg 1 29 true 50 hb27 T rfl rfl rfl rfl ?_
           refine U.r (o := _) rfl (.take 26 false 47 _ rfl rfl rfl rfl) rfl rfl (by exact Rd.pk rfl rfl hb27 rfl) ?_
           refine U.r (o := _) rfl (.none rfl) rfl rfl (by exact Rd.pk' rfl rfl rfl rfl) ?_
           refine U.done ?_
           exact St.wk (hJ11 _ hm) (Wk.mk' [] rfl rfl (.eqs rfl) trivial rfl)
          ·refine U.sks 1 29 true 50 hb27 rfl rfl rfl ?_
           refine U.r (o := _) rfl (.take 26 false 47 _ rfl rfl rfl rfl) rfl rfl (by exact Rd.pk' rfl rfl hb27 rfl) ?_
           refine U.r (o := _) rfl (.none rfl) rfl rfl (by exact Rd.pk' rfl rfl rfl rfl) ?_
           refine U.done ?_
           exact St.wk (hJ11 _ hm) (Wk.mk' [] rfl rfl (.eqs rfl) trivial rfl)
         ·refine U.pg 2 21 false 42 hb26 T rfl rfl rfl rfl ?_
          refine U.r (o := _) rfl (.none rfl) rfl rfl (by exact Rd.pk' rfl rfl hb26 rfl) ?_
          refine U.ps 2 T rfl ?_
          refine hm.cs (fun hb28 hm => ?_) (fun hb28 hm => ?_)
          ·refine U.pg 3 26 false 47 (ntF hb28) T rfl rfl rfl rfl ?_
           refine hm.cs (fun hb29 hm => ?_) (fun hb29 hm => ?_)
           ·refine U.pg 1 29 true 50 hb29 T rfl rfl rfl rfl ?_
            refine U.r (o := _) rfl (.take 26 false 47 _ (ntF hb28) rfl rfl rfl) rfl rfl (by exact Rd.pk rfl rfl hb29 rfl) ?_
            refine U.r (o := _) rfl (.none rfl) rfl rfl (by exact Rd.pk' rfl rfl (ntF hb28) rfl) ?_
            refine U.done ?_
            exact St.wk (hJ11 _ hm) (Wk.mk' [] rfl rfl (.eqs rfl) trivial rfl)
           ·refine U.sks 1 29 true 50 hb29 rfl rfl rfl ?_
            refine U.r (o := _) rfl (.take 26 false 47 _ (ntF hb28) rfl rfl rfl) rfl rfl (by exact Rd.pk' rfl rfl hb29 rfl) ?_
            refine U.r (o := _) rfl (.none rfl) rfl rfl (by exact Rd.pk' rfl rfl (ntF hb28) rfl) ?_
            refine U.done ?_
            exact St.wk (hJ11 _ hm) (Wk.mk' [] rfl rfl (.eqs rfl) trivial rfl)
          ·refine U.sks 3 26 false 47 (ntT hb28) rfl rfl rfl ?_
           refine U.sku 1 29 true 50 rfl rfl rfl ?_
           refine U.sks 1 26 false 47 (ntT hb28) rfl rfl rfl ?_
           refine U.r (o := _) rfl (.none rfl) rfl rfl (by exact Rd.pk rfl rfl (ntT hb28) rfl) ?_
           refine U.done ?_
           exact St.wk (hJ11 _ hm) (Wk.mk' [] rfl rfl (.eqs rfl) trivial rfl)
     ·refine U.sks 2 2 true 23 hb12 rfl rfl rfl ?_
      refine U.r (o := _) rfl (.none rfl) rfl rfl (by exact Rd.pk' rfl rfl hb12 rfl) ?_
      refine U.ps 1 T rfl ?_
      refine U.pg 3 6 false 27 rfl T rfl rfl rfl rfl ?_
      refine hm.cs (fun hb30 hm => ?_) (fun hb30 hm => ?_)
      ·refine U.pg 2 9 true 30 hb30 T rfl rfl rfl rfl ?_
       refine U.r (o := _) rfl (.take 6 false 27 _ rfl rfl rfl rfl) rfl rfl (by exact Rd.pk rfl rfl hb30 rfl) ?_
       refine U.r (o := _) rfl (.none rfl) rfl rfl (by exact Rd.pk' rfl rfl rfl rfl) ?_
       refine U.ps 1 T rfl ?_
       refine hm.cs (fun hb31 hm => ?_) (fun hb31 hm => ?_)
       ·refine U.sks 1 14 false 35 hb31 rfl rfl rfl ?_
        refine U.r (o := _) rfl (.none rfl) rfl rfl (by exact Rd.pk rfl rfl hb31 rfl) ?_
        refine U.ps 1 T rfl ?_
        refine U.sks 2 17 false 38 rfl rfl rfl rfl ?_
        refine U.r (o := _) rfl (.none rfl) rfl rfl (by exact Rd.pk rfl rfl rfl rfl) ?_
        refine U.ps 1 T rfl ?_
        refine U.sks 2 21 false 42 rfl rfl rfl rfl ?_
        refine U.r (o := _) rfl (.none rfl) rfl rfl (by exact Rd.pk rfl rfl rfl rfl) ?_
        refine U.ps 2 T rfl ?_
        refine U.pg 3 26 false 47 rfl T rfl rfl rfl rfl ?_
        refine hm.cs (fun hb32 hm => ?_) (fun hb32 hm => ?_)
        ·refine U.pg 1 29 true 50 hb32 T rfl rfl rfl rfl ?_
         refine U.r (o := _) rfl (.take 26 false 47 _ rfl rfl rfl rfl) rfl rfl (by exact Rd.pk rfl rfl hb32 rfl) ?_
         refine U.r (o := _) rfl (.none rfl) rfl rfl (by exact Rd.pk' rfl rfl rfl rfl) ?_
         refine U.done ?_
         exact St.wk (hJ11 _ hm) (Wk.mk' [] rfl rfl (.eqs rfl) trivial rfl)
        ·refine U.sks 1 29 true 50 hb32 rfl rfl rfl ?_
         refine U.r (o := _) rfl (.take 26 false 47 _ rfl rfl rfl rfl) rfl rfl (by exact Rd.pk' rfl rfl hb32 rfl) ?_
         refine U.r (o := _) rfl (.none rfl) rfl rfl (by exact Rd.pk' rfl rfl rfl rfl) ?_
         refine U.done ?_
         exact St.wk (hJ11 _ hm) (Wk.mk' [] rfl rfl (.eqs rfl) trivial rfl)
       ·refine U.pg 1 14 false 35 hb31 T rfl rfl rfl rfl ?_
        refine U.r (o := _) rfl (.none rfl) rfl rfl (by exact Rd.pk' rfl rfl hb31 rfl) ?_
        refine U.ps 1 T rfl ?_
        refine hm.cs (fun hb33 hm => ?_) (fun hb33 hm => ?_)
        ·refine U.sks 2 17 false 38 hb33 rfl rfl rfl ?_
         refine U.r (o := _) rfl (.none rfl) rfl rfl (by exact Rd.pk rfl rfl hb33 rfl) ?_
         refine U.ps 1 T rfl ?_
         refine U.sks 2 21 false 42 rfl rfl rfl rfl ?_
         refine U.r (o := _) rfl (.none rfl) rfl rfl (by exact Rd.pk rfl rfl rfl rfl) ?_
         refine U.ps 2 T rfl ?_
         refine U.pg 3 26 false 47 rfl T rfl rfl rfl rfl ?_
         refine hm.cs (fun hb34 hm => ?_) (fun hb34 hm => ?_)
         ·refine U.pg 1 29 true 50 hb34 T rfl rfl rfl rfl ?_
          refine U.r (o := _) rfl (.take 26 false 47 _ rfl rfl rfl rfl) rfl rfl (by exact Rd.pk rfl rfl hb34 rfl) ?_
          refine U.r (o := _) rfl (.none rfl) rfl rfl (by exact Rd.pk' rfl rfl rfl rfl) ?_
          refine U.done ?_
          exact St.wk (hJ11 _ hm) (Wk.mk' [] rfl rfl (.eqs rfl) trivial rfl)
         ·refine U.sks 1 29 true 50 hb34 rfl rfl rfl ?_
          refine U.r (o := _) rfl (.take 26 false 47 _ rfl rfl rfl rfl) rfl rfl (by exact Rd.pk' rfl rfl hb34 rfl) ?_
          refine U.r (o := _) rfl (.none rfl) rfl rfl (by exact Rd.pk' rfl rfl rfl rfl) ?_
          refine U.done ?_
          exact St.wk (hJ11 _ hm) (Wk.mk' [] rfl rfl (.eqs rfl) trivial rfl)
        ·refine U.pg 2 17 false 38 hb33 T rfl rfl rfl rfl ?_
         refine U.r (o := _) rfl (.none rfl) rfl rfl (by exact Rd.pk' rfl rfl hb33 rfl) ?_
         refine U.ps 1 T rfl ?_
         refine hm.cs (fun hb35 hm => ?_) (fun hb35 hm => ?_)
         ·refine U.sks 2 21 false 42 hb35 rfl rfl rfl ?_
          refine U.r (o := _) rfl (.none rfl) rfl rfl (by exact Rd.pk rfl rfl hb35 rfl) ?_
          refine U.ps 2 T rfl ?_
          refine U.pg 3 26 false 47 rfl T rfl rfl rfl rfl ?_
          refine hm.cs (fun hb36 hm => ?_) (fun hb36 hm => ?_)
          ·refine U.pg 1 29 true 50 hb36 T rfl rfl rfl rfl ?_
           refine U.r (o := _) rfl (.take 26 false 47 _ rfl rfl rfl rfl) rfl rfl (by exact Rd.pk rfl rfl hb36 rfl) ?_
           refine U.r (o := _) rfl (.none rfl) rfl rfl (by exact Rd.pk' rfl rfl rfl rfl) ?_
           refine U.done ?_
           exact St.wk (hJ11 _ hm) (Wk.mk' [] rfl rfl (.eqs rfl) trivial rfl)
          ·refine U.sks 1 29 true 50 hb36 rfl rfl rfl ?_
           refine U.r (o := _) rfl (.take 26 false 47 _ rfl rfl rfl rfl) rfl rfl (by exact Rd.pk' rfl rfl hb36 rfl) ?_
           refine U.r (o := _) rfl (.none rfl) rfl rfl (by exact Rd.pk' rfl rfl rfl rfl) ?_
           refine U.done ?_
           exact St.wk (hJ11 _ hm) (Wk.mk' [] rfl rfl (.eqs rfl) trivial rfl)
         ·refine U.pg 2 21 false 42 hb35 T rfl rfl rfl rfl ?_
          refine U.r (o := _) rfl (.none rfl) rfl rfl (by exact Rd.pk' rfl rfl hb35 rfl) ?_
          refine U.ps 2 T rfl ?_
          refine hm.cs (fun hb37 hm => ?_) (fun hb37 hm => ?_)
          ·refine U.pg 3 26 false 47 (ntF hb37) T rfl rfl rfl rfl ?_
           refine hm.cs (fun hb38 hm => ?_) (fun hb38 hm => ?_)
           ·refine U.pg 1 29 true 50 hb38 T rfl rfl rfl rfl ?_
            refine U.r (o := _) rfl (.take 26 false 47 _ (ntF hb37) rfl rfl rfl) rfl rfl (by exact Rd.pk rfl rfl hb38 rfl) ?_
            refine U.r (o := _) rfl (.none rfl) rfl rfl (by exact Rd.pk' rfl rfl (ntF hb37) rfl) ?_
            refine U.done ?_
            exact St.wk (hJ11 _ hm) (Wk.mk' [] rfl rfl (.eqs rfl) trivial rfl)
           ·refine U.sks 1 29 true 50 hb38 rfl rfl rfl ?_
            refine U.r (o := _) rfl (.take 26 false 47 _ (ntF hb37) rfl rfl rfl) rfl rfl (by exact Rd.pk' rfl rfl hb38 rfl) ?_
            refine U.r (o := _) rfl (.none rfl) rfl rfl (by exact Rd.pk' rfl rfl (ntF hb37) rfl) ?_
            refine U.done ?_
            exact St.wk (hJ11 _ hm) (Wk.mk' [] rfl rfl (.eqs rfl) trivial rfl)
          ·refine U.sks 3 26 false 47 (ntT hb37) rfl rfl rfl ?_
           refine U.sku 1 29 true 50 rfl rfl rfl ?_
           refine U.sks 1 26 false 47 (ntT hb37) rfl rfl rfl ?_
           refine U.r (o := _) rfl (.none rfl) rfl rfl (by exact Rd.pk rfl rfl (ntT hb37) rfl) ?_
           refine U.done ?_
           exact St.wk (hJ11 _ hm) (Wk.mk' [] rfl rfl (.eqs rfl) trivial rfl)
      ·refine U.sks 2 9 true 30 hb30 rfl rfl rfl ?_
       refine U.r (o := _) rfl (.take 6 false 27 _ rfl rfl rfl rfl) rfl rfl (by exact Rd.pk' rfl rfl hb30 rfl) ?_
       refine U.r (o := _) rfl (.none rfl) rfl rfl (by exact Rd.pk' rfl rfl rfl rfl) ?_
       refine U.ps 1 T rfl ?_
       refine U.pg 1 14 false 35 rfl T rfl rfl rfl rfl ?_
       refine U.r (o := _) rfl (.none rfl) rfl rfl (by exact Rd.pk' rfl rfl rfl rfl) ?_
       refine U.ps 1 T rfl ?_
       refine hm.cs (fun hb39 hm => ?_) (fun hb39 hm => ?_)
       ·refine U.sks 2 17 false 38 hb39 rfl rfl rfl ?_
        refine U.r (o := _) rfl (.none rfl) rfl rfl (by exact Rd.pk rfl rfl hb39 rfl) ?_
        refine U.ps 1 T rfl ?_
        refine U.sks 2 21 false 42 rfl rfl rfl rfl ?_
        refine U.r (o := _) rfl (.none rfl) rfl rfl (by exact Rd.pk rfl rfl rfl rfl) ?_
        refine U.ps 2 T rfl ?_
        refine U.pg 3 26 false 47 rfl T rfl rfl rfl rfl ?_
        refine hm.cs (fun hb40 hm => ?_) (fun hb40 hm => ?_)
        ·refine U.pg 1 29 true 50 hb40 T rfl rfl rfl rfl ?_
         refine U.r (o := _) rfl (.take 26 false 47 _ rfl rfl rfl rfl) rfl rfl (by exact Rd.pk rfl rfl hb40 rfl) ?_
         refine U.r (o := _) rfl (.none rfl) rfl rfl (by exact Rd.pk' rfl rfl rfl rfl) ?_
         refine U.done ?_
         exact St.wk (hJ11 _ hm) (Wk.mk' [] rfl rfl (.eqs rfl) trivial rfl)
        ·refine U.sks 1 29 true 50 hb40 rfl rfl rfl ?_
         refine U.r (o := _) rfl (.take 26 false 47 _ rfl rfl rfl rfl) rfl rfl (by exact Rd.pk' rfl rfl hb40 rfl) ?_
         refine U.r (o := _) rfl (.none rfl) rfl rfl (by exact Rd.pk' rfl rfl rfl rfl) ?_
         refine U.done ?_
         exact St.wk (hJ11 _ hm) (Wk.mk' [] rfl rfl (.eqs rfl) trivial rfl)
       ·refine U.pg 2 17 false 38 hb39 T rfl rfl rfl rfl ?_
        refine U.r (o := _) rfl (.none rfl) rfl rfl (by exact Rd.pk' rfl rfl hb39 rfl) ?_
        refine U.ps 1 T rfl ?_
        refine hm.cs (fun hb41 hm => ?_) (fun hb41 hm => ?_)
        ·refine U.sks 2 21 false 42 hb41 rfl rfl rfl ?_
         refine U.r (o := _) rfl (.none rfl) rfl rfl (by exact Rd.pk rfl rfl hb41 rfl) ?_
         refine U.ps 2 T rfl ?_
         refine U.pg 3 26 false 47 rfl T rfl rfl rfl rfl ?_
         refine hm.cs (fun hb42 hm => ?_) (fun hb42 hm => ?_)
         ·refine U.pg 1 29 true 50 hb42 T rfl rfl rfl rfl ?_
          refine U.r (o := _) rfl (.take 26 false 47 _ rfl rfl rfl rfl) rfl rfl (by exact Rd.pk rfl rfl hb42 rfl) ?_
          refine U.r (o := _) rfl (.none rfl) rfl rfl (by exact Rd.pk' rfl rfl rfl rfl) ?_
          refine U.done ?_
          exact St.wk (hJ11 _ hm) (Wk.mk' [] rfl rfl (.eqs rfl) trivial rfl)
         ·refine U.sks 1 29 true 50 hb42 rfl rfl rfl ?_
          refine U.r (o := _) rfl (.take 26 false 47 _ rfl rfl rfl rfl) rfl rfl (by exact Rd.pk' rfl rfl hb42 rfl) ?_
          refine U.r (o := _) rfl (.none rfl) rfl rfl (by exact Rd.pk' rfl rfl rfl rfl) ?_
          refine U.done ?_
          exact St.wk (hJ11 _ hm) (Wk.mk' [] rfl rfl (.eqs rfl) trivial rfl)
        ·refine U.pg 2 21 false 42 hb41 T rfl rfl rfl rfl ?_
         refine U.r (o := _) rfl (.none rfl) rfl rfl (by exact Rd.pk' rfl rfl hb41 rfl) ?_
         refine U.ps 2 T rfl ?_
         refine hm.cs (fun hb43 hm => ?_) (fun hb43 hm => ?_)
         ·refine U.pg 3 26 false 47 (ntF hb43) T rfl rfl rfl rfl ?_
          refine hm.cs (fun hb44 hm => ?_) (fun hb44 hm => ?_)
          ·refine U.pg 1 29 true 50 hb44 T rfl rfl rfl rfl ?_
           refine U.r (o := _) rfl (.take 26 false 47 _ (ntF hb43) rfl rfl rfl) rfl rfl (by exact Rd.pk rfl rfl hb44 rfl) ?_
           refine U.r (o := _) rfl (.none rfl) rfl rfl (by exact Rd.pk' rfl rfl (ntF hb43) rfl) ?_
           refine U.done ?_
           exact St.wk (hJ11 _ hm) (Wk.mk' [] rfl rfl (.eqs rfl) trivial rfl)
          ·refine U.sks 1 29 true 50 hb44 rfl rfl rfl ?_
           refine U.r (o := _) rfl (.take 26 false 47 _ (ntF hb43) rfl rfl rfl) rfl rfl (by exact Rd.pk' rfl rfl hb44 rfl) ?_
           refine U.r (o := _) rfl (.none rfl) rfl rfl (by exact Rd.pk' rfl rfl (ntF hb43) rfl) ?_
           refine U.done ?_
           exact St.wk (hJ11 _ hm) (Wk.mk' [] rfl rfl (.eqs rfl) trivial rfl)
         ·refine U.sks 3 26 false 47 (ntT hb43) rfl rfl rfl ?_
          refine U.sku 1 29 true 50 rfl rfl rfl ?_
          refine U.sks 1 26 false 47 (ntT hb43) rfl rfl rfl ?_
          refine U.r (o := _) rfl (.none rfl) rfl rfl (by exact Rd.pk rfl rfl (ntT hb43) rfl) ?_
          refine U.done ?_
          exact St.wk (hJ11 _ hm) (Wk.mk' [] rfl rfl (.eqs rfl) trivial rfl)
   ·refine U.start ?_
    refine U.ps 3 T rfl ?_
    refine hm.cs (fun hb9 hm => ?_) (fun hb9 hm => ?_)
    ·refine U.pg 2 2 true 17 hb9 T rfl rfl rfl rfl ?_
     refine U.r (o := _) rfl (.none rfl) rfl rfl (by exact Rd.pk rfl rfl hb9 rfl) ?_
     refine U.ps 1 T rfl ?_
     refine U.done ?_
     exact St.wk (hJ8 _ hm) (Wk.mk' [] rfl rfl (.eqs rfl) trivial rfl)
    ·refine U.sks 2 2 true 17 hb9 rfl rfl rfl ?_
     refine U.r (o := _) rfl (.none rfl) rfl rfl (by exact Rd.pk' rfl rfl hb9 rfl) ?_
     refine U.ps 1 T rfl ?_
     refine U.done ?_
     exact St.wk (hJ8 _ hm) (Wk.mk' [] rfl rfl (.eqs rfl) trivial rfl)
  ·refine C.exit (C.ex (C.ex (C.bex ?_)))
   exact St.wk (hJ2 _ hm) (Wk.mk' [] rfl rfl (.eqs rfl) trivial rfl)
theorem T_taquinref11_named (l : List ApiZone) (name : ByteArray) (post : Int → Prop) (hm : V_taquinref11_named l name post) :
    Tr Try.prog 65 [.sl 5 eApiZone l, .v (.string name)] [] 0 (fun A H' k => ∃ y, post y ∧ A = (.i y) ∧ H' = [] ∧ k = 0) := by
 refine Tr.intro (n := 20) Try.func65 rfl Try.ntmps65 rfl (fun w0 ok F β hβ => ?_)
 unfold V_taquinref11_named at hm
 refine C.seq (U.start ?_)
 refine U.ps 1 T rfl ?_
 refine U.done (C.nx (C.seq (C.seq (U.start ?_))))
 refine U.ps 1 T rfl ?_
 refine U.done (C.nx ?_)
 refine C.jn (fun (x1 : Unit) => []) (fun (x1 : Unit) => []) 0 hm (fun x1 hm => ?_) (fun J2 hm hJ2 => ?_)
 ·refine C.nx (C.seq (U.start ?_))
  refine U.ps 1 T rfl ?_
  refine U.done (C.nx (C.ret ?_))
  exact C.fin T (rs' := [.i (-1)]) (H' := []) (nl' := 0) [] rfl rfl (.eq rfl) trivial rfl rfl rfl rfl hβ ⟨(-1), hm, rfl, rfl, rfl⟩
 ·refine C.block ?_
  refine St.wk (C.loop (fun (s3 : Int) => [(0, .sl 5 eApiZone l), (1, .v (.string name)), (5, .i s3)]) (fun (s3 : Int) => []) hm (fun s3 Y4 hm => ?_)) (Wk.mk' [] rfl rfl (.eqs rfl) trivial rfl)
  refine C.seq (C.seq (U.start ?_))
  refine U.ps 4 T rfl ?_
  refine U.done (C.nx ?_)
  refine C.ite rfl hm (fun hb5 hm => ?_) (fun hb5 hm => ?_)
  ·refine C.skip (C.nx (C.seq (C.block (C.seq (U.start ?_)))))
   refine U.ps 2 T rfl ?_
   obtain ⟨x6, hx6, hm⟩ := hm
   refine U.r (o := _) rfl (.none rfl) rfl rfl (by exact Rd.ix T rfl rfl rfl rfl rfl rfl hx6) ?_
   refine U.ps 4 T rfl ?_
   refine U.done (C.nx ?_)
   refine C.ite rfl hm (fun hb7 hm => ?_) (fun hb7 hm => ?_)
   ·refine C.seq (U.start ?_)
    refine U.ps 2 T rfl ?_
    refine U.done (C.nx (C.ret (C.brt (C.rt (C.rt (C.brt (C.rt ?_)))))))
    exact C.fin T (rs' := [.i s3]) (H' := []) (nl' := 0) [] rfl rfl (.eq rfl) trivial rfl rfl rfl rfl hβ ⟨s3, hm, rfl, rfl, rfl⟩
   ·refine C.skip (C.bnx (C.nx (U.start ?_)))
    refine U.ps 3 T rfl ?_
    refine U.done (C.nx ?_)
    exact St.wk (C.next hm) (Wk.mk' [] rfl rfl (.eqs rfl) trivial rfl)
  ·refine C.exit (C.ex (C.ex (C.bex ?_)))
   exact St.wk (hJ2 _ hm) (Wk.mk' [] rfl rfl trivial trivial rfl)
theorem T_taquinref11_spans (l : List ApiSpan) (post : Bool → Prop) (hm : V_taquinref11_spans l post) :
    Tr Try.prog 66 [.sl 2 eApiSpan l] [] 0 (fun A H' k => ∃ y, post y ∧ A = (.b y) ∧ H' = [] ∧ k = 0) := by
 refine Tr.intro (n := 44) Try.func66 rfl Try.ntmps66 rfl (fun w0 ok F β hβ => ?_)
 unfold V_taquinref11_spans at hm
 refine C.seq (U.start ?_)
 refine U.ps 1 T rfl ?_
 refine U.done (C.nx (C.seq (U.start ?_)))
 refine U.ps 1 T rfl ?_
 refine U.done (C.nx (C.seq (C.seq (U.start ?_))))
 refine U.ps 1 T rfl ?_
 refine U.done (C.nx ?_)
 refine C.jn (fun (x1 : Unit) => []) (fun (x1 : Unit) => []) 0 hm (fun x1 hm => ?_) (fun J2 hm hJ2 => ?_)
 ·refine C.nx (C.seq (U.start ?_))
  refine U.ps 1 T rfl ?_
  refine U.done (C.nx (C.ret ?_))
  exact C.fin T (rs' := [.b true]) (H' := []) (nl' := 0) [] rfl rfl (.eq rfl) trivial rfl rfl rfl rfl hβ ⟨true, hm, rfl, rfl, rfl⟩
 ·refine C.block ?_
  refine St.wk (C.loop (fun (s3 : Int × Int) => [(0, .sl 2 eApiSpan l), (3, .i s3.1), (4, .i s3.2)]) (fun (s3 : Int × Int) => []) hm (fun s3 Y4 hm => ?_)) (Wk.mk' [] rfl rfl (.eqs rfl) trivial rfl)
  refine C.seq (C.seq (U.start ?_))
  refine U.ps 4 T rfl ?_
  refine U.done (C.nx ?_)
  refine C.ite rfl hm (fun hb5 hm => ?_) (fun hb5 hm => ?_)
  ·refine C.skip (C.nx (C.seq (C.block (C.seq (C.seq ?_)))))
   refine C.jn (fun (x6 : Bool) => [(0, .sl 2 eApiSpan l), (4, .i s3.2), (38, .b x6)]) (fun (x6 : Bool) => []) 0 hm (fun x6 hm => ?_) (fun J7 hm hJ7 => ?_)
   ·refine C.nx ?_
    refine C.ite rfl hm (fun hb11 hm => ?_) (fun hb11 hm => ?_)
    ·refine C.seq (U.start ?_)
     refine U.ps 1 T rfl ?_
     refine U.done (C.nx (C.ret (C.rt (C.brt (C.rt (C.rt (C.brt (C.rt ?_))))))))
     exact C.fin T (rs' := [.b false]) (H' := []) (nl' := 0) [] rfl rfl (.eq rfl) trivial rfl rfl rfl rfl hβ ⟨false, hm, rfl, rfl, rfl⟩
    ·refine C.skip (C.nx (U.start ?_))
     refine U.ps 2 T rfl ?_
     obtain ⟨x12, hx12, hm⟩ := hm
     refine U.r (o := _) rfl (.none rfl) rfl rfl (by exact Rd.ix T rfl rfl rfl rfl rfl rfl hx12) ?_
     refine U.ps 3 T rfl ?_
     refine U.done (C.bnx (C.nx (U.start ?_)))
     refine U.ps 3 T rfl ?_
     refine U.done (C.nx ?_)
     exact St.wk (C.next hm) (Wk.mk' [] rfl rfl (.eqs rfl) trivial rfl)
   ·refine D.beg 9999 [] [] mix rfl rfl (by kernel_rfl) (by repeat (first | exact NoPanicQ.body | refine NoPanicQ.th ?_ | refine NoPanicQ.blk ?_)) (fun hQ hS ws M' => ?_)
    refine D.ps 2 [(0, []), (1, [])] rfl hQ hS T rfl rfl (by kernel_rfl) ?_
    obtain ⟨x8, hx8, hm⟩ := hm
    refine D.q (o := _) 2 [] hQ hS rfl (.none rfl) rfl rfl (by exact Rd.ix T rfl rfl rfl rfl rfl rfl hx8) rfl (by kernel_rfl) ?_
    refine D.ps 5 [(3, []), (4, []), (5, []), (6, []), (7, [])] rfl hQ hS T rfl rfl (by kernel_rfl) ?_
    refine hm.cs (fun hb9 hm => ?_) (fun hb9 hm => ?_)
    ·refine D.sq (o := _) 8 [] hQ hS rfl (.skip 7 false 18 _ hb9 rfl rfl rfl) rfl rfl (by kernel_rfl) ?_
     refine D.sq (o := _) 9 [] hQ hS rfl (.skip 7 false 18 _ hb9 rfl rfl rfl) rfl rfl (by kernel_rfl) ?_
     refine D.sq (o := _) 10 [] hQ hS rfl (.skip 7 false 18 _ hb9 rfl rfl rfl) rfl rfl (by kernel_rfl) ?_
     refine D.sq (o := _) 11 [] hQ hS rfl (.skip 7 false 18 _ hb9 rfl rfl rfl) rfl rfl (by kernel_rfl) ?_
     refine D.sq (o := _) 12 [] hQ hS rfl (.skip 7 false 18 _ hb9 rfl rfl rfl) rfl rfl (by kernel_rfl) ?_
     refine D.sq (o := _) 13 [] hQ hS rfl (.skip 7 false 18 _ hb9 rfl rfl rfl) rfl rfl (by kernel_rfl) ?_
     refine D.sq (o := _) 14 [] hQ hS rfl (.skip 7 false 18 _ hb9 rfl rfl rfl) rfl rfl (by kernel_rfl) ?_
     refine D.sq (o := _) 15 [] hQ hS rfl (.skip 7 false 18 _ hb9 rfl rfl rfl) rfl rfl (by kernel_rfl) ?_
     refine D.sq (o := _) 16 [] hQ hS rfl (.skip 7 false 18 _ hb9 rfl rfl rfl) rfl rfl (by kernel_rfl) ?_
     refine D.sq (o := _) 17 [] hQ hS rfl (.skip 7 false 18 _ hb9 rfl rfl rfl) rfl rfl (by kernel_rfl) ?_
     refine D.sq (o := _) 18 [] hQ hS rfl (.skip 7 false 18 _ hb9 rfl rfl rfl) rfl rfl (by kernel_rfl) ?_
     refine D.q (o := _) 19 [] hQ hS rfl (.none rfl) rfl rfl (by exact Rd.pk rfl rfl hb9 rfl) rfl (by kernel_rfl) ?_
     refine D.ps 1 [(20, [])] rfl hQ hS T rfl rfl (by kernel_rfl) ?_
     refine D.sq (o := _) 21 [] hQ hS rfl (.skip 20 false 31 _ rfl rfl rfl rfl) rfl rfl (by kernel_rfl) ?_
     refine D.sq (o := _) 22 [] hQ hS rfl (.skip 20 false 31 _ rfl rfl rfl rfl) rfl rfl (by kernel_rfl) ?_
     refine D.sq (o := _) 23 [] hQ hS rfl (.skip 20 false 31 _ rfl rfl rfl rfl) rfl rfl (by kernel_rfl) ?_
     refine D.sq (o := _) 24 [] hQ hS rfl (.skip 20 false 31 _ rfl rfl rfl rfl) rfl rfl (by kernel_rfl) ?_
     refine D.sq (o := _) 25 [] hQ hS rfl (.skip 20 false 31 _ rfl rfl rfl rfl) rfl rfl (by kernel_rfl) ?_
     refine D.sq (o := _) 26 [] hQ hS rfl (.skip 20 false 31 _ rfl rfl rfl rfl) rfl rfl (by kernel_rfl) ?_
     refine D.q (o := _) 27 [] hQ hS rfl (.none rfl) rfl rfl (by exact Rd.pk rfl rfl rfl rfl) rfl (by kernel_rfl) ?_
     refine D.done (by kernel_rfl) ?_
     exact St.wk (hJ7 _ hm) (Wk.mk' [] rfl rfl (.eqs rfl) trivial rfl)
    ·refine D.q (o := _) 8 [] hQ hS rfl (.take 7 false 18 _ hb9 rfl rfl rfl) rfl rfl (by exact Rd.p T rfl) rfl (by kernel_rfl) ?_
     refine D.q (o := _) 9 [] hQ hS rfl (.take 7 false 18 _ hb9 rfl rfl rfl) rfl rfl (by exact Rd.p T rfl) rfl (by kernel_rfl) ?_
     refine D.q (o := _) 10 [] hQ hS rfl (.take 7 false 18 _ hb9 rfl rfl rfl) rfl rfl (by exact Rd.ix T rfl rfl rfl rfl rfl rfl hx8) rfl (by kernel_rfl) ?_
     refine D.q (o := _) 11 [] hQ hS rfl (.take 7 false 18 _ hb9 rfl rfl rfl) rfl rfl (by exact Rd.p T rfl) rfl (by kernel_rfl) ?_
     refine D.q (o := _) 12 [] hQ hS rfl (.take 7 false 18 _ hb9 rfl rfl rfl) rfl rfl (by exact Rd.l T rfl rfl rfl) rfl (by kernel_rfl) ?_
     refine D.q (o := _) 13 [] hQ hS rfl (.take 7 false 18 _ hb9 rfl rfl rfl) rfl rfl (by exact Rd.p T rfl) rfl (by kernel_rfl) ?_
     refine D.q (o := _) 14 [] hQ hS rfl (.take 7 false 18 _ hb9 rfl rfl rfl) rfl rfl (by exact Rd.p T rfl) rfl (by kernel_rfl) ?_
     refine D.q (o := _) 15 [] hQ hS rfl (.take 7 false 18 _ hb9 rfl rfl rfl) rfl rfl (by exact Rd.ix T rfl rfl rfl rfl rfl rfl hx8) rfl (by kernel_rfl) ?_
     refine D.q (o := _) 16 [] hQ hS rfl (.take 7 false 18 _ hb9 rfl rfl rfl) rfl rfl (by exact Rd.p T rfl) rfl (by kernel_rfl) ?_
     refine D.q (o := _) 17 [] hQ hS rfl (.take 7 false 18 _ hb9 rfl rfl rfl) rfl rfl (by exact Rd.l T rfl rfl rfl) rfl (by kernel_rfl) ?_
     refine D.q (o := _) 18 [] hQ hS rfl (.take 7 false 18 _ hb9 rfl rfl rfl) rfl rfl (by exact Rd.p T rfl) rfl (by kernel_rfl) ?_
     refine D.q (o := _) 19 [] hQ hS rfl (.none rfl) rfl rfl (by exact Rd.pk' rfl rfl hb9 rfl) rfl (by kernel_rfl) ?_
     refine D.ps 1 [(20, [])] rfl hQ hS T rfl rfl (by kernel_rfl) ?_
     refine hm.cs (fun hb10 hm => ?_) (fun hb10 hm => ?_)
     ·refine D.sq (o := _) 21 [] hQ hS rfl (.skip 20 false 31 _ hb10 rfl rfl rfl) rfl rfl (by kernel_rfl) ?_
      refine D.sq (o := _) 22 [] hQ hS rfl (.skip 20 false 31 _ hb10 rfl rfl rfl) rfl rfl (by kernel_rfl) ?_
      refine D.sq (o := _) 23 [] hQ hS rfl (.skip 20 false 31 _ hb10 rfl rfl rfl) rfl rfl (by kernel_rfl) ?_
      refine D.sq (o := _) 24 [] hQ hS rfl (.skip 20 false 31 _ hb10 rfl rfl rfl) rfl rfl (by kernel_rfl) ?_
      refine D.sq (o := _) 25 [] hQ hS rfl (.skip 20 false 31 _ hb10 rfl rfl rfl) rfl rfl (by kernel_rfl) ?_
      refine D.sq (o := _) 26 [] hQ hS rfl (.skip 20 false 31 _ hb10 rfl rfl rfl) rfl rfl (by kernel_rfl) ?_
      refine D.q (o := _) 27 [] hQ hS rfl (.none rfl) rfl rfl (by exact Rd.pk rfl rfl hb10 rfl) rfl (by kernel_rfl) ?_
      refine D.done (by kernel_rfl) ?_
      exact St.wk (hJ7 _ hm) (Wk.mk' [] rfl rfl (.eqs rfl) trivial rfl)
     ·refine D.q (o := _) 21 [] hQ hS rfl (.take 20 false 31 _ hb10 rfl rfl rfl) rfl rfl (by exact Rd.p T rfl) rfl (by kernel_rfl) ?_
      refine D.q (o := _) 22 [] hQ hS rfl (.take 20 false 31 _ hb10 rfl rfl rfl) rfl rfl (by exact Rd.p T rfl) rfl (by kernel_rfl) ?_
      refine D.q (o := _) 23 [] hQ hS rfl (.take 20 false 31 _ hb10 rfl rfl rfl) rfl rfl (by exact Rd.ix T rfl rfl rfl rfl rfl rfl hx8) rfl (by kernel_rfl) ?_
      refine D.q (o := _) 24 [] hQ hS rfl (.take 20 false 31 _ hb10 rfl rfl rfl) rfl rfl (by exact Rd.p T rfl) rfl (by kernel_rfl) ?_
      refine D.q (o := _) 25 [] hQ hS rfl (.take 20 false 31 _ hb10 rfl rfl rfl) rfl rfl (by exact Rd.l T rfl rfl rfl) rfl (by kernel_rfl) ?_
      refine D.q (o := _) 26 [] hQ hS rfl (.take 20 false 31 _ hb10 rfl rfl rfl) rfl rfl (by exact Rd.p T rfl) rfl (by kernel_rfl) ?_
      refine D.q (o := _) 27 [] hQ hS rfl (.none rfl) rfl rfl (by exact Rd.pk' rfl rfl hb10 rfl) rfl (by kernel_rfl) ?_
      refine D.done (by kernel_rfl) ?_
      exact St.wk (hJ7 _ hm) (Wk.mk' [] rfl rfl (.eqs rfl) trivial rfl)
  ·refine C.exit (C.ex (C.ex (C.bex ?_)))
   exact St.wk (hJ2 _ hm) (Wk.mk' [] rfl rfl trivial trivial rfl)
theorem T_taquinref07_Size (f : ApiFloor) (post : Int → Prop) (hm : V_taquinref07_Size f post) :
    Tr Try.prog 31 [.agg (eApiFloor f)] [] 0 (fun A H' k => ∃ y, post y ∧ A = (.i y) ∧ H' = [] ∧ k = 0) := by
 refine Tr.intro (n := 11) Try.func31 rfl Try.ntmps31 rfl (fun w0 ok F β hβ => ?_)
 unfold V_taquinref07_Size at hm
 refine C.seq (U.start ?_)
 refine U.e1 (o := _) rfl (.none rfl) (by exact Eff1.box rfl rfl rfl rfl rfl) ?_
 refine U.ps 1 T rfl ?_
 refine U.done (C.nx (C.seq (U.start ?_)))
 refine U.ps 9 T rfl ?_
 refine U.done (C.nx (C.ret ?_))
 exact C.fin T (rs' := [.i (w64 ((w64 (f.W * f.H)) * f.D))]) (H' := []) (nl' := 0) [] rfl rfl (.eq rfl) trivial rfl rfl rfl rfl hβ ⟨w64 ((w64 (f.W * f.H)) * f.D), hm, rfl, rfl, rfl⟩
theorem T_taquinref07_Is (f : ApiFloor) (c : Int) (post : Bool → Prop) (hm : V_taquinref07_Is f c post) :
    Tr Try.prog 34 [.agg (eApiFloor f), .i c] [] 0 (fun A H' k => ∃ y, post y ∧ A = (.b y) ∧ H' = [] ∧ k = 0) := by
 refine Tr.intro (n := 13) Try.func34 rfl Try.ntmps34 rfl (fun w0 ok F β hβ => ?_)
 unfold V_taquinref07_Is at hm
 refine C.seq (U.start ?_)
 refine U.e1 (o := _) rfl (.none rfl) (by exact Eff1.box rfl rfl rfl rfl rfl) ?_
 refine U.ps 1 T rfl ?_
 refine U.done (C.nx (C.seq ?_))
 refine C.jn (fun (x1 : Bool) => [(4, .b x1)]) (fun (x1 : Bool) => []) 0 hm (fun x1 hm => ?_) (fun J2 hm hJ2 => ?_)
 ·refine C.nx (C.ret ?_)
  exact C.fin T (rs' := [.b x1]) (H' := []) (nl' := 0) [] rfl rfl (.eq rfl) trivial rfl rfl rfl rfl hβ ⟨x1, hm, rfl, rfl, rfl⟩
 ·refine U.start ?_
  refine U.ps 3 T rfl ?_
  refine hm.cs (fun hb3 hm => ?_) (fun hb3 hm => ?_)
  ·refine U.pg 2 2 true 7 hb3 T rfl rfl rfl rfl ?_
   refine U.e (o := _) rfl (.take 2 true 7 _ hb3 rfl rfl rfl) (by exact Eff.c [] (v := true) (T_taquinref07_Size f _ hm) en31 rfl rfl rfl (.eq rfl) trivial rfl rfl rfl rfl rfl rfl (fun _ _ => ⟨(.v _), trivial⟩) (.inr ⟨rfl, rfl⟩) (fun _ => rfl) (fun _ => rfl) rfl) (fun x4' hm => ?_)
   obtain ⟨x4⟩ := x4'
   refine U.pg 1 2 true 7 hb3 T rfl rfl rfl rfl ?_
   refine U.r (o := _) rfl (.none rfl) rfl rfl (by exact Rd.pk rfl rfl hb3 rfl) ?_
   refine U.ps 1 T rfl ?_
   refine U.done ?_
   exact St.wk (hJ2 _ hm) (Wk.mk' [] rfl rfl (.eqs rfl) trivial rfl)
  ·refine U.sks 4 2 true 7 hb3 rfl rfl rfl ?_
   refine U.r (o := _) rfl (.none rfl) rfl rfl (by exact Rd.pk' rfl rfl hb3 rfl) ?_
   refine U.ps 1 T rfl ?_
   refine U.done ?_
   exact St.wk (hJ2 _ hm) (Wk.mk' [] rfl rfl (.eqs rfl) trivial rfl)
theorem T_taquinref11_zoned (kind : Int) (post : Bool → Prop) (hm : V_taquinref11_zoned kind post) :
    Tr Try.prog 67 [.i kind] [] 0 (fun A H' k => ∃ y, post y ∧ A = (.b y) ∧ H' = [] ∧ k = 0) := by
 refine Tr.intro (n := 13) Try.func67 rfl Try.ntmps67 rfl (fun w0 ok F β hβ => ?_)
 unfold V_taquinref11_zoned at hm
 refine C.seq (U.start ?_)
 refine U.ps 1 T rfl ?_
 refine U.done (C.nx (C.seq ?_))
 refine C.jn (fun (x1 : Bool) => [(2, .b x1)]) (fun (x1 : Bool) => []) 0 hm (fun x1 hm => ?_) (fun J2 hm hJ2 => ?_)
 ·refine C.nx (C.ret ?_)
  exact C.fin T (rs' := [.b x1]) (H' := []) (nl' := 0) [] rfl rfl (.eq rfl) trivial rfl rfl rfl rfl hβ ⟨x1, hm, rfl, rfl, rfl⟩
 ·refine U.start ?_
  refine U.ps 3 T rfl ?_
  refine hm.cs (fun hb3 hm => ?_) (fun hb3 hm => ?_)
  ·refine U.pg 2 2 true 5 hb3 T rfl rfl rfl rfl ?_
   refine U.r (o := _) rfl (.none rfl) rfl rfl (by exact Rd.pk rfl rfl hb3 rfl) ?_
   refine U.ps 1 T rfl ?_
   refine hm.cs (fun hb4 hm => ?_) (fun hb4 hm => ?_)
   ·refine U.pg 2 6 true 9 hb4 T rfl rfl rfl rfl ?_
    refine U.r (o := _) rfl (.none rfl) rfl rfl (by exact Rd.pk rfl rfl hb4 rfl) ?_
    refine U.ps 1 T rfl ?_
    refine U.done ?_
    exact St.wk (hJ2 _ hm) (Wk.mk' [] rfl rfl (.eqs rfl) trivial rfl)
   ·refine U.sks 2 6 true 9 hb4 rfl rfl rfl ?_
    refine U.r (o := _) rfl (.none rfl) rfl rfl (by exact Rd.pk' rfl rfl hb4 rfl) ?_
    refine U.ps 1 T rfl ?_
    refine U.done ?_
    exact St.wk (hJ2 _ hm) (Wk.mk' [] rfl rfl (.eqs rfl) trivial rfl)
  ·refine U.sks 2 2 true 5 hb3 rfl rfl rfl ?_
   refine U.r (o := _) rfl (.none rfl) rfl rfl (by exact Rd.pk' rfl rfl hb3 rfl) ?_
   refine U.ps 1 T rfl ?_
   refine U.sks 2 6 true 9 rfl rfl rfl rfl ?_
   refine U.r (o := _) rfl (.none rfl) rfl rfl (by exact Rd.pk' rfl rfl rfl rfl) ?_
   refine U.ps 1 T rfl ?_
   refine U.done ?_
   exact St.wk (hJ2 _ hm) (Wk.mk' [] rfl rfl (.eqs rfl) trivial rfl)
theorem T_taquinref07_Has (l : List Int) (n : Int) (post : Bool → Prop) (hm : V_taquinref07_Has l n post) :
    Tr Try.prog 55 [.sl 1 eI l, .i n] [] 0 (fun A H' k => ∃ y, post y ∧ A = (.b y) ∧ H' = [] ∧ k = 0) := by
 refine Tr.intro (n := 18) Try.func55 rfl Try.ntmps55 rfl (fun w0 ok F β hβ => ?_)
 unfold V_taquinref07_Has at hm
 refine C.seq (U.start ?_)
 refine U.ps 1 T rfl ?_
 refine U.done (C.nx (C.seq (C.seq (U.start ?_))))
 refine U.ps 1 T rfl ?_
 refine U.done (C.nx ?_)
 refine C.jn (fun (x1 : Unit) => []) (fun (x1 : Unit) => []) 0 hm (fun x1 hm => ?_) (fun J2 hm hJ2 => ?_)
 ·refine C.nx (C.seq (U.start ?_))
  refine U.ps 1 T rfl ?_
  refine U.done (C.nx (C.ret ?_))
  exact C.fin T (rs' := [.b false]) (H' := []) (nl' := 0) [] rfl rfl (.eq rfl) trivial rfl rfl rfl rfl hβ ⟨false, hm, rfl, rfl, rfl⟩
 ·refine C.block ?_
  refine St.wk (C.loop (fun (s3 : Int) => [(0, .sl 1 eI l), (1, .i n), (5, .i s3)]) (fun (s3 : Int) => []) hm (fun s3 Y4 hm => ?_)) (Wk.mk' [] rfl rfl (.eqs rfl) trivial rfl)
  refine C.seq (C.seq (U.start ?_))
  refine U.ps 4 T rfl ?_
  refine U.done (C.nx ?_)
  refine C.ite rfl hm (fun hb5 hm => ?_) (fun hb5 hm => ?_)
  ·refine C.skip (C.nx (C.seq (C.block (C.seq (U.start ?_)))))
   refine U.ps 2 T rfl ?_
   obtain ⟨x6, hx6, hm⟩ := hm
   refine U.r (o := _) rfl (.none rfl) rfl rfl (by exact Rd.ix T rfl rfl rfl rfl rfl rfl hx6) ?_
   refine U.ps 3 T rfl ?_
   refine U.done (C.nx ?_)
   refine C.ite rfl hm (fun hb7 hm => ?_) (fun hb7 hm => ?_)
   ·refine C.seq (U.start ?_)
    refine U.ps 1 T rfl ?_
    refine U.done (C.nx (C.ret (C.brt (C.rt (C.rt (C.brt (C.rt ?_)))))))
    exact C.fin T (rs' := [.b true]) (H' := []) (nl' := 0) [] rfl rfl (.eq rfl) trivial rfl rfl rfl rfl hβ ⟨true, hm, rfl, rfl, rfl⟩
   ·refine C.skip (C.bnx (C.nx (U.start ?_)))
    refine U.ps 3 T rfl ?_
    refine U.done (C.nx ?_)
    exact St.wk (C.next hm) (Wk.mk' [] rfl rfl (.eqs rfl) trivial rfl)
  ·refine C.exit (C.ex (C.ex (C.bex ?_)))
   exact St.wk (hJ2 _ hm) (Wk.mk' [] rfl rfl trivial trivial rfl)
theorem T_taquinref11_zoneAt (l : List ApiZone) (c : Int) (post : Bool → Prop) (hm : V_taquinref11_zoneAt l c post) :
    Tr Try.prog 68 [.sl 5 eApiZone l, .i c] [] 0 (fun A H' k => ∃ y, post y ∧ A = (.b y) ∧ H' = [] ∧ k = 0) := by
 refine Tr.intro (n := 19) Try.func68 rfl Try.ntmps68 rfl (fun w0 ok F β hβ => ?_)
 unfold V_taquinref11_zoneAt at hm
 refine C.seq (U.start ?_)
 refine U.ps 1 T rfl ?_
 refine U.done (C.nx (C.seq (C.seq (U.start ?_))))
 refine U.ps 1 T rfl ?_
 refine U.done (C.nx ?_)
 refine C.jn (fun (x1 : Unit) => []) (fun (x1 : Unit) => []) 0 hm (fun x1 hm => ?_) (fun J2 hm hJ2 => ?_)
 ·refine C.nx (C.seq (U.start ?_))
  refine U.ps 1 T rfl ?_
  refine U.done (C.nx (C.ret ?_))
  exact C.fin T (rs' := [.b false]) (H' := []) (nl' := 0) [] rfl rfl (.eq rfl) trivial rfl rfl rfl rfl hβ ⟨false, hm, rfl, rfl, rfl⟩
 ·refine C.block ?_
  refine St.wk (C.loop (fun (s3 : Int) => [(0, .sl 5 eApiZone l), (1, .i c), (5, .i s3)]) (fun (s3 : Int) => []) hm (fun s3 Y4 hm => ?_)) (Wk.mk' [] rfl rfl (.eqs rfl) trivial rfl)
  refine C.seq (C.seq (U.start ?_))
  refine U.ps 4 T rfl ?_
  refine U.done (C.nx ?_)
  refine C.ite rfl hm (fun hb5 hm => ?_) (fun hb5 hm => ?_)
  ·refine C.skip (C.nx (C.seq (C.block (C.seq (U.start ?_)))))
   refine U.ps 2 T rfl ?_
   obtain ⟨x6, hx6, hm⟩ := hm
   refine U.r (o := _) rfl (.none rfl) rfl rfl (by exact Rd.ix T rfl rfl rfl rfl rfl rfl hx6) ?_
   refine U.ps 3 T rfl ?_
   refine U.e (o := _) rfl (.none rfl) (by exact Eff.c [] (v := true) (T_taquinref07_Has x6.Cells c _ hm) en55 rfl rfl rfl (.eq rfl) trivial rfl rfl rfl rfl rfl rfl (fun _ _ => ⟨(.v _), trivial⟩) (.inr ⟨rfl, rfl⟩) (fun _ => rfl) (fun _ => rfl) rfl) (fun x7' hm => ?_)
   obtain ⟨x7⟩ := x7'
   refine U.done (C.nx ?_)
   refine C.ite rfl hm (fun hb8 hm => ?_) (fun hb8 hm => ?_)
   ·refine C.seq (U.start ?_)
    refine U.ps 1 T rfl ?_
    refine U.done (C.nx (C.ret (C.brt (C.rt (C.rt (C.brt (C.rt ?_)))))))
    exact C.fin T (rs' := [.b true]) (H' := []) (nl' := 0) [] rfl rfl (.eq rfl) trivial rfl rfl rfl rfl hβ ⟨true, hm, rfl, rfl, rfl⟩
   ·refine C.skip (C.bnx (C.nx (U.start ?_)))
    refine U.ps 3 T rfl ?_
    refine U.done (C.nx ?_)
    exact St.wk (C.next hm) (Wk.mk' [] rfl rfl (.eqs rfl) trivial rfl)
  ·refine C.exit (C.ex (C.ex (C.bex ?_)))
   exact St.wk (hJ2 _ hm) (Wk.mk' [] rfl rfl trivial trivial rfl)
theorem T_taquinref11_rightZones (s_1 : ApiSite) (post : Bool → Prop) (hm : V_taquinref11_rightZones s_1 post) :
    Tr Try.prog 40 [.agg (eApiSite s_1)] [] 0 (fun A H' k => ∃ y, post y ∧ A = (.b y) ∧ H' = [] ∧ k = 0) := by
 refine Tr.intro (n := 112) Try.func40 rfl Try.ntmps40 rfl (fun w0 ok F β hβ => ?_)
 unfold V_taquinref11_rightZones at hm
 refine C.seq (U.start ?_)
 refine U.e1 (o := _) rfl (.none rfl) (by exact Eff1.box rfl rfl rfl rfl rfl) ?_
 refine U.ps 1 T rfl ?_
 refine U.done (C.nx (C.seq (C.seq (U.start ?_))))
 refine U.ps 1 T rfl ?_
 refine U.done (C.nx ?_)
 refine C.jn (fun (x1 : Unit) => [(1, .p 0 0)]) (fun (x1 : Unit) => [(0, .box (eApiSite s_1))]) 1 hm (fun x1 hm => ?_) (fun J2 hm hJ2 => ?_)
 ·refine C.nx (C.seq (U.start ?_))
  refine U.ps 5 T rfl ?_
  refine U.done (C.nx (C.ret ?_))
  exact C.fin T (rs' := [.b (decide ((s_1.Zones.length : Int) ≤ 64))]) (H' := []) (nl' := 0) [] rfl rfl (.eq rfl) trivial rfl rfl rfl rfl hβ ⟨decide ((s_1.Zones.length : Int) ≤ 64), hm, rfl, rfl, rfl⟩
 ·refine C.block ?_
  refine St.wk (C.loop (fun (s3 : Int) => [(1, .p 0 0), (3, .i s3)]) (fun (s3 : Int) => [(0, .box (eApiSite s_1))]) hm (fun s3 Y4 hm => ?_)) (Wk.mk' [some 0] rfl rfl (.eqs rfl) ⟨⟨_, rfl, .box rfl (.eq rfl)⟩, trivial⟩ rfl)
  refine C.seq (C.seq (U.start ?_))
  refine U.ps 5 T rfl ?_
  refine U.done (C.nx ?_)
  refine C.ite rfl hm (fun hb5 hm => ?_) (fun hb5 hm => ?_)
  ·refine C.skip (C.nx (C.seq ?_))
   refine C.jn (fun (x6 : Unit) => [(1, .p 0 0), (3, .i s3)]) (fun (x6 : Unit) => [(0, .box (eApiSite s_1))]) 1 hm (fun x6 hm => ?_) (fun J7 hm hJ7 => ?_)
   ·refine C.nx (U.start ?_)
    refine U.ps 3 T rfl ?_
    refine U.done (C.nx ?_)
    exact St.wk (C.next hm) (Wk.mk' [some 0] rfl rfl (.eqs rfl) ⟨⟨_, rfl, .box rfl (.eq rfl)⟩, trivial⟩ rfl)
   ·refine C.block (C.seq (U.start ?_))
    refine U.ps 3 T rfl ?_
    obtain ⟨x8, hx8, hm⟩ := hm
    refine U.r (o := _) rfl (.none rfl) rfl rfl (by exact Rd.ix T rfl rfl rfl rfl rfl rfl hx8) ?_
    refine U.ps 1 T rfl ?_
    refine U.e1 (o := _) rfl (.none rfl) (by exact Eff1.al T rfl rfl rfl rfl) ?_
    refine U.e1 (o := _) rfl (.none rfl) (by exact Eff1.st T rfl rfl rfl rfl rfl rfl rfl rfl rfl rfl) ?_
    refine U.done (C.nx (C.seq (C.seq ?_)))
    refine C.jn (fun (x9 : Bool) => [(1, .p 0 0), (3, .i s3), (4, .p 1 0), (59, .b x9)]) (fun (x9 : Bool) => [(0, .box (eApiSite s_1)), (1, .box (eApiZone x8))]) 2 hm (fun x9 hm => ?_) (fun J10 hm hJ10 => ?_)
    ·refine C.nx ?_
     refine C.ite rfl hm (fun hb21 hm => ?_) (fun hb21 hm => ?_)
     ·refine C.seq (U.start ?_)
      refine U.ps 1 T rfl ?_
      refine U.done (C.nx (C.ret (C.rt (C.brt (C.rt (C.rt (C.brt (C.rt ?_))))))))
      exact C.fin T (rs' := [.b false]) (H' := []) (nl' := 0) [] rfl rfl (.eq rfl) trivial rfl rfl rfl rfl hβ ⟨false, hm, rfl, rfl, rfl⟩
     ·refine C.skip (C.nx (C.seq (U.start ?_)))
      refine U.ps 1 T rfl ?_
      refine U.done (C.nx ?_)
      refine C.jn (fun (x22 : Unit) => [(1, .p 0 0), (3, .i s3)]) (fun (x22 : Unit) => [(0, .box (eApiSite s_1))]) 1 hm (fun x22 hm => ?_) (fun J23 hm hJ23 => ?_)
      ·refine C.bnx ?_
       exact St.wk (hJ7 _ hm) (Wk.mk' [some 0] rfl rfl (.eqs rfl) ⟨⟨_, rfl, .box rfl (.eq rfl)⟩, trivial⟩ rfl)
      ·refine C.block ?_
       refine St.wk (C.loop (fun (s24 : Int) => [(1, .p 0 0), (3, .i s3), (4, .p 1 0), (5, .i s24)]) (fun (s24 : Int) => [(0, .box (eApiSite s_1)), (1, .box (eApiZone x8))]) hm (fun s24 Y25 hm => ?_)) (Wk.mk' [some 0, some 1] rfl rfl (.eqs rfl) ⟨⟨_, rfl, .box rfl (.eq rfl)⟩, ⟨_, rfl, .box rfl (.eq rfl)⟩, trivial⟩ rfl)
       refine C.seq (C.seq (U.start ?_))
       refine U.ps 5 T rfl ?_
       refine U.done (C.nx ?_)
       refine C.ite rfl hm (fun hb26 hm => ?_) (fun hb26 hm => ?_)
       ·refine C.skip (C.nx (C.seq (C.block (C.seq (U.start ?_)))))
        refine U.ps 3 T rfl ?_
        obtain ⟨x27, hx27, hm⟩ := hm
        refine U.r (o := _) rfl (.none rfl) rfl rfl (by exact Rd.ix T rfl rfl rfl rfl rfl rfl hx27) ?_
        refine U.ps 2 T rfl ?_
        refine U.done (C.nx (C.seq (C.seq ?_)))
        refine C.jn (fun (x28 : Bool) => [(1, .p 0 0), (3, .i s3), (4, .p 1 0), (5, .i s24), (6, .i x27), (91, .b x28)]) (fun (x28 : Bool) => [(0, .box (eApiSite s_1)), (1, .box (eApiZone x8))]) 2 hm (fun x28 hm => ?_) (fun J29 hm hJ29 => ?_)
        ·refine C.nx ?_
         refine C.ite rfl hm (fun hb34 hm => ?_) (fun hb34 hm => ?_)
         ·refine C.seq (U.start ?_)
          refine U.ps 1 T rfl ?_
          refine U.done (C.nx (C.ret (C.rt (C.brt (C.rt (C.rt (C.brt (C.brt (C.rt (C.rt (C.brt (C.rt ?_))))))))))))
          exact C.fin T (rs' := [.b false]) (H' := []) (nl' := 0) [] rfl rfl (.eq rfl) trivial rfl rfl rfl rfl hβ ⟨false, hm, rfl, rfl, rfl⟩
         ·refine C.skip (C.nx (C.seq ?_))
          refine C.jn (fun (x35 : Bool) => [(1, .p 0 0), (3, .i s3), (4, .p 1 0), (5, .i s24), (107, .b x35)]) (fun (x35 : Bool) => [(0, .box (eApiSite s_1)), (1, .box (eApiZone x8))]) 2 hm (fun x35 hm => ?_) (fun J36 hm hJ36 => ?_)
          ·refine C.nx ?_
           refine C.ite rfl hm (fun hb42 hm => ?_) (fun hb42 hm => ?_)
           ·refine C.seq (U.start ?_)
            refine U.ps 1 T rfl ?_
            refine U.done (C.nx (C.ret (C.brt (C.rt (C.rt (C.brt (C.brt (C.rt (C.rt (C.brt (C.rt ?_)))))))))))
            exact C.fin T (rs' := [.b false]) (H' := []) (nl' := 0) [] rfl rfl (.eq rfl) trivial rfl rfl rfl rfl hβ ⟨false, hm, rfl, rfl, rfl⟩
           ·refine C.skip (C.bnx (C.nx (U.start ?_)))
            refine U.ps 3 T rfl ?_
            refine U.done (C.nx ?_)
            exact St.wk (C.next hm) (Wk.mk' [some 0, some 1] rfl rfl (.eqs rfl) ⟨⟨_, rfl, .box rfl (.eq rfl)⟩, ⟨_, rfl, .box rfl (.eq rfl)⟩, trivial⟩ rfl)
          ·refine U.start ?_
           refine U.ps 4 T rfl ?_
           obtain ⟨x37, hx37, hm⟩ := hm
           refine U.r (o := _) rfl (.none rfl) rfl rfl (by exact Rd.ix T rfl rfl rfl rfl rfl rfl hx37) ?_
           refine U.ps 1 T rfl ?_
           refine U.e (o := _) rfl (.none rfl) (by exact Eff.c [] (v := true) (T_taquinref11_zoned x37 _ hm) en67 rfl rfl rfl (.eq rfl) trivial rfl rfl rfl rfl rfl rfl (fun _ _ => ⟨(.v _), trivial⟩) (.inr ⟨rfl, rfl⟩) (fun _ => rfl) (fun _ => rfl) rfl) (fun x38' hm => ?_)
           obtain ⟨x38⟩ := x38'
           refine U.ps 2 T rfl ?_
           refine hm.cs (fun hb39 hm => ?_) (fun hb39 hm => ?_)
           ·refine U.pg 3 8 false 100 (ntF hb39) T rfl rfl rfl rfl ?_
            obtain ⟨hx40, hm⟩ := hm
            refine U.r (o := _) rfl (.take 8 false 100 _ (ntF hb39) rfl rfl rfl) rfl rfl (by exact Rd.so T rfl rfl rfl rfl rfl (.none _) (.some _ rfl) hx40) ?_
            refine U.pg 1 8 false 100 (ntF hb39) T rfl rfl rfl rfl ?_
            refine U.e (o := _) rfl (.take 8 false 100 _ (ntF hb39) rfl rfl rfl) (by exact Eff.c [] (v := true) (T_taquinref11_zoneAt (sub s_1.Zones 0 s3) x27 _ hm) en68 rfl rfl rfl (.eq rfl) trivial rfl rfl rfl rfl rfl rfl (fun _ _ => ⟨(.v _), trivial⟩) (.inr ⟨rfl, rfl⟩) (fun _ => rfl) (fun _ => rfl) rfl) (fun x41' hm => ?_)
            obtain ⟨x41⟩ := x41'
            refine U.r (o := _) rfl (.none rfl) rfl rfl (by exact Rd.pk' rfl rfl (ntF hb39) rfl) ?_
            refine U.done ?_
            exact St.wk (hJ36 _ hm) (Wk.mk' [some 0, some 1] rfl rfl (.eqs rfl) ⟨⟨_, rfl, .box rfl (.eq rfl)⟩, ⟨_, rfl, .box rfl (.eq rfl)⟩, trivial⟩ rfl)
           ·refine U.sks 6 8 false 100 (ntT hb39) rfl rfl rfl ?_
            refine U.r (o := _) rfl (.none rfl) rfl rfl (by exact Rd.pk rfl rfl (ntT hb39) rfl) ?_
            refine U.done ?_
            exact St.wk (hJ36 _ hm) (Wk.mk' [some 0, some 1] rfl rfl (.eqs rfl) ⟨⟨_, rfl, .box rfl (.eq rfl)⟩, ⟨_, rfl, .box rfl (.eq rfl)⟩, trivial⟩ rfl)
        ·refine U.start ?_
         refine U.ps 3 T rfl ?_
         refine U.e (o := _) rfl (.none rfl) (by exact Eff.c [] (v := true) (T_taquinref07_Is s_1.Floor x27 _ hm) en34 rfl rfl rfl (.eq rfl) trivial rfl rfl rfl rfl rfl rfl (fun _ _ => ⟨(.v _), trivial⟩) (.inr ⟨rfl, rfl⟩) (fun _ => rfl) (fun _ => rfl) rfl) (fun x30' hm => ?_)
         obtain ⟨x30⟩ := x30'
         refine U.ps 2 T rfl ?_
         refine hm.cs (fun hb31 hm => ?_) (fun hb31 hm => ?_)
         ·refine U.pg 3 5 false 77 (ntF hb31) T rfl rfl rfl rfl ?_
          refine hm.cs (fun hb32 hm => ?_) (fun hb32 hm => ?_)
          ·refine U.pg 5 8 true 80 hb32 T rfl rfl rfl rfl ?_
           obtain ⟨x33, hx33, hm⟩ := hm
           refine U.r (o := _) rfl (.take 8 true 80 _ hb32 rfl rfl rfl) rfl rfl (by exact Rd.ix T rfl rfl rfl rfl rfl rfl hx33) ?_
           refine U.pg 3 8 true 80 hb32 T rfl rfl rfl rfl ?_
           refine U.r (o := _) rfl (.take 5 false 77 _ (ntF hb31) rfl rfl rfl) rfl rfl (by exact Rd.pk rfl rfl hb32 rfl) ?_
           refine U.r (o := _) rfl (.none rfl) rfl rfl (by exact Rd.pk' rfl rfl (ntF hb31) rfl) ?_
           refine U.done ?_
           exact St.wk (hJ29 _ hm) (Wk.mk' [some 0, some 1] rfl rfl (.eqs rfl) ⟨⟨_, rfl, .box rfl (.eq rfl)⟩, ⟨_, rfl, .box rfl (.eq rfl)⟩, trivial⟩ rfl)
          ·refine U.sks 9 8 true 80 hb32 rfl rfl rfl ?_
           refine U.r (o := _) rfl (.take 5 false 77 _ (ntF hb31) rfl rfl rfl) rfl rfl (by exact Rd.pk' rfl rfl hb32 rfl) ?_
           refine U.r (o := _) rfl (.none rfl) rfl rfl (by exact Rd.pk' rfl rfl (ntF hb31) rfl) ?_
           refine U.done ?_
           exact St.wk (hJ29 _ hm) (Wk.mk' [some 0, some 1] rfl rfl (.eqs rfl) ⟨⟨_, rfl, .box rfl (.eq rfl)⟩, ⟨_, rfl, .box rfl (.eq rfl)⟩, trivial⟩ rfl)
         ·refine U.sks 3 5 false 77 (ntT hb31) rfl rfl rfl ?_
          refine U.sku 9 8 true 80 rfl rfl rfl ?_
          refine U.sks 1 5 false 77 (ntT hb31) rfl rfl rfl ?_
          refine U.r (o := _) rfl (.none rfl) rfl rfl (by exact Rd.pk rfl rfl (ntT hb31) rfl) ?_
          refine U.done ?_
          exact St.wk (hJ29 _ hm) (Wk.mk' [some 0, some 1] rfl rfl (.eqs rfl) ⟨⟨_, rfl, .box rfl (.eq rfl)⟩, ⟨_, rfl, .box rfl (.eq rfl)⟩, trivial⟩ rfl)
       ·refine C.exit (C.ex (C.ex (C.bex ?_)))
        exact St.wk (hJ23 _ hm) (Wk.mk' [some 0] rfl rfl (.eqs rfl) ⟨⟨_, rfl, .box rfl (.eq rfl)⟩, trivial⟩ rfl)
    ·refine D.beg 9999 [0, 1] [] mix rfl rfl (by kernel_rfl) (by repeat (first | exact NoPanicQ.body | refine NoPanicQ.th ?_ | refine NoPanicQ.blk ?_)) (fun hQ hS ws M' => ?_)
     refine D.ps 2 [(0, []), (1, [])] rfl hQ hS T rfl rfl (by kernel_rfl) ?_
     refine D.e (o := _) 2 rfl (.none rfl) (by exact Eff.c [] (v := true) (T_taquinref11_Name x8.Name _ hm) en41 rfl rfl rfl (.eq rfl) trivial rfl rfl rfl rfl rfl rfl (fun _ _ => ⟨(.v _), trivial⟩) (.inr ⟨rfl, rfl⟩) (fun _ => rfl) (fun _ => rfl) rfl) (by kernel_rfl) rfl rfl (fun x11' hm => ?_)
     obtain ⟨x11⟩ := x11'
     refine D.ps 2 [(3, []), (4, [])] rfl hQ hS T rfl rfl (by kernel_rfl) ?_
     refine hm.cs (fun hb12 hm => ?_) (fun hb12 hm => ?_)
     ·refine D.q (o := _) 5 [] hQ hS rfl (.take 4 false 23 _ (ntF hb12) rfl rfl rfl) rfl rfl (by exact Rd.p T rfl) rfl (by kernel_rfl) ?_
      refine D.q (o := _) 6 [] hQ hS rfl (.take 4 false 23 _ (ntF hb12) rfl rfl rfl) rfl rfl (by exact Rd.l T rfl rfl rfl) rfl (by kernel_rfl) ?_
      refine D.q (o := _) 7 [] hQ hS rfl (.take 4 false 23 _ (ntF hb12) rfl rfl rfl) rfl rfl (by exact Rd.p T rfl) rfl (by kernel_rfl) ?_
      obtain ⟨hx13, hm⟩ := hm
      refine D.q (o := _) 8 [] hQ hS rfl (.take 4 false 23 _ (ntF hb12) rfl rfl rfl) rfl rfl (by exact Rd.so T rfl rfl rfl rfl rfl (.none _) (.some _ rfl) hx13) rfl (by kernel_rfl) ?_
      refine D.q (o := _) 9 [] hQ hS rfl (.take 4 false 23 _ (ntF hb12) rfl rfl rfl) rfl rfl (by exact Rd.p T rfl) rfl (by kernel_rfl) ?_
      refine D.q (o := _) 10 [] hQ hS rfl (.take 4 false 23 _ (ntF hb12) rfl rfl rfl) rfl rfl (by exact Rd.l T rfl rfl rfl) rfl (by kernel_rfl) ?_
      refine D.e (o := _) 11 rfl (.take 4 false 23 _ (ntF hb12) rfl rfl rfl) (by exact Eff.c [] (v := true) (T_taquinref11_named (sub s_1.Zones 0 s3) x8.Name _ hm) en65 rfl rfl rfl (.eq rfl) trivial rfl rfl rfl rfl rfl rfl (fun _ _ => ⟨(.v _), trivial⟩) (.inr ⟨rfl, rfl⟩) (fun _ => rfl) (fun _ => rfl) rfl) (by kernel_rfl) rfl rfl (fun x14' hm => ?_)
      obtain ⟨x14⟩ := x14'
      refine D.q (o := _) 12 [] hQ hS rfl (.take 4 false 23 _ (ntF hb12) rfl rfl rfl) rfl rfl (by exact Rd.p T rfl) rfl (by kernel_rfl) ?_
      refine D.q (o := _) 13 [] hQ hS rfl (.none rfl) rfl rfl (by exact Rd.pk' rfl rfl (ntF hb12) rfl) rfl (by kernel_rfl) ?_
      refine D.ps 1 [(14, [])] rfl hQ hS T rfl rfl (by kernel_rfl) ?_
      refine hm.cs (fun hb15 hm => ?_) (fun hb15 hm => ?_)
      ·refine D.sq (o := _) 15 [] hQ hS rfl (.skip 14 false 33 _ hb15 rfl rfl rfl) rfl rfl (by kernel_rfl) ?_
       refine D.sq (o := _) 16 [] hQ hS rfl (.skip 14 false 33 _ hb15 rfl rfl rfl) rfl rfl (by kernel_rfl) ?_
       refine D.sq (o := _) 17 [] hQ hS rfl (.skip 14 false 33 _ hb15 rfl rfl rfl) rfl rfl (by kernel_rfl) ?_
       refine D.sq (o := _) 18 [] hQ hS rfl (.skip 14 false 33 _ hb15 rfl rfl rfl) rfl rfl (by kernel_rfl) ?_
       refine D.q (o := _) 19 [] hQ hS rfl (.none rfl) rfl rfl (by exact Rd.pk rfl rfl hb15 rfl) rfl (by kernel_rfl) ?_
       refine D.ps 1 [(20, [])] rfl hQ hS T rfl rfl (by kernel_rfl) ?_
       refine D.sq (o := _) 21 [] hQ hS rfl (.skip 20 false 39 _ rfl rfl rfl rfl) rfl rfl (by kernel_rfl) ?_
       refine D.sq (o := _) 22 [] hQ hS rfl (.skip 20 false 39 _ rfl rfl rfl rfl) rfl rfl (by kernel_rfl) ?_
       refine D.sq (o := _) 23 [] hQ hS rfl (.skip 20 false 39 _ rfl rfl rfl rfl) rfl rfl (by kernel_rfl) ?_
       refine D.q (o := _) 24 [] hQ hS rfl (.none rfl) rfl rfl (by exact Rd.pk rfl rfl rfl rfl) rfl (by kernel_rfl) ?_
       refine D.ps 1 [(25, [])] rfl hQ hS T rfl rfl (by kernel_rfl) ?_
       refine D.sq (o := _) 26 [] hQ hS rfl (.skip 25 false 44 _ rfl rfl rfl rfl) rfl rfl (by kernel_rfl) ?_
       refine D.sq (o := _) 27 [] hQ hS rfl (.skip 25 false 44 _ rfl rfl rfl rfl) rfl rfl (by kernel_rfl) ?_
       refine D.sq (o := _) 28 [] hQ hS rfl (.skip 25 false 44 _ rfl rfl rfl rfl) rfl rfl (by kernel_rfl) ?_
       refine D.q (o := _) 29 [] hQ hS rfl (.none rfl) rfl rfl (by exact Rd.pk rfl rfl rfl rfl) rfl (by kernel_rfl) ?_
       refine D.ps 1 [(30, [])] rfl hQ hS T rfl rfl (by kernel_rfl) ?_
       refine D.sq (o := _) 31 [] hQ hS rfl (.skip 30 false 49 _ rfl rfl rfl rfl) rfl rfl (by kernel_rfl) ?_
       refine D.sq (o := _) 32 [] hQ hS rfl (.skip 30 false 49 _ rfl rfl rfl rfl) rfl rfl (by kernel_rfl) ?_
       refine D.sq (o := _) 33 [] hQ hS rfl (.skip 30 false 49 _ rfl rfl rfl rfl) rfl rfl (by kernel_rfl) ?_
       refine D.q (o := _) 34 [] hQ hS rfl (.none rfl) rfl rfl (by exact Rd.pk rfl rfl rfl rfl) rfl (by kernel_rfl) ?_
       refine D.ps 1 [(35, [])] rfl hQ hS T rfl rfl (by kernel_rfl) ?_
       refine D.sq (o := _) 36 [] hQ hS rfl (.skip 35 false 54 _ rfl rfl rfl rfl) rfl rfl (by kernel_rfl) ?_
       refine D.sq (o := _) 37 [] hQ hS rfl (.skip 35 false 54 _ rfl rfl rfl rfl) rfl rfl (by kernel_rfl) ?_
       refine D.sq (o := _) 38 [] hQ hS rfl (.skip 35 false 54 _ rfl rfl rfl rfl) rfl rfl (by kernel_rfl) ?_
       refine D.sq (o := _) 39 [] hQ hS rfl (.skip 35 false 54 _ rfl rfl rfl rfl) rfl rfl (by kernel_rfl) ?_
       refine D.q (o := _) 40 [] hQ hS rfl (.none rfl) rfl rfl (by exact Rd.pk rfl rfl rfl rfl) rfl (by kernel_rfl) ?_
       refine D.done (by kernel_rfl) ?_
       exact St.wk (hJ10 _ hm) (Wk.mk' [some 0, some 1] rfl rfl (.eqs rfl) ⟨⟨_, rfl, .box rfl (.eq rfl)⟩, ⟨_, rfl, .box rfl (.eq rfl)⟩, trivial⟩ rfl)
      ·refine D.q (o := _) 15 [] hQ hS rfl (.take 14 false 33 _ hb15 rfl rfl rfl) rfl rfl (by exact Rd.p T rfl) rfl (by kernel_rfl) ?_
       refine D.q (o := _) 16 [] hQ hS rfl (.take 14 false 33 _ hb15 rfl rfl rfl) rfl rfl (by exact Rd.l T rfl rfl rfl) rfl (by kernel_rfl) ?_
       refine D.q (o := _) 17 [] hQ hS rfl (.take 14 false 33 _ hb15 rfl rfl rfl) rfl rfl (by exact Rd.p T rfl) rfl (by kernel_rfl) ?_
       refine D.q (o := _) 18 [] hQ hS rfl (.take 14 false 33 _ hb15 rfl rfl rfl) rfl rfl (by exact Rd.p T rfl) rfl (by kernel_rfl) ?_
       refine D.q (o := _) 19 [] hQ hS rfl (.none rfl) rfl rfl (by exact Rd.pk' rfl rfl hb15 rfl) rfl (by kernel_rfl) ?_
       refine D.ps 1 [(20, [])] rfl hQ hS T rfl rfl (by kernel_rfl) ?_
       refine hm.cs (fun hb16 hm => ?_) (fun hb16 hm => ?_)
       ·refine D.sq (o := _) 21 [] hQ hS rfl (.skip 20 false 39 _ hb16 rfl rfl rfl) rfl rfl (by kernel_rfl) ?_
        refine D.sq (o := _) 22 [] hQ hS rfl (.skip 20 false 39 _ hb16 rfl rfl rfl) rfl rfl (by kernel_rfl) ?_
        refine D.sq (o := _) 23 [] hQ hS rfl (.skip 20 false 39 _ hb16 rfl rfl rfl) rfl rfl (by kernel_rfl) ?_
        refine D.q (o := _) 24 [] hQ hS rfl (.none rfl) rfl rfl (by exact Rd.pk rfl rfl hb16 rfl) rfl (by kernel_rfl) ?_
        refine D.ps 1 [(25, [])] rfl hQ hS T rfl rfl (by kernel_rfl) ?_
        refine D.sq (o := _) 26 [] hQ hS rfl (.skip 25 false 44 _ rfl rfl rfl rfl) rfl rfl (by kernel_rfl) ?_
        refine D.sq (o := _) 27 [] hQ hS rfl (.skip 25 false 44 _ rfl rfl rfl rfl) rfl rfl (by kernel_rfl) ?_
        refine D.sq (o := _) 28 [] hQ hS rfl (.skip 25 false 44 _ rfl rfl rfl rfl) rfl rfl (by kernel_rfl) ?_
        refine D.q (o := _) 29 [] hQ hS rfl (.none rfl) rfl rfl (by exact Rd.pk rfl rfl rfl rfl) rfl (by kernel_rfl) ?_
        refine D.ps 1 [(30, [])] rfl hQ hS T rfl rfl (by kernel_rfl) ?_
        refine D.sq (o := _) 31 [] hQ hS rfl (.skip 30 false 49 _ rfl rfl rfl rfl) rfl rfl (by kernel_rfl) ?_
        refine D.sq (o := _) 32 [] hQ hS rfl (.skip 30 false 49 _ rfl rfl rfl rfl) rfl rfl (by kernel_rfl) ?_
        refine D.sq (o := _) 33 [] hQ hS rfl (.skip 30 false 49 _ rfl rfl rfl rfl) rfl rfl (by kernel_rfl) ?_
        refine D.q (o := _) 34 [] hQ hS rfl (.none rfl) rfl rfl (by exact Rd.pk rfl rfl rfl rfl) rfl (by kernel_rfl) ?_
        refine D.ps 1 [(35, [])] rfl hQ hS T rfl rfl (by kernel_rfl) ?_
        refine D.sq (o := _) 36 [] hQ hS rfl (.skip 35 false 54 _ rfl rfl rfl rfl) rfl rfl (by kernel_rfl) ?_
        refine D.sq (o := _) 37 [] hQ hS rfl (.skip 35 false 54 _ rfl rfl rfl rfl) rfl rfl (by kernel_rfl) ?_
        refine D.sq (o := _) 38 [] hQ hS rfl (.skip 35 false 54 _ rfl rfl rfl rfl) rfl rfl (by kernel_rfl) ?_
        refine D.sq (o := _) 39 [] hQ hS rfl (.skip 35 false 54 _ rfl rfl rfl rfl) rfl rfl (by kernel_rfl) ?_
        refine D.q (o := _) 40 [] hQ hS rfl (.none rfl) rfl rfl (by exact Rd.pk rfl rfl rfl rfl) rfl (by kernel_rfl) ?_
        refine D.done (by kernel_rfl) ?_
        exact St.wk (hJ10 _ hm) (Wk.mk' [some 0, some 1] rfl rfl (.eqs rfl) ⟨⟨_, rfl, .box rfl (.eq rfl)⟩, ⟨_, rfl, .box rfl (.eq rfl)⟩, trivial⟩ rfl)
       ·refine D.q (o := _) 21 [] hQ hS rfl (.take 20 false 39 _ hb16 rfl rfl rfl) rfl rfl (by exact Rd.p T rfl) rfl (by kernel_rfl) ?_
        refine D.q (o := _) 22 [] hQ hS rfl (.take 20 false 39 _ hb16 rfl rfl rfl) rfl rfl (by exact Rd.l T rfl rfl rfl) rfl (by kernel_rfl) ?_
        refine D.q (o := _) 23 [] hQ hS rfl (.take 20 false 39 _ hb16 rfl rfl rfl) rfl rfl (by exact Rd.p T rfl) rfl (by kernel_rfl) ?_
        refine D.q (o := _) 24 [] hQ hS rfl (.none rfl) rfl rfl (by exact Rd.pk' rfl rfl hb16 rfl) rfl (by kernel_rfl) ?_
        refine D.ps 1 [(25, [])] rfl hQ hS T rfl rfl (by kernel_rfl) ?_
        refine hm.cs (fun hb17 hm => ?_) (fun hb17 hm => ?_)
        ·refine D.sq (o := _) 26 [] hQ hS rfl (.skip 25 false 44 _ hb17 rfl rfl rfl) rfl rfl (by kernel_rfl) ?_
         refine D.sq (o := _) 27 [] hQ hS rfl (.skip 25 false 44 _ hb17 rfl rfl rfl) rfl rfl (by kernel_rfl) ?_
         refine D.sq (o := _) 28 [] hQ hS rfl (.skip 25 false 44 _ hb17 rfl rfl rfl) rfl rfl (by kernel_rfl) ?_
         refine D.q (o := _) 29 [] hQ hS rfl (.none rfl) rfl rfl (by exact Rd.pk rfl rfl hb17 rfl) rfl (by kernel_rfl) ?_
         refine D.ps 1 [(30, [])] rfl hQ hS T rfl rfl (by kernel_rfl) ?_
         refine D.sq (o := _) 31 [] hQ hS rfl (.skip 30 false 49 _ rfl rfl rfl rfl) rfl rfl (by kernel_rfl) ?_
         refine D.sq (o := _) 32 [] hQ hS rfl (.skip 30 false 49 _ rfl rfl rfl rfl) rfl rfl (by kernel_rfl) ?_
         refine D.sq (o := _) 33 [] hQ hS rfl (.skip 30 false 49 _ rfl rfl rfl rfl) rfl rfl (by kernel_rfl) ?_
         refine D.q (o := _) 34 [] hQ hS rfl (.none rfl) rfl rfl (by exact Rd.pk rfl rfl rfl rfl) rfl (by kernel_rfl) ?_
         refine D.ps 1 [(35, [])] rfl hQ hS T rfl rfl (by kernel_rfl) ?_
         refine D.sq (o := _) 36 [] hQ hS rfl (.skip 35 false 54 _ rfl rfl rfl rfl) rfl rfl (by kernel_rfl) ?_
         refine D.sq (o := _) 37 [] hQ hS rfl (.skip 35 false 54 _ rfl rfl rfl rfl) rfl rfl (by kernel_rfl) ?_
         refine D.sq (o := _) 38 [] hQ hS rfl (.skip 35 false 54 _ rfl rfl rfl rfl) rfl rfl (by kernel_rfl) ?_
         refine D.sq (o := _) 39 [] hQ hS rfl (.skip 35 false 54 _ rfl rfl rfl rfl) rfl rfl (by kernel_rfl) ?_
         refine D.q (o := _) 40 [] hQ hS rfl (.none rfl) rfl rfl (by exact Rd.pk rfl rfl rfl rfl) rfl (by kernel_rfl) ?_
         refine D.done (by kernel_rfl) ?_
         exact St.wk (hJ10 _ hm) (Wk.mk' [some 0, some 1] rfl rfl (.eqs rfl) ⟨⟨_, rfl, .box rfl (.eq rfl)⟩, ⟨_, rfl, .box rfl (.eq rfl)⟩, trivial⟩ rfl)
        ·refine D.q (o := _) 26 [] hQ hS rfl (.take 25 false 44 _ hb17 rfl rfl rfl) rfl rfl (by exact Rd.p T rfl) rfl (by kernel_rfl) ?_
         refine D.q (o := _) 27 [] hQ hS rfl (.take 25 false 44 _ hb17 rfl rfl rfl) rfl rfl (by exact Rd.l T rfl rfl rfl) rfl (by kernel_rfl) ?_
         refine D.q (o := _) 28 [] hQ hS rfl (.take 25 false 44 _ hb17 rfl rfl rfl) rfl rfl (by exact Rd.p T rfl) rfl (by kernel_rfl) ?_
         refine D.q (o := _) 29 [] hQ hS rfl (.none rfl) rfl rfl (by exact Rd.pk' rfl rfl hb17 rfl) rfl (by kernel_rfl) ?_
         refine D.ps 1 [(30, [])] rfl hQ hS T rfl rfl (by kernel_rfl) ?_
         refine hm.cs (fun hb18 hm => ?_) (fun hb18 hm => ?_)
         ·refine D.sq (o := _) 31 [] hQ hS rfl (.skip 30 false 49 _ hb18 rfl rfl rfl) rfl rfl (by kernel_rfl) ?_
          refine D.sq (o := _) 32 [] hQ hS rfl (.skip 30 false 49 _ hb18 rfl rfl rfl) rfl rfl (by kernel_rfl) ?_
          refine D.sq (o := _) 33 [] hQ hS rfl (.skip 30 false 49 _ hb18 rfl rfl rfl) rfl rfl (by kernel_rfl) ?_
          refine D.q (o := _) 34 [] hQ hS rfl (.none rfl) rfl rfl (by exact Rd.pk rfl rfl hb18 rfl) rfl (by kernel_rfl) ?_
          refine D.ps 1 [(35, [])] rfl hQ hS T rfl rfl (by kernel_rfl) ?_
          refine D.sq (o := _) 36 [] hQ hS rfl (.skip 35 false 54 _ rfl rfl rfl rfl) rfl rfl (by kernel_rfl) ?_
          refine D.sq (o := _) 37 [] hQ hS rfl (.skip 35 false 54 _ rfl rfl rfl rfl) rfl rfl (by kernel_rfl) ?_
          refine D.sq (o := _) 38 [] hQ hS rfl (.skip 35 false 54 _ rfl rfl rfl rfl) rfl rfl (by kernel_rfl) ?_
          refine D.sq (o := _) 39 [] hQ hS rfl (.skip 35 false 54 _ rfl rfl rfl rfl) rfl rfl (by kernel_rfl) ?_
          refine D.q (o := _) 40 [] hQ hS rfl (.none rfl) rfl rfl (by exact Rd.pk rfl rfl rfl rfl) rfl (by kernel_rfl) ?_
          refine D.done (by kernel_rfl) ?_
          exact St.wk (hJ10 _ hm) (Wk.mk' [some 0, some 1] rfl rfl (.eqs rfl) ⟨⟨_, rfl, .box rfl (.eq rfl)⟩, ⟨_, rfl, .box rfl (.eq rfl)⟩, trivial⟩ rfl)
         ·refine D.q (o := _) 31 [] hQ hS rfl (.take 30 false 49 _ hb18 rfl rfl rfl) rfl rfl (by exact Rd.p T rfl) rfl (by kernel_rfl) ?_
          refine D.q (o := _) 32 [] hQ hS rfl (.take 30 false 49 _ hb18 rfl rfl rfl) rfl rfl (by exact Rd.l T rfl rfl rfl) rfl (by kernel_rfl) ?_
          refine D.q (o := _) 33 [] hQ hS rfl (.take 30 false 49 _ hb18 rfl rfl rfl) rfl rfl (by exact Rd.p T rfl) rfl (by kernel_rfl) ?_
          refine D.q (o := _) 34 [] hQ hS rfl (.none rfl) rfl rfl (by exact Rd.pk' rfl rfl hb18 rfl) rfl (by kernel_rfl) ?_
          refine D.ps 1 [(35, [])] rfl hQ hS T rfl rfl (by kernel_rfl) ?_
          refine hm.cs (fun hb19 hm => ?_) (fun hb19 hm => ?_)
          ·refine D.sq (o := _) 36 [] hQ hS rfl (.skip 35 false 54 _ hb19 rfl rfl rfl) rfl rfl (by kernel_rfl) ?_
           refine D.sq (o := _) 37 [] hQ hS rfl (.skip 35 false 54 _ hb19 rfl rfl rfl) rfl rfl (by kernel_rfl) ?_
           refine D.sq (o := _) 38 [] hQ hS rfl (.skip 35 false 54 _ hb19 rfl rfl rfl) rfl rfl (by kernel_rfl) ?_
           refine D.sq (o := _) 39 [] hQ hS rfl (.skip 35 false 54 _ hb19 rfl rfl rfl) rfl rfl (by kernel_rfl) ?_
           refine D.q (o := _) 40 [] hQ hS rfl (.none rfl) rfl rfl (by exact Rd.pk rfl rfl hb19 rfl) rfl (by kernel_rfl) ?_
           refine D.done (by kernel_rfl) ?_
           exact St.wk (hJ10 _ hm) (Wk.mk' [some 0, some 1] rfl rfl (.eqs rfl) ⟨⟨_, rfl, .box rfl (.eq rfl)⟩, ⟨_, rfl, .box rfl (.eq rfl)⟩, trivial⟩ rfl)
          ·refine D.q (o := _) 36 [] hQ hS rfl (.take 35 false 54 _ hb19 rfl rfl rfl) rfl rfl (by exact Rd.p T rfl) rfl (by kernel_rfl) ?_
           refine D.q (o := _) 37 [] hQ hS rfl (.take 35 false 54 _ hb19 rfl rfl rfl) rfl rfl (by exact Rd.l T rfl rfl rfl) rfl (by kernel_rfl) ?_
           refine D.e (o := _) 38 rfl (.take 35 false 54 _ hb19 rfl rfl rfl) (by exact Eff.c [] (v := true) (T_taquinref11_spans x8.Shut _ hm) en66 rfl rfl rfl (.eq rfl) trivial rfl rfl rfl rfl rfl rfl (fun _ _ => ⟨(.v _), trivial⟩) (.inr ⟨rfl, rfl⟩) (fun _ => rfl) (fun _ => rfl) rfl) (by kernel_rfl) rfl rfl (fun x20' hm => ?_)
           obtain ⟨x20⟩ := x20'
           refine D.q (o := _) 39 [] hQ hS rfl (.take 35 false 54 _ hb19 rfl rfl rfl) rfl rfl (by exact Rd.p T rfl) rfl (by kernel_rfl) ?_
           refine D.q (o := _) 40 [] hQ hS rfl (.none rfl) rfl rfl (by exact Rd.pk' rfl rfl hb19 rfl) rfl (by kernel_rfl) ?_
           refine D.done (by kernel_rfl) ?_
           exact St.wk (hJ10 _ hm) (Wk.mk' [some 0, some 1] rfl rfl (.eqs rfl) ⟨⟨_, rfl, .box rfl (.eq rfl)⟩, ⟨_, rfl, .box rfl (.eq rfl)⟩, trivial⟩ rfl)
     ·refine D.sq (o := _) 5 [] hQ hS rfl (.skip 4 false 23 _ (ntT hb12) rfl rfl rfl) rfl rfl (by kernel_rfl) ?_
      refine D.sq (o := _) 6 [] hQ hS rfl (.skip 4 false 23 _ (ntT hb12) rfl rfl rfl) rfl rfl (by kernel_rfl) ?_
      refine D.sq (o := _) 7 [] hQ hS rfl (.skip 4 false 23 _ (ntT hb12) rfl rfl rfl) rfl rfl (by kernel_rfl) ?_
      refine D.sq (o := _) 8 [] hQ hS rfl (.skip 4 false 23 _ (ntT hb12) rfl rfl rfl) rfl rfl (by kernel_rfl) ?_
      refine D.sq (o := _) 9 [] hQ hS rfl (.skip 4 false 23 _ (ntT hb12) rfl rfl rfl) rfl rfl (by kernel_rfl) ?_
      refine D.sq (o := _) 10 [] hQ hS rfl (.skip 4 false 23 _ (ntT hb12) rfl rfl rfl) rfl rfl (by kernel_rfl) ?_
      refine D.sq (o := _) 11 [] hQ hS rfl (.skip 4 false 23 _ (ntT hb12) rfl rfl rfl) rfl rfl (by kernel_rfl) ?_
      refine D.sq (o := _) 12 [] hQ hS rfl (.skip 4 false 23 _ (ntT hb12) rfl rfl rfl) rfl rfl (by kernel_rfl) ?_
      refine D.q (o := _) 13 [] hQ hS rfl (.none rfl) rfl rfl (by exact Rd.pk rfl rfl (ntT hb12) rfl) rfl (by kernel_rfl) ?_
      refine D.ps 1 [(14, [])] rfl hQ hS T rfl rfl (by kernel_rfl) ?_
      refine D.sq (o := _) 15 [] hQ hS rfl (.skip 14 false 33 _ rfl rfl rfl rfl) rfl rfl (by kernel_rfl) ?_
      refine D.sq (o := _) 16 [] hQ hS rfl (.skip 14 false 33 _ rfl rfl rfl rfl) rfl rfl (by kernel_rfl) ?_
      refine D.sq (o := _) 17 [] hQ hS rfl (.skip 14 false 33 _ rfl rfl rfl rfl) rfl rfl (by kernel_rfl) ?_
      refine D.sq (o := _) 18 [] hQ hS rfl (.skip 14 false 33 _ rfl rfl rfl rfl) rfl rfl (by kernel_rfl) ?_
      refine D.q (o := _) 19 [] hQ hS rfl (.none rfl) rfl rfl (by exact Rd.pk rfl rfl rfl rfl) rfl (by kernel_rfl) ?_
      refine D.ps 1 [(20, [])] rfl hQ hS T rfl rfl (by kernel_rfl) ?_
      refine D.sq (o := _) 21 [] hQ hS rfl (.skip 20 false 39 _ rfl rfl rfl rfl) rfl rfl (by kernel_rfl) ?_
      refine D.sq (o := _) 22 [] hQ hS rfl (.skip 20 false 39 _ rfl rfl rfl rfl) rfl rfl (by kernel_rfl) ?_
      refine D.sq (o := _) 23 [] hQ hS rfl (.skip 20 false 39 _ rfl rfl rfl rfl) rfl rfl (by kernel_rfl) ?_
      refine D.q (o := _) 24 [] hQ hS rfl (.none rfl) rfl rfl (by exact Rd.pk rfl rfl rfl rfl) rfl (by kernel_rfl) ?_
      refine D.ps 1 [(25, [])] rfl hQ hS T rfl rfl (by kernel_rfl) ?_
      refine D.sq (o := _) 26 [] hQ hS rfl (.skip 25 false 44 _ rfl rfl rfl rfl) rfl rfl (by kernel_rfl) ?_
      refine D.sq (o := _) 27 [] hQ hS rfl (.skip 25 false 44 _ rfl rfl rfl rfl) rfl rfl (by kernel_rfl) ?_
      refine D.sq (o := _) 28 [] hQ hS rfl (.skip 25 false 44 _ rfl rfl rfl rfl) rfl rfl (by kernel_rfl) ?_
      refine D.q (o := _) 29 [] hQ hS rfl (.none rfl) rfl rfl (by exact Rd.pk rfl rfl rfl rfl) rfl (by kernel_rfl) ?_
      refine D.ps 1 [(30, [])] rfl hQ hS T rfl rfl (by kernel_rfl) ?_
      refine D.sq (o := _) 31 [] hQ hS rfl (.skip 30 false 49 _ rfl rfl rfl rfl) rfl rfl (by kernel_rfl) ?_
      refine D.sq (o := _) 32 [] hQ hS rfl (.skip 30 false 49 _ rfl rfl rfl rfl) rfl rfl (by kernel_rfl) ?_
      refine D.sq (o := _) 33 [] hQ hS rfl (.skip 30 false 49 _ rfl rfl rfl rfl) rfl rfl (by kernel_rfl) ?_
      refine D.q (o := _) 34 [] hQ hS rfl (.none rfl) rfl rfl (by exact Rd.pk rfl rfl rfl rfl) rfl (by kernel_rfl) ?_
      refine D.ps 1 [(35, [])] rfl hQ hS T rfl rfl (by kernel_rfl) ?_
      refine D.sq (o := _) 36 [] hQ hS rfl (.skip 35 false 54 _ rfl rfl rfl rfl) rfl rfl (by kernel_rfl) ?_
      refine D.sq (o := _) 37 [] hQ hS rfl (.skip 35 false 54 _ rfl rfl rfl rfl) rfl rfl (by kernel_rfl) ?_
      refine D.sq (o := _) 38 [] hQ hS rfl (.skip 35 false 54 _ rfl rfl rfl rfl) rfl rfl (by kernel_rfl) ?_
      refine D.sq (o := _) 39 [] hQ hS rfl (.skip 35 false 54 _ rfl rfl rfl rfl) rfl rfl (by kernel_rfl) ?_
      refine D.q (o := _) 40 [] hQ hS rfl (.none rfl) rfl rfl (by exact Rd.pk rfl rfl rfl rfl) rfl (by kernel_rfl) ?_
      refine D.done (by kernel_rfl) ?_
      exact St.wk (hJ10 _ hm) (Wk.mk' [some 0, some 1] rfl rfl (.eqs rfl) ⟨⟨_, rfl, .box rfl (.eq rfl)⟩, ⟨_, rfl, .box rfl (.eq rfl)⟩, trivial⟩ rfl)
  ·refine C.exit (C.ex (C.ex (C.bex ?_)))
   exact St.wk (hJ2 _ hm) (Wk.mk' [some 0] rfl rfl (.eqs rfl) ⟨⟨_, rfl, .box rfl (.eq rfl)⟩, trivial⟩ rfl)
theorem T_taquinref11_Apart (l : List ApiApart) (a : ByteArray) (b : ByteArray) (post : Bool → Prop) (hm : V_taquinref11_Apart l a b post) :
    Tr Try.prog 42 [.sl 2 eApiApart l, .v (.string a), .v (.string b)] [] 0 (fun A H' k => ∃ y, post y ∧ A = (.b y) ∧ H' = [] ∧ k = 0) := by
 refine Tr.intro (n := 56) Try.func42 rfl Try.ntmps42 rfl (fun w0 ok F β hβ => ?_)
 unfold V_taquinref11_Apart at hm
 refine C.seq (U.start ?_)
 refine U.ps 1 T rfl ?_
 refine U.done (C.nx (C.seq (C.seq (U.start ?_))))
 refine U.ps 1 T rfl ?_
 refine U.done (C.nx ?_)
 refine C.jn (fun (x1 : Unit) => []) (fun (x1 : Unit) => []) 0 hm (fun x1 hm => ?_) (fun J2 hm hJ2 => ?_)
 ·refine C.nx (C.seq (U.start ?_))
  refine U.ps 1 T rfl ?_
  refine U.done (C.nx (C.ret ?_))
  exact C.fin T (rs' := [.b false]) (H' := []) (nl' := 0) [] rfl rfl (.eq rfl) trivial rfl rfl rfl rfl hβ ⟨false, hm, rfl, rfl, rfl⟩
 ·refine C.block ?_
  refine St.wk (C.loop (fun (s3 : Int) => [(0, .sl 2 eApiApart l), (1, .v (.string a)), (2, .v (.string b)), (7, .i s3)]) (fun (s3 : Int) => []) hm (fun s3 Y4 hm => ?_)) (Wk.mk' [] rfl rfl (.eqs rfl) trivial rfl)
  refine C.seq (C.seq ?_)
  refine C.jn (fun (x5 : Bool) => [(0, .sl 2 eApiApart l), (1, .v (.string a)), (2, .v (.string b)), (7, .i s3), (19, .b x5)]) (fun (x5 : Bool) => []) 0 hm (fun x5 hm => ?_) (fun J6 hm hJ6 => ?_)
  ·refine C.nx ?_
   refine C.ite rfl hm (fun hb9 hm => ?_) (fun hb9 hm => ?_)
   ·refine C.skip (C.nx (C.seq (C.block (C.seq ?_))))
    refine C.jn (fun (x10 : Bool) => [(0, .sl 2 eApiApart l), (1, .v (.string a)), (2, .v (.string b)), (7, .i s3), (55, .b x10)]) (fun (x10 : Bool) => []) 0 hm (fun x10 hm => ?_) (fun J11 hm hJ11 => ?_)
    ·refine C.nx ?_
     refine C.ite rfl hm (fun hb17 hm => ?_) (fun hb17 hm => ?_)
     ·refine C.seq (U.start ?_)
      refine U.ps 1 T rfl ?_
      refine U.done (C.nx (C.ret (C.brt (C.rt (C.rt (C.brt (C.rt ?_)))))))
      exact C.fin T (rs' := [.b true]) (H' := []) (nl' := 0) [] rfl rfl (.eq rfl) trivial rfl rfl rfl rfl hβ ⟨true, hm, rfl, rfl, rfl⟩
     ·refine C.skip (C.bnx (C.nx (U.start ?_)))
      refine U.ps 3 T rfl ?_
      refine U.done (C.nx ?_)
      exact St.wk (C.next hm) (Wk.mk' [] rfl rfl (.eqs rfl) trivial rfl)
    ·refine U.start ?_
     refine U.ps 2 T rfl ?_
     obtain ⟨x12, hx12, hm⟩ := hm
     refine U.r (o := _) rfl (.none rfl) rfl rfl (by exact Rd.ix T rfl rfl rfl rfl rfl rfl hx12) ?_
     refine U.ps 5 T rfl ?_
     refine hm.cs (fun hb13 hm => ?_) (fun hb13 hm => ?_)
     ·refine U.pg 2 7 true 29 hb13 T rfl rfl rfl rfl ?_
      refine U.r (o := _) rfl (.take 7 true 29 _ hb13 rfl rfl rfl) rfl rfl (by exact Rd.ix T rfl rfl rfl rfl rfl rfl hx12) ?_
      refine U.pg 4 7 true 29 hb13 T rfl rfl rfl rfl ?_
      refine U.r (o := _) rfl (.none rfl) rfl rfl (by exact Rd.pk rfl rfl hb13 rfl) ?_
      refine U.ps 1 T rfl ?_
      refine hm.cs (fun hb14 hm => ?_) (fun hb14 hm => ?_)
      ·refine U.sks 8 16 false 38 hb14 rfl rfl rfl ?_
       refine U.sku 7 24 true 46 rfl rfl rfl ?_
       refine U.sks 1 16 false 38 hb14 rfl rfl rfl ?_
       refine U.r (o := _) rfl (.none rfl) rfl rfl (by exact Rd.pk rfl rfl hb14 rfl) ?_
       refine U.done ?_
       exact St.wk (hJ11 _ hm) (Wk.mk' [] rfl rfl (.eqs rfl) trivial rfl)
      ·refine U.pg 2 16 false 38 hb14 T rfl rfl rfl rfl ?_
       refine U.r (o := _) rfl (.take 16 false 38 _ hb14 rfl rfl rfl) rfl rfl (by exact Rd.ix T rfl rfl rfl rfl rfl rfl hx12) ?_
       refine U.pg 5 16 false 38 hb14 T rfl rfl rfl rfl ?_
       refine hm.cs (fun hb15 hm => ?_) (fun hb15 hm => ?_)
       ·refine U.pg 2 24 true 46 hb15 T rfl rfl rfl rfl ?_
        refine U.r (o := _) rfl (.take 24 true 46 _ hb15 rfl rfl rfl) rfl rfl (by exact Rd.ix T rfl rfl rfl rfl rfl rfl hx12) ?_
        refine U.pg 4 24 true 46 hb15 T rfl rfl rfl rfl ?_
        refine U.r (o := _) rfl (.take 16 false 38 _ hb14 rfl rfl rfl) rfl rfl (by exact Rd.pk rfl rfl hb15 rfl) ?_
        refine U.r (o := _) rfl (.none rfl) rfl rfl (by exact Rd.pk' rfl rfl hb14 rfl) ?_
        refine U.done ?_
        exact St.wk (hJ11 _ hm) (Wk.mk' [] rfl rfl (.eqs rfl) trivial rfl)
       ·refine U.sks 7 24 true 46 hb15 rfl rfl rfl ?_
        refine U.r (o := _) rfl (.take 16 false 38 _ hb14 rfl rfl rfl) rfl rfl (by exact Rd.pk' rfl rfl hb15 rfl) ?_
        refine U.r (o := _) rfl (.none rfl) rfl rfl (by exact Rd.pk' rfl rfl hb14 rfl) ?_
        refine U.done ?_
        exact St.wk (hJ11 _ hm) (Wk.mk' [] rfl rfl (.eqs rfl) trivial rfl)
     ·refine U.sks 7 7 true 29 hb13 rfl rfl rfl ?_
      refine U.r (o := _) rfl (.none rfl) rfl rfl (by exact Rd.pk' rfl rfl hb13 rfl) ?_
      refine U.ps 1 T rfl ?_
      refine U.pg 2 16 false 38 rfl T rfl rfl rfl rfl ?_
      refine U.r (o := _) rfl (.take 16 false 38 _ rfl rfl rfl rfl) rfl rfl (by exact Rd.ix T rfl rfl rfl rfl rfl rfl hx12) ?_
      refine U.pg 5 16 false 38 rfl T rfl rfl rfl rfl ?_
      refine hm.cs (fun hb16 hm => ?_) (fun hb16 hm => ?_)
      ·refine U.pg 2 24 true 46 hb16 T rfl rfl rfl rfl ?_
       refine U.r (o := _) rfl (.take 24 true 46 _ hb16 rfl rfl rfl) rfl rfl (by exact Rd.ix T rfl rfl rfl rfl rfl rfl hx12) ?_
       refine U.pg 4 24 true 46 hb16 T rfl rfl rfl rfl ?_
       refine U.r (o := _) rfl (.take 16 false 38 _ rfl rfl rfl rfl) rfl rfl (by exact Rd.pk rfl rfl hb16 rfl) ?_
       refine U.r (o := _) rfl (.none rfl) rfl rfl (by exact Rd.pk' rfl rfl rfl rfl) ?_
       refine U.done ?_
       exact St.wk (hJ11 _ hm) (Wk.mk' [] rfl rfl (.eqs rfl) trivial rfl)
      ·refine U.sks 7 24 true 46 hb16 rfl rfl rfl ?_
       refine U.r (o := _) rfl (.take 16 false 38 _ rfl rfl rfl rfl) rfl rfl (by exact Rd.pk' rfl rfl hb16 rfl) ?_
       refine U.r (o := _) rfl (.none rfl) rfl rfl (by exact Rd.pk' rfl rfl rfl rfl) ?_
       refine U.done ?_
       exact St.wk (hJ11 _ hm) (Wk.mk' [] rfl rfl (.eqs rfl) trivial rfl)
   ·refine C.exit (C.ex (C.ex (C.bex ?_)))
    exact St.wk (hJ2 _ hm) (Wk.mk' [] rfl rfl trivial trivial rfl)
  ·refine U.start ?_
   refine U.ps 5 T rfl ?_
   refine hm.cs (fun hb7 hm => ?_) (fun hb7 hm => ?_)
   ·refine U.pg 2 4 true 12 hb7 T rfl rfl rfl rfl ?_
    refine U.r (o := _) rfl (.none rfl) rfl rfl (by exact Rd.pk rfl rfl hb7 rfl) ?_
    refine U.ps 1 T rfl ?_
    refine hm.cs (fun hb8 hm => ?_) (fun hb8 hm => ?_)
    ·refine U.sks 2 8 true 16 (ntF hb8) rfl rfl rfl ?_
     refine U.r (o := _) rfl (.none rfl) rfl rfl (by exact Rd.pk' rfl rfl (ntF hb8) rfl) ?_
     refine U.done ?_
     exact St.wk (hJ6 _ hm) (Wk.mk' [] rfl rfl (.eqs rfl) trivial rfl)
    ·refine U.pg 2 8 true 16 (ntT hb8) T rfl rfl rfl rfl ?_
     refine U.r (o := _) rfl (.none rfl) rfl rfl (by exact Rd.pk rfl rfl (ntT hb8) rfl) ?_
     refine U.done ?_
     exact St.wk (hJ6 _ hm) (Wk.mk' [] rfl rfl (.eqs rfl) trivial rfl)
   ·refine U.sks 2 4 true 12 hb7 rfl rfl rfl ?_
    refine U.r (o := _) rfl (.none rfl) rfl rfl (by exact Rd.pk' rfl rfl hb7 rfl) ?_
    refine U.ps 1 T rfl ?_
    refine U.sks 2 8 true 16 rfl rfl rfl rfl ?_
    refine U.r (o := _) rfl (.none rfl) rfl rfl (by exact Rd.pk' rfl rfl rfl rfl) ?_
    refine U.done ?_
    exact St.wk (hJ6 _ hm) (Wk.mk' [] rfl rfl (.eqs rfl) trivial rfl)
theorem T_taquinref11_stands (kind : Int) (post : Bool → Prop) (hm : V_taquinref11_stands kind post) :
    Tr Try.prog 43 [.i kind] [] 0 (fun A H' k => ∃ y, post y ∧ A = (.b y) ∧ H' = [] ∧ k = 0) := by
 refine Tr.intro (n := 9) Try.func43 rfl Try.ntmps43 rfl (fun w0 ok F β hβ => ?_)
 unfold V_taquinref11_stands at hm
 refine C.seq (U.start ?_)
 refine U.ps 1 T rfl ?_
 refine U.done (C.nx (C.seq ?_))
 refine C.jn (fun (x1 : Bool) => [(2, .b x1)]) (fun (x1 : Bool) => []) 0 hm (fun x1 hm => ?_) (fun J2 hm hJ2 => ?_)
 ·refine C.nx (C.ret ?_)
  exact C.fin T (rs' := [.b x1]) (H' := []) (nl' := 0) [] rfl rfl (.eq rfl) trivial rfl rfl rfl rfl hβ ⟨x1, hm, rfl, rfl, rfl⟩
 ·refine U.start ?_
  refine U.ps 3 T rfl ?_
  refine hm.cs (fun hb3 hm => ?_) (fun hb3 hm => ?_)
  ·refine U.sks 2 2 false 5 hb3 rfl rfl rfl ?_
   refine U.r (o := _) rfl (.none rfl) rfl rfl (by exact Rd.pk rfl rfl hb3 rfl) ?_
   refine U.ps 1 T rfl ?_
   refine U.done ?_
   exact St.wk (hJ2 _ hm) (Wk.mk' [] rfl rfl (.eqs rfl) trivial rfl)
  ·refine U.pg 2 2 false 5 hb3 T rfl rfl rfl rfl ?_
   refine U.r (o := _) rfl (.none rfl) rfl rfl (by exact Rd.pk' rfl rfl hb3 rfl) ?_
   refine U.ps 1 T rfl ?_
   refine U.done ?_
   exact St.wk (hJ2 _ hm) (Wk.mk' [] rfl rfl (.eqs rfl) trivial rfl)
theorem T_taquinref11_shelfAt (l : List ApiShelf) (c : Int) (post : Int → Prop) (hm : V_taquinref11_shelfAt l c post) :
    Tr Try.prog 44 [.sl 2 eApiShelf l, .i c] [] 0 (fun A H' k => ∃ y, post y ∧ A = (.i y) ∧ H' = [] ∧ k = 0) := by
 refine Tr.intro (n := 20) Try.func44 rfl Try.ntmps44 rfl (fun w0 ok F β hβ => ?_)
 unfold V_taquinref11_shelfAt at hm
 refine C.seq (U.start ?_)
 refine U.ps 1 T rfl ?_
 refine U.done (C.nx (C.seq (C.seq (U.start ?_))))
 refine U.ps 1 T rfl ?_
 refine U.done (C.nx ?_)
 refine C.jn (fun (x1 : Unit) => []) (fun (x1 : Unit) => []) 0 hm (fun x1 hm => ?_) (fun J2 hm hJ2 => ?_)
 ·refine C.nx (C.seq (U.start ?_))
  refine U.ps 1 T rfl ?_
  refine U.done (C.nx (C.ret ?_))
  exact C.fin T (rs' := [.i (-1)]) (H' := []) (nl' := 0) [] rfl rfl (.eq rfl) trivial rfl rfl rfl rfl hβ ⟨(-1), hm, rfl, rfl, rfl⟩
 ·refine C.block ?_
  refine St.wk (C.loop (fun (s3 : Int) => [(0, .sl 2 eApiShelf l), (1, .i c), (5, .i s3)]) (fun (s3 : Int) => []) hm (fun s3 Y4 hm => ?_)) (Wk.mk' [] rfl rfl (.eqs rfl) trivial rfl)
  refine C.seq (C.seq (U.start ?_))
  refine U.ps 4 T rfl ?_
  refine U.done (C.nx ?_)
  refine C.ite rfl hm (fun hb5 hm => ?_) (fun hb5 hm => ?_)
  ·refine C.skip (C.nx (C.seq (C.block (C.seq (U.start ?_)))))
   refine U.ps 2 T rfl ?_
   obtain ⟨x6, hx6, hm⟩ := hm
   refine U.r (o := _) rfl (.none rfl) rfl rfl (by exact Rd.ix T rfl rfl rfl rfl rfl rfl hx6) ?_
   refine U.ps 4 T rfl ?_
   refine U.done (C.nx ?_)
   refine C.ite rfl hm (fun hb7 hm => ?_) (fun hb7 hm => ?_)
   ·refine C.seq (U.start ?_)
    refine U.ps 2 T rfl ?_
    refine U.done (C.nx (C.ret (C.brt (C.rt (C.rt (C.brt (C.rt ?_)))))))
    exact C.fin T (rs' := [.i s3]) (H' := []) (nl' := 0) [] rfl rfl (.eq rfl) trivial rfl rfl rfl rfl hβ ⟨s3, hm, rfl, rfl, rfl⟩
   ·refine C.skip (C.bnx (C.nx (U.start ?_)))
    refine U.ps 3 T rfl ?_
    refine U.done (C.nx ?_)
    exact St.wk (C.next hm) (Wk.mk' [] rfl rfl (.eqs rfl) trivial rfl)
  ·refine C.exit (C.ex (C.ex (C.bex ?_)))
   exact St.wk (hJ2 _ hm) (Wk.mk' [] rfl rfl trivial trivial rfl)
theorem T_taquinref11_robotAt (l : List ApiStart) (c : Int) (post : Bool → Prop) (hm : V_taquinref11_robotAt l c post) :
    Tr Try.prog 45 [.sl 2 eApiStart l, .i c] [] 0 (fun A H' k => ∃ y, post y ∧ A = (.b y) ∧ H' = [] ∧ k = 0) := by
 refine Tr.intro (n := 19) Try.func45 rfl Try.ntmps45 rfl (fun w0 ok F β hβ => ?_)
 unfold V_taquinref11_robotAt at hm
 refine C.seq (U.start ?_)
 refine U.ps 1 T rfl ?_
 refine U.done (C.nx (C.seq (C.seq (U.start ?_))))
 refine U.ps 1 T rfl ?_
 refine U.done (C.nx ?_)
 refine C.jn (fun (x1 : Unit) => []) (fun (x1 : Unit) => []) 0 hm (fun x1 hm => ?_) (fun J2 hm hJ2 => ?_)
 ·refine C.nx (C.seq (U.start ?_))
  refine U.ps 1 T rfl ?_
  refine U.done (C.nx (C.ret ?_))
  exact C.fin T (rs' := [.b false]) (H' := []) (nl' := 0) [] rfl rfl (.eq rfl) trivial rfl rfl rfl rfl hβ ⟨false, hm, rfl, rfl, rfl⟩
 ·refine C.block ?_
  refine St.wk (C.loop (fun (s3 : Int) => [(0, .sl 2 eApiStart l), (1, .i c), (5, .i s3)]) (fun (s3 : Int) => []) hm (fun s3 Y4 hm => ?_)) (Wk.mk' [] rfl rfl (.eqs rfl) trivial rfl)
  refine C.seq (C.seq (U.start ?_))
  refine U.ps 4 T rfl ?_
  refine U.done (C.nx ?_)
  refine C.ite rfl hm (fun hb5 hm => ?_) (fun hb5 hm => ?_)
  ·refine C.skip (C.nx (C.seq (C.block (C.seq (U.start ?_)))))
   refine U.ps 2 T rfl ?_
   obtain ⟨x6, hx6, hm⟩ := hm
   refine U.r (o := _) rfl (.none rfl) rfl rfl (by exact Rd.ix T rfl rfl rfl rfl rfl rfl hx6) ?_
   refine U.ps 4 T rfl ?_
   refine U.done (C.nx ?_)
   refine C.ite rfl hm (fun hb7 hm => ?_) (fun hb7 hm => ?_)
   ·refine C.seq (U.start ?_)
    refine U.ps 1 T rfl ?_
    refine U.done (C.nx (C.ret (C.brt (C.rt (C.rt (C.brt (C.rt ?_)))))))
    exact C.fin T (rs' := [.b true]) (H' := []) (nl' := 0) [] rfl rfl (.eq rfl) trivial rfl rfl rfl rfl hβ ⟨true, hm, rfl, rfl, rfl⟩
   ·refine C.skip (C.bnx (C.nx (U.start ?_)))
    refine U.ps 3 T rfl ?_
    refine U.done (C.nx ?_)
    exact St.wk (C.next hm) (Wk.mk' [] rfl rfl (.eqs rfl) trivial rfl)
  ·refine C.exit (C.ex (C.ex (C.bex ?_)))
   exact St.wk (hJ2 _ hm) (Wk.mk' [] rfl rfl trivial trivial rfl)
theorem T_taquinref11_blanks (s_1 : ApiSite) (z : ApiZone) (post : Int → Prop) (hm : V_taquinref11_blanks s_1 z post) :
    Tr Try.prog 46 [.agg (eApiSite s_1), .agg (eApiZone z)] [] 0 (fun A H' k => ∃ y, post y ∧ A = (.i y) ∧ H' = [] ∧ k = 0) := by
 refine Tr.intro (n := 39) Try.func46 rfl Try.ntmps46 rfl (fun w0 ok F β hβ => ?_)
 unfold V_taquinref11_blanks at hm
 refine C.seq (U.start ?_)
 refine U.e1 (o := _) rfl (.none rfl) (by exact Eff1.box rfl rfl rfl rfl rfl) ?_
 refine U.e1 (o := _) rfl (.none rfl) (by exact Eff1.box rfl rfl rfl rfl rfl) ?_
 refine U.ps 1 T rfl ?_
 refine U.done (C.nx (C.seq (U.start ?_)))
 refine U.ps 1 T rfl ?_
 refine U.done (C.nx (C.seq (C.seq (U.start ?_))))
 refine U.ps 1 T rfl ?_
 refine U.done (C.nx ?_)
 refine C.jn (fun (x1 : Int) => [(5, .i x1)]) (fun (x1 : Int) => []) 0 hm (fun x1 hm => ?_) (fun J2 hm hJ2 => ?_)
 ·refine C.nx (C.seq (U.start ?_))
  refine U.ps 2 T rfl ?_
  refine U.done (C.nx (C.ret ?_))
  exact C.fin T (rs' := [.i x1]) (H' := []) (nl' := 0) [] rfl rfl (.eq rfl) trivial rfl rfl rfl rfl hβ ⟨x1, hm, rfl, rfl, rfl⟩
 ·refine C.block ?_
  refine St.wk (C.loop (fun (s3 : Int × Int) => [(2, .p 0 0), (3, .p 1 0), (5, .i s3.1), (6, .i s3.2)]) (fun (s3 : Int × Int) => [(0, .box (eApiSite s_1)), (1, .box (eApiZone z))]) hm (fun s3 Y4 hm => ?_)) (Wk.mk' [some 0, some 1] rfl rfl (.eqs rfl) ⟨⟨_, rfl, .box rfl (.eq rfl)⟩, ⟨_, rfl, .box rfl (.eq rfl)⟩, trivial⟩ rfl)
  refine C.seq (C.seq (U.start ?_))
  refine U.ps 5 T rfl ?_
  refine U.done (C.nx ?_)
  refine C.ite rfl hm (fun hb5 hm => ?_) (fun hb5 hm => ?_)
  ·refine C.skip (C.nx (C.seq (C.block (C.seq ?_))))
   refine C.jn (fun (x6 : Bool) => [(2, .p 0 0), (3, .p 1 0), (5, .i s3.1), (6, .i s3.2), (35, .b x6)]) (fun (x6 : Bool) => [(0, .box (eApiSite s_1)), (1, .box (eApiZone z))]) 2 hm (fun x6 hm => ?_) (fun J7 hm hJ7 => ?_)
   ·refine C.nx ?_
    refine C.jn (fun (x13 : Int) => [(2, .p 0 0), (3, .p 1 0), (5, .i x13), (6, .i s3.2)]) (fun (x13 : Int) => [(0, .box (eApiSite s_1)), (1, .box (eApiZone z))]) 2 hm (fun x13 hm => ?_) (fun J14 hm hJ14 => ?_)
    ·refine C.bnx (C.nx (U.start ?_))
     refine U.ps 3 T rfl ?_
     refine U.done (C.nx ?_)
     exact St.wk (C.next hm) (Wk.mk' [some 0, some 1] rfl rfl (.eqs rfl) ⟨⟨_, rfl, .box rfl (.eq rfl)⟩, ⟨_, rfl, .box rfl (.eq rfl)⟩, trivial⟩ rfl)
    ·refine C.ite rfl hm (fun hb15 hm => ?_) (fun hb15 hm => ?_)
     ·refine U.start ?_
      refine U.ps 3 T rfl ?_
      refine U.done ?_
      exact St.wk (hJ14 _ hm) (Wk.mk' [some 0, some 1] rfl rfl (.eqs rfl) ⟨⟨_, rfl, .box rfl (.eq rfl)⟩, ⟨_, rfl, .box rfl (.eq rfl)⟩, trivial⟩ rfl)
     ·refine C.skip ?_
      exact St.wk (hJ14 _ hm) (Wk.mk' [some 0, some 1] rfl rfl (.eqs rfl) ⟨⟨_, rfl, .box rfl (.eq rfl)⟩, ⟨_, rfl, .box rfl (.eq rfl)⟩, trivial⟩ rfl)
   ·refine D.beg 9999 [0, 1] [] mix rfl rfl (by kernel_rfl) (by repeat (first | exact NoPanicQ.body | refine NoPanicQ.th ?_ | refine NoPanicQ.blk ?_)) (fun hQ hS ws M' => ?_)
    refine D.ps 6 [(0, []), (1, []), (2, []), (3, []), (4, []), (5, [])] rfl hQ hS T rfl rfl (by kernel_rfl) ?_
    obtain ⟨x8, hx8, hm⟩ := hm
    refine D.q (o := _) 6 [] hQ hS rfl (.none rfl) rfl rfl (by exact Rd.ix T rfl rfl rfl rfl rfl rfl hx8) rfl (by kernel_rfl) ?_
    refine D.ps 1 [(7, [])] rfl hQ hS T rfl rfl (by kernel_rfl) ?_
    obtain ⟨x9, hx9, hm⟩ := hm
    refine D.q (o := _) 8 [] hQ hS rfl (.none rfl) rfl rfl (by exact Rd.ix T rfl rfl rfl rfl rfl rfl hx9) rfl (by kernel_rfl) ?_
    refine D.ps 1 [(9, [])] rfl hQ hS T rfl rfl (by kernel_rfl) ?_
    refine D.e (o := _) 10 rfl (.none rfl) (by exact Eff.c [] (v := true) (T_taquinref11_stands x9 _ hm) en43 rfl rfl rfl (.eq rfl) trivial rfl rfl rfl rfl rfl rfl (fun _ _ => ⟨(.v _), trivial⟩) (.inr ⟨rfl, rfl⟩) (fun _ => rfl) (fun _ => rfl) rfl) (by kernel_rfl) rfl rfl (fun x10' hm => ?_)
    obtain ⟨x10⟩ := x10'
    refine D.ps 1 [(11, [])] rfl hQ hS T rfl rfl (by kernel_rfl) ?_
    refine hm.cs (fun hb11 hm => ?_) (fun hb11 hm => ?_)
    ·refine D.q (o := _) 12 [] hQ hS rfl (.take 11 true 25 _ hb11 rfl rfl rfl) rfl rfl (by exact Rd.p T rfl) rfl (by kernel_rfl) ?_
     refine D.q (o := _) 13 [] hQ hS rfl (.take 11 true 25 _ hb11 rfl rfl rfl) rfl rfl (by exact Rd.l T rfl rfl rfl) rfl (by kernel_rfl) ?_
     refine D.q (o := _) 14 [] hQ hS rfl (.take 11 true 25 _ hb11 rfl rfl rfl) rfl rfl (by exact Rd.p T rfl) rfl (by kernel_rfl) ?_
     refine D.q (o := _) 15 [] hQ hS rfl (.take 11 true 25 _ hb11 rfl rfl rfl) rfl rfl (by exact Rd.l T rfl rfl rfl) rfl (by kernel_rfl) ?_
     refine D.q (o := _) 16 [] hQ hS rfl (.take 11 true 25 _ hb11 rfl rfl rfl) rfl rfl (by exact Rd.p T rfl) rfl (by kernel_rfl) ?_
     refine D.q (o := _) 17 [] hQ hS rfl (.take 11 true 25 _ hb11 rfl rfl rfl) rfl rfl (by exact Rd.ix T rfl rfl rfl rfl rfl rfl hx8) rfl (by kernel_rfl) ?_
     refine D.q (o := _) 18 [] hQ hS rfl (.take 11 true 25 _ hb11 rfl rfl rfl) rfl rfl (by exact Rd.l T rfl rfl rfl) rfl (by kernel_rfl) ?_
     refine D.e (o := _) 19 rfl (.take 11 true 25 _ hb11 rfl rfl rfl) (by exact Eff.c [] (v := true) (T_taquinref11_shelfAt s_1.Shelves x8 _ hm) en44 rfl rfl rfl (.eq rfl) trivial rfl rfl rfl rfl rfl rfl (fun _ _ => ⟨(.v _), trivial⟩) (.inr ⟨rfl, rfl⟩) (fun _ => rfl) (fun _ => rfl) rfl) (by kernel_rfl) rfl rfl (fun x12' hm => ?_)
     obtain ⟨x12⟩ := x12'
     refine D.q (o := _) 20 [] hQ hS rfl (.take 11 true 25 _ hb11 rfl rfl rfl) rfl rfl (by exact Rd.p T rfl) rfl (by kernel_rfl) ?_
     refine D.q (o := _) 21 [] hQ hS rfl (.none rfl) rfl rfl (by exact Rd.pk rfl rfl hb11 rfl) rfl (by kernel_rfl) ?_
     refine D.done (by kernel_rfl) ?_
     exact St.wk (hJ7 _ hm) (Wk.mk' [some 0, some 1] rfl rfl (.eqs rfl) ⟨⟨_, rfl, .box rfl (.eq rfl)⟩, ⟨_, rfl, .box rfl (.eq rfl)⟩, trivial⟩ rfl)
    ·refine D.sq (o := _) 12 [] hQ hS rfl (.skip 11 true 25 _ hb11 rfl rfl rfl) rfl rfl (by kernel_rfl) ?_
     refine D.sq (o := _) 13 [] hQ hS rfl (.skip 11 true 25 _ hb11 rfl rfl rfl) rfl rfl (by kernel_rfl) ?_
     refine D.sq (o := _) 14 [] hQ hS rfl (.skip 11 true 25 _ hb11 rfl rfl rfl) rfl rfl (by kernel_rfl) ?_
     refine D.sq (o := _) 15 [] hQ hS rfl (.skip 11 true 25 _ hb11 rfl rfl rfl) rfl rfl (by kernel_rfl) ?_
     refine D.sq (o := _) 16 [] hQ hS rfl (.skip 11 true 25 _ hb11 rfl rfl rfl) rfl rfl (by kernel_rfl) ?_
     refine D.sq (o := _) 17 [] hQ hS rfl (.skip 11 true 25 _ hb11 rfl rfl rfl) rfl rfl (by kernel_rfl) ?_
     refine D.sq (o := _) 18 [] hQ hS rfl (.skip 11 true 25 _ hb11 rfl rfl rfl) rfl rfl (by kernel_rfl) ?_
     refine D.sq (o := _) 19 [] hQ hS rfl (.skip 11 true 25 _ hb11 rfl rfl rfl) rfl rfl (by kernel_rfl) ?_
     refine D.sq (o := _) 20 [] hQ hS rfl (.skip 11 true 25 _ hb11 rfl rfl rfl) rfl rfl (by kernel_rfl) ?_
     refine D.q (o := _) 21 [] hQ hS rfl (.none rfl) rfl rfl (by exact Rd.pk' rfl rfl hb11 rfl) rfl (by kernel_rfl) ?_
     refine D.done (by kernel_rfl) ?_
     exact St.wk (hJ7 _ hm) (Wk.mk' [some 0, some 1] rfl rfl (.eqs rfl) ⟨⟨_, rfl, .box rfl (.eq rfl)⟩, ⟨_, rfl, .box rfl (.eq rfl)⟩, trivial⟩ rfl)
  ·refine C.exit (C.ex (C.ex (C.bex ?_)))
   exact St.wk (hJ2 _ hm) (Wk.mk' [] rfl rfl (.eqs rfl) trivial rfl)
theorem T_taquinref07_At (f : ApiFloor) (c : Int) (post : (Int × Int × Int) → Prop) (hm : V_taquinref07_At f c post) :
    Tr Try.prog 75 [.agg (eApiFloor f), .i c] [] 0 (fun A H' k => ∃ y, post y ∧ A = (.tup [.i y.1, .i y.2.1, .i y.2.2]) ∧ H' = [] ∧ k = 0) := by
 refine Tr.intro (n := 29) Try.func75 rfl Try.ntmps75 rfl (fun w0 ok F β hβ => ?_)
 unfold V_taquinref07_At at hm
 refine C.seq (U.start ?_)
 refine U.e1 (o := _) rfl (.none rfl) (by exact Eff1.box rfl rfl rfl rfl rfl) ?_
 refine U.ps 3 T rfl ?_
 refine U.done (C.nx (C.seq (C.seq (U.start ?_))))
 refine U.ps 2 T rfl ?_
 refine U.e (o := _) rfl (.none rfl) (by exact Eff.c [] (v := true) (T_taquinref07_Is f c _ hm) en34 rfl rfl rfl (.eq rfl) trivial rfl rfl rfl rfl rfl rfl (fun _ _ => ⟨(.v _), trivial⟩) (.inr ⟨rfl, rfl⟩) (fun _ => rfl) (fun _ => rfl) rfl) (fun x1' hm => ?_)
 obtain ⟨x1⟩ := x1'
 refine U.ps 1 T rfl ?_
 refine U.done (C.nx ?_)
 refine C.ite rfl hm (fun hb2 hm => ?_) (fun hb2 hm => ?_)
 ·refine C.seq (U.start ?_)
  refine U.ps 3 T rfl ?_
  refine U.done (C.nx (C.ret (C.rt ?_)))
  exact C.fin T (rs' := [.i ((0, 0, 0).1), .i ((0, 0, 0).2.1), .i ((0, 0, 0).2.2)]) (H' := []) (nl' := 0) [] rfl rfl (.eq rfl) trivial rfl rfl rfl rfl hβ ⟨(0, 0, 0), hm, rfl, rfl, rfl⟩
 ·refine C.skip (C.nx (C.seq ?_))
  refine D.beg 9999 [0] [] mix rfl rfl (by kernel_rfl) (by repeat (first | exact NoPanicQ.body | refine NoPanicQ.th ?_ | refine NoPanicQ.blk ?_)) (fun hQ hS ws M' => ?_)
  refine D.ps 3 [(0, []), (1, []), (2, [])] rfl hQ hS T rfl rfl (by kernel_rfl) ?_
  obtain ⟨hx3, hm⟩ := hm
  refine D.q (o := _) 3 [] hQ hS rfl (.none rfl) rfl rfl (by exact Rd.rm rfl rfl rfl rfl hx3) rfl (by kernel_rfl) ?_
  refine D.ps 3 [(4, []), (5, []), (6, [])] rfl hQ hS T rfl rfl (by kernel_rfl) ?_
  obtain ⟨hx4, hm⟩ := hm
  refine D.q (o := _) 7 [] hQ hS rfl (.none rfl) rfl rfl (by exact Rd.dv rfl rfl rfl rfl hx4) rfl (by kernel_rfl) ?_
  refine D.ps 2 [(8, []), (9, [])] rfl hQ hS T rfl rfl (by kernel_rfl) ?_
  obtain ⟨hx5, hm⟩ := hm
  refine D.q (o := _) 10 [] hQ hS rfl (.none rfl) rfl rfl (by exact Rd.rm rfl rfl rfl rfl hx5) rfl (by kernel_rfl) ?_
  refine D.ps 3 [(11, []), (12, []), (13, [])] rfl hQ hS T rfl rfl (by kernel_rfl) ?_
  obtain ⟨hx6, hm⟩ := hm
  refine D.q (o := _) 14 [] hQ hS rfl (.none rfl) rfl rfl (by exact Rd.dv rfl rfl rfl rfl hx6) rfl (by kernel_rfl) ?_
  refine D.ps 2 [(15, []), (16, [])] rfl hQ hS T rfl rfl (by kernel_rfl) ?_
  obtain ⟨hx7, hm⟩ := hm
  refine D.q (o := _) 17 [] hQ hS rfl (.none rfl) rfl rfl (by exact Rd.dv rfl rfl rfl rfl hx7) rfl (by kernel_rfl) ?_
  refine D.ps 3 [(18, []), (19, []), (20, [])] rfl hQ hS T rfl rfl (by kernel_rfl) ?_
  refine D.done (by kernel_rfl) ?_
  refine C.nx (C.ret ?_)
  exact C.fin T (rs' := [.i ((c.tmod f.W, (w64 (c.tdiv f.W)).tmod f.H, w64 ((w64 (c.tdiv f.W)).tdiv f.H)).1), .i ((c.tmod f.W, (w64 (c.tdiv f.W)).tmod f.H, w64 ((w64 (c.tdiv f.W)).tdiv f.H)).2.1), .i ((c.tmod f.W, (w64 (c.tdiv f.W)).tmod f.H, w64 ((w64 (c.tdiv f.W)).tdiv f.H)).2.2)]) (H' := []) (nl' := 0) [] rfl rfl (.eq rfl) trivial rfl rfl rfl rfl hβ ⟨(c.tmod f.W, (w64 (c.tdiv f.W)).tmod f.H, w64 ((w64 (c.tdiv f.W)).tdiv f.H)), hm, rfl, rfl, rfl⟩
theorem T_taquinref07_Cell (f : ApiFloor) (x_1 : Int) (y_1 : Int) (z : Int) (post : Int → Prop) (hm : V_taquinref07_Cell f x_1 y_1 z post) :
    Tr Try.prog 76 [.agg (eApiFloor f), .i x_1, .i y_1, .i z] [] 0 (fun A H' k => ∃ y, post y ∧ A = (.i y) ∧ H' = [] ∧ k = 0) := by
 refine Tr.intro (n := 48) Try.func76 rfl Try.ntmps76 rfl (fun w0 ok F β hβ => ?_)
 unfold V_taquinref07_Cell at hm
 refine C.seq (U.start ?_)
 refine U.e1 (o := _) rfl (.none rfl) (by exact Eff1.box rfl rfl rfl rfl rfl) ?_
 refine U.ps 1 T rfl ?_
 refine U.done (C.nx (C.seq (C.seq ?_)))
 refine C.jn (fun (x1 : Bool) => [(1, .i x_1), (2, .i y_1), (3, .i z), (4, .p 0 0), (36, .b x1)]) (fun (x1 : Bool) => [(0, .box (eApiFloor f))]) 1 hm (fun x1 hm => ?_) (fun J2 hm hJ2 => ?_)
 ·refine C.nx ?_
  refine C.ite rfl hm (fun hb8 hm => ?_) (fun hb8 hm => ?_)
  ·refine C.seq (U.start ?_)
   refine U.ps 1 T rfl ?_
   refine U.done (C.nx (C.ret (C.rt ?_)))
   exact C.fin T (rs' := [.i (-1)]) (H' := []) (nl' := 0) [] rfl rfl (.eq rfl) trivial rfl rfl rfl rfl hβ ⟨(-1), hm, rfl, rfl, rfl⟩
  ·refine C.skip (C.nx (C.seq (U.start ?_)))
   refine U.ps 12 T rfl ?_
   refine U.done (C.nx (C.ret ?_))
   exact C.fin T (rs' := [.i (w64 ((w64 ((w64 ((w64 (z * f.H)) + y_1)) * f.W)) + x_1))]) (H' := []) (nl' := 0) [] rfl rfl (.eq rfl) trivial rfl rfl rfl rfl hβ ⟨w64 ((w64 ((w64 ((w64 (z * f.H)) + y_1)) * f.W)) + x_1), hm, rfl, rfl, rfl⟩
 ·refine U.start ?_
  refine U.ps 3 T rfl ?_
  refine hm.cs (fun hb3 hm => ?_) (fun hb3 hm => ?_)
  ·refine U.sks 4 2 false 11 hb3 rfl rfl rfl ?_
   refine U.r (o := _) rfl (.none rfl) rfl rfl (by exact Rd.pk rfl rfl hb3 rfl) ?_
   refine U.ps 1 T rfl ?_
   refine U.sks 2 8 false 17 rfl rfl rfl rfl ?_
   refine U.r (o := _) rfl (.none rfl) rfl rfl (by exact Rd.pk rfl rfl rfl rfl) ?_
   refine U.ps 1 T rfl ?_
   refine U.sks 4 12 false 21 rfl rfl rfl rfl ?_
   refine U.r (o := _) rfl (.none rfl) rfl rfl (by exact Rd.pk rfl rfl rfl rfl) ?_
   refine U.ps 1 T rfl ?_
   refine U.sks 2 18 false 27 rfl rfl rfl rfl ?_
   refine U.r (o := _) rfl (.none rfl) rfl rfl (by exact Rd.pk rfl rfl rfl rfl) ?_
   refine U.ps 1 T rfl ?_
   refine U.sks 4 22 false 31 rfl rfl rfl rfl ?_
   refine U.r (o := _) rfl (.none rfl) rfl rfl (by exact Rd.pk rfl rfl rfl rfl) ?_
   refine U.done ?_
   exact St.wk (hJ2 _ hm) (Wk.mk' [some 0] rfl rfl (.eqs rfl) ⟨⟨_, rfl, .box rfl (.eq rfl)⟩, trivial⟩ rfl)
  ·refine U.pg 4 2 false 11 hb3 T rfl rfl rfl rfl ?_
   refine U.r (o := _) rfl (.none rfl) rfl rfl (by exact Rd.pk' rfl rfl hb3 rfl) ?_
   refine U.ps 1 T rfl ?_
   refine hm.cs (fun hb4 hm => ?_) (fun hb4 hm => ?_)
   ·refine U.sks 2 8 false 17 hb4 rfl rfl rfl ?_
    refine U.r (o := _) rfl (.none rfl) rfl rfl (by exact Rd.pk rfl rfl hb4 rfl) ?_
    refine U.ps 1 T rfl ?_
    refine U.sks 4 12 false 21 rfl rfl rfl rfl ?_
    refine U.r (o := _) rfl (.none rfl) rfl rfl (by exact Rd.pk rfl rfl rfl rfl) ?_
    refine U.ps 1 T rfl ?_
    refine U.sks 2 18 false 27 rfl rfl rfl rfl ?_
    refine U.r (o := _) rfl (.none rfl) rfl rfl (by exact Rd.pk rfl rfl rfl rfl) ?_
    refine U.ps 1 T rfl ?_
    refine U.sks 4 22 false 31 rfl rfl rfl rfl ?_
    refine U.r (o := _) rfl (.none rfl) rfl rfl (by exact Rd.pk rfl rfl rfl rfl) ?_
    refine U.done ?_
    exact St.wk (hJ2 _ hm) (Wk.mk' [some 0] rfl rfl (.eqs rfl) ⟨⟨_, rfl, .box rfl (.eq rfl)⟩, trivial⟩ rfl)
   ·refine U.pg 2 8 false 17 hb4 T rfl rfl rfl rfl ?_
    refine U.r (o := _) rfl (.none rfl) rfl rfl (by exact Rd.pk' rfl rfl hb4 rfl) ?_
    refine U.ps 1 T rfl ?_
    refine hm.cs (fun hb5 hm => ?_) (fun hb5 hm => ?_)
    ·refine U.sks 4 12 false 21 hb5 rfl rfl rfl ?_
     refine U.r (o := _) rfl (.none rfl) rfl rfl (by exact Rd.pk rfl rfl hb5 rfl) ?_
     refine U.ps 1 T rfl ?_
     refine U.sks 2 18 false 27 rfl rfl rfl rfl ?_
     refine U.r (o := _) rfl (.none rfl) rfl rfl (by exact Rd.pk rfl rfl rfl rfl) ?_
     refine U.ps 1 T rfl ?_
     refine U.sks 4 22 false 31 rfl rfl rfl rfl ?_
     refine U.r (o := _) rfl (.none rfl) rfl rfl (by exact Rd.pk rfl rfl rfl rfl) ?_
     refine U.done ?_
     exact St.wk (hJ2 _ hm) (Wk.mk' [some 0] rfl rfl (.eqs rfl) ⟨⟨_, rfl, .box rfl (.eq rfl)⟩, trivial⟩ rfl)
    ·refine U.pg 4 12 false 21 hb5 T rfl rfl rfl rfl ?_
     refine U.r (o := _) rfl (.none rfl) rfl rfl (by exact Rd.pk' rfl rfl hb5 rfl) ?_
     refine U.ps 1 T rfl ?_
     refine hm.cs (fun hb6 hm => ?_) (fun hb6 hm => ?_)
     ·refine U.sks 2 18 false 27 hb6 rfl rfl rfl ?_
      refine U.r (o := _) rfl (.none rfl) rfl rfl (by exact Rd.pk rfl rfl hb6 rfl) ?_
      refine U.ps 1 T rfl ?_
      refine U.sks 4 22 false 31 rfl rfl rfl rfl ?_
      refine U.r (o := _) rfl (.none rfl) rfl rfl (by exact Rd.pk rfl rfl rfl rfl) ?_
      refine U.done ?_
      exact St.wk (hJ2 _ hm) (Wk.mk' [some 0] rfl rfl (.eqs rfl) ⟨⟨_, rfl, .box rfl (.eq rfl)⟩, trivial⟩ rfl)
     ·refine U.pg 2 18 false 27 hb6 T rfl rfl rfl rfl ?_
      refine U.r (o := _) rfl (.none rfl) rfl rfl (by exact Rd.pk' rfl rfl hb6 rfl) ?_
      refine U.ps 1 T rfl ?_
      refine hm.cs (fun hb7 hm => ?_) (fun hb7 hm => ?_)
      ·refine U.sks 4 22 false 31 hb7 rfl rfl rfl ?_
       refine U.r (o := _) rfl (.none rfl) rfl rfl (by exact Rd.pk rfl rfl hb7 rfl) ?_
       refine U.done ?_
       exact St.wk (hJ2 _ hm) (Wk.mk' [some 0] rfl rfl (.eqs rfl) ⟨⟨_, rfl, .box rfl (.eq rfl)⟩, trivial⟩ rfl)
      ·refine U.pg 4 22 false 31 hb7 T rfl rfl rfl rfl ?_
       refine U.r (o := _) rfl (.none rfl) rfl rfl (by exact Rd.pk' rfl rfl hb7 rfl) ?_
       refine U.done ?_
       exact St.wk (hJ2 _ hm) (Wk.mk' [some 0] rfl rfl (.eqs rfl) ⟨⟨_, rfl, .box rfl (.eq rfl)⟩, trivial⟩ rfl)
theorem T_taquinref07_Beside (f : ApiFloor) (c : Int) (d : Int) (post : Int → Prop) (hm : V_taquinref07_Beside f c d post) :
    Tr Try.prog 58 [.agg (eApiFloor f), .i c, .i d] [] 0 (fun A H' k => ∃ y, post y ∧ A = (.i y) ∧ H' = [] ∧ k = 0) := by
 refine Tr.intro (n := 70) Try.func58 rfl Try.ntmps58 rfl (fun w0 ok F β hβ => ?_)
 unfold V_taquinref07_Beside at hm
 refine C.seq (U.start ?_)
 refine U.e1 (o := _) rfl (.none rfl) (by exact Eff1.box rfl rfl rfl rfl rfl) ?_
 refine U.ps 1 T rfl ?_
 refine U.done (C.nx (C.seq (C.seq (U.start ?_))))
 refine U.ps 2 T rfl ?_
 refine U.e (o := _) rfl (.none rfl) (by exact Eff.c [] (v := true) (T_taquinref07_Is f c _ hm) en34 rfl rfl rfl (.eq rfl) trivial rfl rfl rfl rfl rfl rfl (fun _ _ => ⟨(.v _), trivial⟩) (.inr ⟨rfl, rfl⟩) (fun _ => rfl) (fun _ => rfl) rfl) (fun x1' hm => ?_)
 obtain ⟨x1⟩ := x1'
 refine U.ps 1 T rfl ?_
 refine U.done (C.nx ?_)
 refine C.ite rfl hm (fun hb2 hm => ?_) (fun hb2 hm => ?_)
 ·refine C.seq (U.start ?_)
  refine U.ps 1 T rfl ?_
  refine U.done (C.nx (C.ret (C.rt ?_)))
  exact C.fin T (rs' := [.i (-1)]) (H' := []) (nl' := 0) [] rfl rfl (.eq rfl) trivial rfl rfl rfl rfl hβ ⟨(-1), hm, rfl, rfl, rfl⟩
 ·refine C.skip (C.nx (C.seq (U.start ?_)))
  refine U.ps 2 T rfl ?_
  refine U.e (o := _) rfl (.none rfl) (by exact Eff.c [] (v := true) (T_taquinref07_At f c _ hm) en75 rfl rfl rfl (.eq rfl) trivial rfl rfl rfl rfl rfl rfl (fun _ _ => ⟨(.tup (.cons (.v _) (.cons (.v _) (.cons (.v _) .nil)))), trivial⟩) (.inr ⟨rfl, rfl⟩) (fun _ => rfl) (fun _ => rfl) rfl) (fun x3' hm => ?_)
  obtain ⟨x3⟩ := x3'
  refine U.ps 7 T rfl ?_
  refine U.done (C.nx (C.seq (C.seq (U.start ?_))))
  refine U.ps 1 T rfl ?_
  refine U.done (C.nx (C.block (C.seq (U.start ?_))))
  refine U.ps 2 T rfl ?_
  refine U.done (C.nx ?_)
  refine C.ite rfl hm (fun hb4 hm => ?_) (fun hb4 hm => ?_)
  ·refine C.seq (U.start ?_)
   refine U.ps 5 T rfl ?_
   refine U.e (o := _) rfl (.none rfl) (by exact Eff.c [] (v := true) (T_taquinref07_Cell f (w64 (x3.1 + 1)) x3.2.1 x3.2.2 _ hm) en76 rfl rfl rfl (.eq rfl) trivial rfl rfl rfl rfl rfl rfl (fun _ _ => ⟨(.v _), trivial⟩) (.inr ⟨rfl, rfl⟩) (fun _ => rfl) (fun _ => rfl) rfl) (fun x5' hm => ?_)
   obtain ⟨x5⟩ := x5'
   refine U.ps 1 T rfl ?_
   refine U.done (C.nx (C.ret (C.brt (C.rt ?_))))
   exact C.fin T (rs' := [.i x5]) (H' := []) (nl' := 0) [] rfl rfl (.eq rfl) trivial rfl rfl rfl rfl hβ ⟨x5, hm, rfl, rfl, rfl⟩
  ·refine C.seq (U.start ?_)
   refine U.ps 2 T rfl ?_
   refine U.done (C.nx ?_)
   refine C.ite rfl hm (fun hb6 hm => ?_) (fun hb6 hm => ?_)
   ·refine C.seq (U.start ?_)
    refine U.ps 5 T rfl ?_
    refine U.e (o := _) rfl (.none rfl) (by exact Eff.c [] (v := true) (T_taquinref07_Cell f x3.1 (w64 (x3.2.1 + 1)) x3.2.2 _ hm) en76 rfl rfl rfl (.eq rfl) trivial rfl rfl rfl rfl rfl rfl (fun _ _ => ⟨(.v _), trivial⟩) (.inr ⟨rfl, rfl⟩) (fun _ => rfl) (fun _ => rfl) rfl) (fun x7' hm => ?_)
    obtain ⟨x7⟩ := x7'
    refine U.ps 1 T rfl ?_
    refine U.done (C.nx (C.ret (C.brt (C.rt ?_))))
    exact C.fin T (rs' := [.i x7]) (H' := []) (nl' := 0) [] rfl rfl (.eq rfl) trivial rfl rfl rfl rfl hβ ⟨x7, hm, rfl, rfl, rfl⟩
   ·refine C.seq (U.start ?_)
    refine U.ps 2 T rfl ?_
    refine U.done (C.nx ?_)
    refine C.ite rfl hm (fun hb8 hm => ?_) (fun hb8 hm => ?_)
    ·refine C.seq (U.start ?_)
     refine U.ps 5 T rfl ?_
     refine U.e (o := _) rfl (.none rfl) (by exact Eff.c [] (v := true) (T_taquinref07_Cell f (w64 (x3.1 - 1)) x3.2.1 x3.2.2 _ hm) en76 rfl rfl rfl (.eq rfl) trivial rfl rfl rfl rfl rfl rfl (fun _ _ => ⟨(.v _), trivial⟩) (.inr ⟨rfl, rfl⟩) (fun _ => rfl) (fun _ => rfl) rfl) (fun x9' hm => ?_)
     obtain ⟨x9⟩ := x9'
     refine U.ps 1 T rfl ?_
     refine U.done (C.nx (C.ret (C.brt (C.rt ?_))))
     exact C.fin T (rs' := [.i x9]) (H' := []) (nl' := 0) [] rfl rfl (.eq rfl) trivial rfl rfl rfl rfl hβ ⟨x9, hm, rfl, rfl, rfl⟩
    ·refine C.seq (U.start ?_)
     refine U.ps 2 T rfl ?_
     refine U.done (C.nx ?_)
     refine C.ite rfl hm (fun hb10 hm => ?_) (fun hb10 hm => ?_)
     ·refine C.seq (U.start ?_)
      refine U.ps 5 T rfl ?_
      refine U.e (o := _) rfl (.none rfl) (by exact Eff.c [] (v := true) (T_taquinref07_Cell f x3.1 (w64 (x3.2.1 - 1)) x3.2.2 _ hm) en76 rfl rfl rfl (.eq rfl) trivial rfl rfl rfl rfl rfl rfl (fun _ _ => ⟨(.v _), trivial⟩) (.inr ⟨rfl, rfl⟩) (fun _ => rfl) (fun _ => rfl) rfl) (fun x11' hm => ?_)
      obtain ⟨x11⟩ := x11'
      refine U.ps 1 T rfl ?_
      refine U.done (C.nx (C.ret (C.brt (C.rt ?_))))
      exact C.fin T (rs' := [.i x11]) (H' := []) (nl' := 0) [] rfl rfl (.eq rfl) trivial rfl rfl rfl rfl hβ ⟨x11, hm, rfl, rfl, rfl⟩
     ·refine C.seq (U.start ?_)
      refine U.ps 2 T rfl ?_
      refine U.done (C.nx ?_)
      refine C.ite rfl hm (fun hb12 hm => ?_) (fun hb12 hm => ?_)
      ·refine C.seq (U.start ?_)
       refine U.ps 5 T rfl ?_
       refine U.e (o := _) rfl (.none rfl) (by exact Eff.c [] (v := true) (T_taquinref07_Cell f x3.1 x3.2.1 (w64 (x3.2.2 + 1)) _ hm) en76 rfl rfl rfl (.eq rfl) trivial rfl rfl rfl rfl rfl rfl (fun _ _ => ⟨(.v _), trivial⟩) (.inr ⟨rfl, rfl⟩) (fun _ => rfl) (fun _ => rfl) rfl) (fun x13' hm => ?_)
       obtain ⟨x13⟩ := x13'
       refine U.ps 1 T rfl ?_
       refine U.done (C.nx (C.ret (C.brt (C.rt ?_))))
       exact C.fin T (rs' := [.i x13]) (H' := []) (nl' := 0) [] rfl rfl (.eq rfl) trivial rfl rfl rfl rfl hβ ⟨x13, hm, rfl, rfl, rfl⟩
      ·refine C.seq (U.start ?_)
       refine U.ps 2 T rfl ?_
       refine U.done (C.nx ?_)
       refine C.ite rfl hm (fun hb14 hm => ?_) (fun hb14 hm => ?_)
       ·refine C.seq (U.start ?_)
        refine U.ps 5 T rfl ?_
        refine U.e (o := _) rfl (.none rfl) (by exact Eff.c [] (v := true) (T_taquinref07_Cell f x3.1 x3.2.1 (w64 (x3.2.2 - 1)) _ hm) en76 rfl rfl rfl (.eq rfl) trivial rfl rfl rfl rfl rfl rfl (fun _ _ => ⟨(.v _), trivial⟩) (.inr ⟨rfl, rfl⟩) (fun _ => rfl) (fun _ => rfl) rfl) (fun x15' hm => ?_)
        obtain ⟨x15⟩ := x15'
        refine U.ps 1 T rfl ?_
        refine U.done (C.nx (C.ret (C.brt (C.rt ?_))))
        exact C.fin T (rs' := [.i x15]) (H' := []) (nl' := 0) [] rfl rfl (.eq rfl) trivial rfl rfl rfl rfl hβ ⟨x15, hm, rfl, rfl, rfl⟩
       ·refine C.skip (C.bnx (C.nx (C.seq (U.start ?_))))
        refine U.ps 1 T rfl ?_
        refine U.done (C.nx (C.ret ?_))
        exact C.fin T (rs' := [.i (-1)]) (H' := []) (nl' := 0) [] rfl rfl (.eq rfl) trivial rfl rfl rfl rfl hβ ⟨(-1), hm, rfl, rfl, rfl⟩
theorem T_taquinref11_Beside (s_1 : ApiSite) (post : Int → Prop) (hm : V_taquinref11_Beside s_1 post) :
    Tr Try.prog 47 [.agg (eApiSite s_1)] [] 0 (fun A H' k => ∃ y, post y ∧ A = (.i y) ∧ H' = [] ∧ k = 0) := by
 refine Tr.intro (n := 62) Try.func47 rfl Try.ntmps47 rfl (fun w0 ok F β hβ => ?_)
 unfold V_taquinref11_Beside at hm
 refine C.seq (U.start ?_)
 refine U.e1 (o := _) rfl (.none rfl) (by exact Eff1.box rfl rfl rfl rfl rfl) ?_
 refine U.ps 1 T rfl ?_
 refine U.done (C.nx (C.seq (C.seq (U.start ?_))))
 refine U.ps 1 T rfl ?_
 refine U.done (C.nx ?_)
 refine C.jn (fun (x1 : Unit) => []) (fun (x1 : Unit) => []) 0 hm (fun x1 hm => ?_) (fun J2 hm hJ2 => ?_)
 ·refine C.nx (C.seq (U.start ?_))
  refine U.ps 1 T rfl ?_
  refine U.done (C.nx (C.ret ?_))
  exact C.fin T (rs' := [.i (-1)]) (H' := []) (nl' := 0) [] rfl rfl (.eq rfl) trivial rfl rfl rfl rfl hβ ⟨(-1), hm, rfl, rfl, rfl⟩
 ·refine C.block ?_
  refine St.wk (C.loop (fun (s3 : Int) => [(1, .p 0 0), (3, .i s3)]) (fun (s3 : Int) => [(0, .box (eApiSite s_1))]) hm (fun s3 Y4 hm => ?_)) (Wk.mk' [some 0] rfl rfl (.eqs rfl) ⟨⟨_, rfl, .box rfl (.eq rfl)⟩, trivial⟩ rfl)
  refine C.seq (C.seq (U.start ?_))
  refine U.ps 5 T rfl ?_
  refine U.done (C.nx ?_)
  refine C.ite rfl hm (fun hb5 hm => ?_) (fun hb5 hm => ?_)
  ·refine C.skip (C.nx (C.seq ?_))
   refine C.jn (fun (x6 : Unit) => [(1, .p 0 0), (3, .i s3)]) (fun (x6 : Unit) => [(0, .box (eApiSite s_1))]) 1 hm (fun x6 hm => ?_) (fun J7 hm hJ7 => ?_)
   ·refine C.nx (U.start ?_)
    refine U.ps 3 T rfl ?_
    refine U.done (C.nx ?_)
    exact St.wk (C.next hm) (Wk.mk' [some 0] rfl rfl (.eqs rfl) ⟨⟨_, rfl, .box rfl (.eq rfl)⟩, trivial⟩ rfl)
   ·refine C.block (C.seq (U.start ?_))
    refine U.ps 1 T rfl ?_
    refine U.done (C.nx ?_)
    refine C.jn (fun (x8 : Unit) => [(1, .p 0 0), (3, .i s3)]) (fun (x8 : Unit) => [(0, .box (eApiSite s_1))]) 1 hm (fun x8 hm => ?_) (fun J9 hm hJ9 => ?_)
    ·refine C.bnx ?_
     exact St.wk (hJ7 _ hm) (Wk.mk' [some 0] rfl rfl (.eqs rfl) ⟨⟨_, rfl, .box rfl (.eq rfl)⟩, trivial⟩ rfl)
    ·refine C.block ?_
     refine St.wk (C.loop (fun (s10 : Int) => [(1, .p 0 0), (3, .i s3), (4, .i s10)]) (fun (s10 : Int) => [(0, .box (eApiSite s_1))]) hm (fun s10 Y11 hm => ?_)) (Wk.mk' [some 0] rfl rfl (.eqs rfl) ⟨⟨_, rfl, .box rfl (.eq rfl)⟩, trivial⟩ rfl)
     refine C.seq (C.seq (U.start ?_))
     refine U.ps 2 T rfl ?_
     refine U.done (C.nx ?_)
     refine C.ite rfl hm (fun hb12 hm => ?_) (fun hb12 hm => ?_)
     ·refine C.skip (C.nx (C.seq (C.block (C.seq ?_))))
      refine D.beg 9999 [0] [] mix rfl rfl (by kernel_rfl) (by repeat (first | exact NoPanicQ.body | refine NoPanicQ.th ?_ | refine NoPanicQ.blk ?_)) (fun hQ hS ws M' => ?_)
      refine D.ps 5 [(0, []), (1, []), (2, []), (3, []), (4, [])] rfl hQ hS T rfl rfl (by kernel_rfl) ?_
      obtain ⟨x13, hx13, hm⟩ := hm
      refine D.q (o := _) 5 [] hQ hS rfl (.none rfl) rfl rfl (by exact Rd.ix T rfl rfl rfl rfl rfl rfl hx13) rfl (by kernel_rfl) ?_
      refine D.ps 3 [(6, []), (7, []), (8, [])] rfl hQ hS T rfl rfl (by kernel_rfl) ?_
      refine D.e (o := _) 9 rfl (.none rfl) (by exact Eff.c [] (v := true) (T_taquinref07_Beside s_1.Floor x13.Cell s10 _ hm) en58 rfl rfl rfl (.eq rfl) trivial rfl rfl rfl rfl rfl rfl (fun _ _ => ⟨(.v _), trivial⟩) (.inr ⟨rfl, rfl⟩) (fun _ => rfl) (fun _ => rfl) rfl) (by kernel_rfl) rfl rfl (fun x14' hm => ?_)
      obtain ⟨x14⟩ := x14'
      refine D.ps 1 [(10, [])] rfl hQ hS T rfl rfl (by kernel_rfl) ?_
      refine D.done (by kernel_rfl) ?_
      refine C.nx (C.seq (U.start ?_))
      refine U.ps 3 T rfl ?_
      refine U.e (o := _) rfl (.none rfl) (by exact Eff.c [] (v := true) (T_taquinref11_shelfAt s_1.Shelves x14 _ hm) en44 rfl rfl rfl (.eq rfl) trivial rfl rfl rfl rfl rfl rfl (fun _ _ => ⟨(.v _), trivial⟩) (.inr ⟨rfl, rfl⟩) (fun _ => rfl) (fun _ => rfl) rfl) (fun x15' hm => ?_)
      obtain ⟨x15⟩ := x15'
      refine U.ps 1 T rfl ?_
      refine U.done (C.nx (C.seq ?_))
      refine C.jn (fun (x16 : Bool) => [(1, .p 0 0), (3, .i s3), (4, .i s10), (60, .b x16)]) (fun (x16 : Bool) => [(0, .box (eApiSite s_1))]) 1 hm (fun x16 hm => ?_) (fun J17 hm hJ17 => ?_)
      ·refine C.nx ?_
       refine C.ite rfl hm (fun hb23 hm => ?_) (fun hb23 hm => ?_)
       ·refine C.seq (U.start ?_)
        refine U.ps 2 T rfl ?_
        refine U.done (C.nx (C.ret (C.brt (C.rt (C.rt (C.brt (C.brt (C.rt (C.rt (C.brt (C.rt ?_)))))))))))
        exact C.fin T (rs' := [.i s3]) (H' := []) (nl' := 0) [] rfl rfl (.eq rfl) trivial rfl rfl rfl rfl hβ ⟨s3, hm, rfl, rfl, rfl⟩
       ·refine C.skip (C.bnx (C.nx (U.start ?_)))
        refine U.ps 3 T rfl ?_
        refine U.done (C.nx ?_)
        exact St.wk (C.next hm) (Wk.mk' [some 0] rfl rfl (.eqs rfl) ⟨⟨_, rfl, .box rfl (.eq rfl)⟩, trivial⟩ rfl)
      ·refine D.beg 9999 [0] [] mix rfl rfl (by kernel_rfl) (by repeat (first | exact NoPanicQ.body | refine NoPanicQ.th ?_ | refine NoPanicQ.blk ?_)) (fun hQ hS ws M' => ?_)
       refine D.ps 3 [(0, []), (1, []), (2, [])] rfl hQ hS T rfl rfl (by kernel_rfl) ?_
       refine hm.cs (fun hb18 hm => ?_) (fun hb18 hm => ?_)
       ·refine D.q (o := _) 3 [] hQ hS rfl (.take 2 true 34 _ hb18 rfl rfl rfl) rfl rfl (by exact Rd.p T rfl) rfl (by kernel_rfl) ?_
        refine D.q (o := _) 4 [] hQ hS rfl (.take 2 true 34 _ hb18 rfl rfl rfl) rfl rfl (by exact Rd.p T rfl) rfl (by kernel_rfl) ?_
        refine D.q (o := _) 5 [] hQ hS rfl (.none rfl) rfl rfl (by exact Rd.pk rfl rfl hb18 rfl) rfl (by kernel_rfl) ?_
        refine D.ps 1 [(6, [])] rfl hQ hS T rfl rfl (by kernel_rfl) ?_
        refine hm.cs (fun hb19 hm => ?_) (fun hb19 hm => ?_)
        ·refine D.q (o := _) 7 [] hQ hS rfl (.take 6 true 38 _ hb19 rfl rfl rfl) rfl rfl (by exact Rd.p T rfl) rfl (by kernel_rfl) ?_
         refine D.q (o := _) 8 [] hQ hS rfl (.take 6 true 38 _ hb19 rfl rfl rfl) rfl rfl (by exact Rd.p T rfl) rfl (by kernel_rfl) ?_
         refine D.q (o := _) 9 [] hQ hS rfl (.take 6 true 38 _ hb19 rfl rfl rfl) rfl rfl (by exact Rd.p T rfl) rfl (by kernel_rfl) ?_
         refine D.q (o := _) 10 [] hQ hS rfl (.none rfl) rfl rfl (by exact Rd.pk rfl rfl hb19 rfl) rfl (by kernel_rfl) ?_
         refine D.ps 1 [(11, [])] rfl hQ hS T rfl rfl (by kernel_rfl) ?_
         refine hm.cs (fun hb20 hm => ?_) (fun hb20 hm => ?_)
         ·refine D.q (o := _) 12 [] hQ hS rfl (.take 11 true 43 _ hb20 rfl rfl rfl) rfl rfl (by exact Rd.p T rfl) rfl (by kernel_rfl) ?_
          refine D.q (o := _) 13 [] hQ hS rfl (.take 11 true 43 _ hb20 rfl rfl rfl) rfl rfl (by exact Rd.l T rfl rfl rfl) rfl (by kernel_rfl) ?_
          refine D.q (o := _) 14 [] hQ hS rfl (.take 11 true 43 _ hb20 rfl rfl rfl) rfl rfl (by exact Rd.p T rfl) rfl (by kernel_rfl) ?_
          refine D.q (o := _) 15 [] hQ hS rfl (.take 11 true 43 _ hb20 rfl rfl rfl) rfl rfl (by exact Rd.l T rfl rfl rfl) rfl (by kernel_rfl) ?_
          refine D.q (o := _) 16 [] hQ hS rfl (.take 11 true 43 _ hb20 rfl rfl rfl) rfl rfl (by exact Rd.p T rfl) rfl (by kernel_rfl) ?_
          refine D.q (o := _) 17 [] hQ hS rfl (.take 11 true 43 _ hb20 rfl rfl rfl) rfl rfl (by exact Rd.ix T rfl rfl rfl rfl rfl rfl hx13) rfl (by kernel_rfl) ?_
          refine D.q (o := _) 18 [] hQ hS rfl (.take 11 true 43 _ hb20 rfl rfl rfl) rfl rfl (by exact Rd.p T rfl) rfl (by kernel_rfl) ?_
          refine D.q (o := _) 19 [] hQ hS rfl (.take 11 true 43 _ hb20 rfl rfl rfl) rfl rfl (by exact Rd.l T rfl rfl rfl) rfl (by kernel_rfl) ?_
          refine D.q (o := _) 20 [] hQ hS rfl (.take 11 true 43 _ hb20 rfl rfl rfl) rfl rfl (by exact Rd.p T rfl) rfl (by kernel_rfl) ?_
          refine D.q (o := _) 21 [] hQ hS rfl (.take 11 true 43 _ hb20 rfl rfl rfl) rfl rfl (by exact Rd.l T rfl rfl rfl) rfl (by kernel_rfl) ?_
          refine D.q (o := _) 22 [] hQ hS rfl (.take 11 true 43 _ hb20 rfl rfl rfl) rfl rfl (by exact Rd.p T rfl) rfl (by kernel_rfl) ?_
          refine D.q (o := _) 23 [] hQ hS rfl (.take 11 true 43 _ hb20 rfl rfl rfl) rfl rfl (by exact Rd.p T rfl) rfl (by kernel_rfl) ?_
          obtain ⟨x21, hx21, hm⟩ := hm
          refine D.q (o := _) 24 [] hQ hS rfl (.take 11 true 43 _ hb20 rfl rfl rfl) rfl rfl (by exact Rd.ix T rfl rfl rfl rfl rfl rfl hx21) rfl (by kernel_rfl) ?_
          refine D.q (o := _) 25 [] hQ hS rfl (.take 11 true 43 _ hb20 rfl rfl rfl) rfl rfl (by exact Rd.p T rfl) rfl (by kernel_rfl) ?_
          refine D.q (o := _) 26 [] hQ hS rfl (.take 11 true 43 _ hb20 rfl rfl rfl) rfl rfl (by exact Rd.l T rfl rfl rfl) rfl (by kernel_rfl) ?_
          refine D.e (o := _) 27 rfl (.take 11 true 43 _ hb20 rfl rfl rfl) (by exact Eff.c [] (v := true) (T_taquinref11_Apart s_1.Aparts x13.Class x21.Class _ hm) en42 rfl rfl rfl (.eq rfl) trivial rfl rfl rfl rfl rfl rfl (fun _ _ => ⟨(.v _), trivial⟩) (.inr ⟨rfl, rfl⟩) (fun _ => rfl) (fun _ => rfl) rfl) (by kernel_rfl) rfl rfl (fun x22' hm => ?_)
          obtain ⟨x22⟩ := x22'
          refine D.q (o := _) 28 [] hQ hS rfl (.none rfl) rfl rfl (by exact Rd.pk rfl rfl hb20 rfl) rfl (by kernel_rfl) ?_
          refine D.done (by kernel_rfl) ?_
          exact St.wk (hJ17 _ hm) (Wk.mk' [some 0] rfl rfl (.eqs rfl) ⟨⟨_, rfl, .box rfl (.eq rfl)⟩, trivial⟩ rfl)
         ·refine D.sq (o := _) 12 [] hQ hS rfl (.skip 11 true 43 _ hb20 rfl rfl rfl) rfl rfl (by kernel_rfl) ?_
          refine D.sq (o := _) 13 [] hQ hS rfl (.skip 11 true 43 _ hb20 rfl rfl rfl) rfl rfl (by kernel_rfl) ?_
          refine D.sq (o := _) 14 [] hQ hS rfl (.skip 11 true 43 _ hb20 rfl rfl rfl) rfl rfl (by kernel_rfl) ?_
          refine D.sq (o := _) 15 [] hQ hS rfl (.skip 11 true 43 _ hb20 rfl rfl rfl) rfl rfl (by kernel_rfl) ?_
          refine D.sq (o := _) 16 [] hQ hS rfl (.skip 11 true 43 _ hb20 rfl rfl rfl) rfl rfl (by kernel_rfl) ?_
          refine D.sq (o := _) 17 [] hQ hS rfl (.skip 11 true 43 _ hb20 rfl rfl rfl) rfl rfl (by kernel_rfl) ?_
          refine D.sq (o := _) 18 [] hQ hS rfl (.skip 11 true 43 _ hb20 rfl rfl rfl) rfl rfl (by kernel_rfl) ?_
          refine D.sq (o := _) 19 [] hQ hS rfl (.skip 11 true 43 _ hb20 rfl rfl rfl) rfl rfl (by kernel_rfl) ?_
          refine D.sq (o := _) 20 [] hQ hS rfl (.skip 11 true 43 _ hb20 rfl rfl rfl) rfl rfl (by kernel_rfl) ?_
          refine D.sq (o := _) 21 [] hQ hS rfl (.skip 11 true 43 _ hb20 rfl rfl rfl) rfl rfl (by kernel_rfl) ?_
          refine D.sq (o := _) 22 [] hQ hS rfl (.skip 11 true 43 _ hb20 rfl rfl rfl) rfl rfl (by kernel_rfl) ?_
          refine D.sq (o := _) 23 [] hQ hS rfl (.skip 11 true 43 _ hb20 rfl rfl rfl) rfl rfl (by kernel_rfl) ?_
          refine D.sq (o := _) 24 [] hQ hS rfl (.skip 11 true 43 _ hb20 rfl rfl rfl) rfl rfl (by kernel_rfl) ?_
          refine D.sq (o := _) 25 [] hQ hS rfl (.skip 11 true 43 _ hb20 rfl rfl rfl) rfl rfl (by kernel_rfl) ?_
          refine D.sq (o := _) 26 [] hQ hS rfl (.skip 11 true 43 _ hb20 rfl rfl rfl) rfl rfl (by kernel_rfl) ?_
          refine D.sq (o := _) 27 [] hQ hS rfl (.skip 11 true 43 _ hb20 rfl rfl rfl) rfl rfl (by kernel_rfl) ?_
          refine D.q (o := _) 28 [] hQ hS rfl (.none rfl) rfl rfl (by exact Rd.pk' rfl rfl hb20 rfl) rfl (by kernel_rfl) ?_
          refine D.done (by kernel_rfl) ?_
          exact St.wk (hJ17 _ hm) (Wk.mk' [some 0] rfl rfl (.eqs rfl) ⟨⟨_, rfl, .box rfl (.eq rfl)⟩, trivial⟩ rfl)
        ·refine D.sq (o := _) 7 [] hQ hS rfl (.skip 6 true 38 _ hb19 rfl rfl rfl) rfl rfl (by kernel_rfl) ?_
         refine D.sq (o := _) 8 [] hQ hS rfl (.skip 6 true 38 _ hb19 rfl rfl rfl) rfl rfl (by kernel_rfl) ?_
         refine D.sq (o := _) 9 [] hQ hS rfl (.skip 6 true 38 _ hb19 rfl rfl rfl) rfl rfl (by kernel_rfl) ?_
         refine D.q (o := _) 10 [] hQ hS rfl (.none rfl) rfl rfl (by exact Rd.pk' rfl rfl hb19 rfl) rfl (by kernel_rfl) ?_
         refine D.ps 1 [(11, [])] rfl hQ hS T rfl rfl (by kernel_rfl) ?_
         refine D.sq (o := _) 12 [] hQ hS rfl (.skip 11 true 43 _ rfl rfl rfl rfl) rfl rfl (by kernel_rfl) ?_
         refine D.sq (o := _) 13 [] hQ hS rfl (.skip 11 true 43 _ rfl rfl rfl rfl) rfl rfl (by kernel_rfl) ?_
         refine D.sq (o := _) 14 [] hQ hS rfl (.skip 11 true 43 _ rfl rfl rfl rfl) rfl rfl (by kernel_rfl) ?_
         refine D.sq (o := _) 15 [] hQ hS rfl (.skip 11 true 43 _ rfl rfl rfl rfl) rfl rfl (by kernel_rfl) ?_
         refine D.sq (o := _) 16 [] hQ hS rfl (.skip 11 true 43 _ rfl rfl rfl rfl) rfl rfl (by kernel_rfl) ?_
         refine D.sq (o := _) 17 [] hQ hS rfl (.skip 11 true 43 _ rfl rfl rfl rfl) rfl rfl (by kernel_rfl) ?_
         refine D.sq (o := _) 18 [] hQ hS rfl (.skip 11 true 43 _ rfl rfl rfl rfl) rfl rfl (by kernel_rfl) ?_
         refine D.sq (o := _) 19 [] hQ hS rfl (.skip 11 true 43 _ rfl rfl rfl rfl) rfl rfl (by kernel_rfl) ?_
         refine D.sq (o := _) 20 [] hQ hS rfl (.skip 11 true 43 _ rfl rfl rfl rfl) rfl rfl (by kernel_rfl) ?_
         refine D.sq (o := _) 21 [] hQ hS rfl (.skip 11 true 43 _ rfl rfl rfl rfl) rfl rfl (by kernel_rfl) ?_
         refine D.sq (o := _) 22 [] hQ hS rfl (.skip 11 true 43 _ rfl rfl rfl rfl) rfl rfl (by kernel_rfl) ?_
         refine D.sq (o := _) 23 [] hQ hS rfl (.skip 11 true 43 _ rfl rfl rfl rfl) rfl rfl (by kernel_rfl) ?_
         refine D.sq (o := _) 24 [] hQ hS rfl (.skip 11 true 43 _ rfl rfl rfl rfl) rfl rfl (by kernel_rfl) ?_
         refine D.sq (o := _) 25 [] hQ hS rfl (.skip 11 true 43 _ rfl rfl rfl rfl) rfl rfl (by kernel_rfl) ?_
         refine D.sq (o := _) 26 [] hQ hS rfl (.skip 11 true 43 _ rfl rfl rfl rfl) rfl rfl (by kernel_rfl) ?_
         refine D.sq (o := _) 27 [] hQ hS rfl (.skip 11 true 43 _ rfl rfl rfl rfl) rfl rfl (by kernel_rfl) ?_
         refine D.q (o := _) 28 [] hQ hS rfl (.none rfl) rfl rfl (by exact Rd.pk' rfl rfl rfl rfl) rfl (by kernel_rfl) ?_
         refine D.done (by kernel_rfl) ?_
         exact St.wk (hJ17 _ hm) (Wk.mk' [some 0] rfl rfl (.eqs rfl) ⟨⟨_, rfl, .box rfl (.eq rfl)⟩, trivial⟩ rfl)
       ·refine D.sq (o := _) 3 [] hQ hS rfl (.skip 2 true 34 _ hb18 rfl rfl rfl) rfl rfl (by kernel_rfl) ?_
        refine D.sq (o := _) 4 [] hQ hS rfl (.skip 2 true 34 _ hb18 rfl rfl rfl) rfl rfl (by kernel_rfl) ?_
        refine D.q (o := _) 5 [] hQ hS rfl (.none rfl) rfl rfl (by exact Rd.pk' rfl rfl hb18 rfl) rfl (by kernel_rfl) ?_
        refine D.ps 1 [(6, [])] rfl hQ hS T rfl rfl (by kernel_rfl) ?_
        refine D.sq (o := _) 7 [] hQ hS rfl (.skip 6 true 38 _ rfl rfl rfl rfl) rfl rfl (by kernel_rfl) ?_
        refine D.sq (o := _) 8 [] hQ hS rfl (.skip 6 true 38 _ rfl rfl rfl rfl) rfl rfl (by kernel_rfl) ?_
        refine D.sq (o := _) 9 [] hQ hS rfl (.skip 6 true 38 _ rfl rfl rfl rfl) rfl rfl (by kernel_rfl) ?_
        refine D.q (o := _) 10 [] hQ hS rfl (.none rfl) rfl rfl (by exact Rd.pk' rfl rfl rfl rfl) rfl (by kernel_rfl) ?_
        refine D.ps 1 [(11, [])] rfl hQ hS T rfl rfl (by kernel_rfl) ?_
        refine D.sq (o := _) 12 [] hQ hS rfl (.skip 11 true 43 _ rfl rfl rfl rfl) rfl rfl (by kernel_rfl) ?_
        refine D.sq (o := _) 13 [] hQ hS rfl (.skip 11 true 43 _ rfl rfl rfl rfl) rfl rfl (by kernel_rfl) ?_
        refine D.sq (o := _) 14 [] hQ hS rfl (.skip 11 true 43 _ rfl rfl rfl rfl) rfl rfl (by kernel_rfl) ?_
        refine D.sq (o := _) 15 [] hQ hS rfl (.skip 11 true 43 _ rfl rfl rfl rfl) rfl rfl (by kernel_rfl) ?_
        refine D.sq (o := _) 16 [] hQ hS rfl (.skip 11 true 43 _ rfl rfl rfl rfl) rfl rfl (by kernel_rfl) ?_
        refine D.sq (o := _) 17 [] hQ hS rfl (.skip 11 true 43 _ rfl rfl rfl rfl) rfl rfl (by kernel_rfl) ?_
        refine D.sq (o := _) 18 [] hQ hS rfl (.skip 11 true 43 _ rfl rfl rfl rfl) rfl rfl (by kernel_rfl) ?_
        refine D.sq (o := _) 19 [] hQ hS rfl (.skip 11 true 43 _ rfl rfl rfl rfl) rfl rfl (by kernel_rfl) ?_
        refine D.sq (o := _) 20 [] hQ hS rfl (.skip 11 true 43 _ rfl rfl rfl rfl) rfl rfl (by kernel_rfl) ?_
        refine D.sq (o := _) 21 [] hQ hS rfl (.skip 11 true 43 _ rfl rfl rfl rfl) rfl rfl (by kernel_rfl) ?_
        refine D.sq (o := _) 22 [] hQ hS rfl (.skip 11 true 43 _ rfl rfl rfl rfl) rfl rfl (by kernel_rfl) ?_
        refine D.sq (o := _) 23 [] hQ hS rfl (.skip 11 true 43 _ rfl rfl rfl rfl) rfl rfl (by kernel_rfl) ?_
        refine D.sq (o := _) 24 [] hQ hS rfl (.skip 11 true 43 _ rfl rfl rfl rfl) rfl rfl (by kernel_rfl) ?_
        refine D.sq (o := _) 25 [] hQ hS rfl (.skip 11 true 43 _ rfl rfl rfl rfl) rfl rfl (by kernel_rfl) ?_
        refine D.sq (o := _) 26 [] hQ hS rfl (.skip 11 true 43 _ rfl rfl rfl rfl) rfl rfl (by kernel_rfl) ?_
        refine D.sq (o := _) 27 [] hQ hS rfl (.skip 11 true 43 _ rfl rfl rfl rfl) rfl rfl (by kernel_rfl) ?_
        refine D.q (o := _) 28 [] hQ hS rfl (.none rfl) rfl rfl (by exact Rd.pk' rfl rfl rfl rfl) rfl (by kernel_rfl) ?_
        refine D.done (by kernel_rfl) ?_
        exact St.wk (hJ17 _ hm) (Wk.mk' [some 0] rfl rfl (.eqs rfl) ⟨⟨_, rfl, .box rfl (.eq rfl)⟩, trivial⟩ rfl)
     ·refine C.exit (C.ex (C.ex (C.bex ?_)))
      exact St.wk (hJ9 _ hm) (Wk.mk' [some 0] rfl rfl (.eqs rfl) ⟨⟨_, rfl, .box rfl (.eq rfl)⟩, trivial⟩ rfl)
  ·refine C.exit (C.ex (C.ex (C.bex ?_)))
   exact St.wk (hJ2 _ hm) (Wk.mk' [] rfl rfl trivial trivial rfl)
theorem T_taquinref11_charger (f : ApiFloor) (post : Bool → Prop) (hm : V_taquinref11_charger f post) :
    Tr Try.prog 48 [.agg (eApiFloor f)] [] 0 (fun A H' k => ∃ y, post y ∧ A = (.b y) ∧ H' = [] ∧ k = 0) := by
 refine Tr.intro (n := 6) Try.func48 rfl Try.ntmps48 rfl (fun w0 ok F β hβ => ?_)
 unfold V_taquinref11_charger at hm
 refine C.seq (U.start ?_)
 refine U.e1 (o := _) rfl (.none rfl) (by exact Eff1.box rfl rfl rfl rfl rfl) ?_
 refine U.ps 1 T rfl ?_
 refine U.done (C.nx (C.seq (U.start ?_)))
 refine U.ps 2 T rfl ?_
 refine U.e (o := _) rfl (.none rfl) (by exact Eff.c [] (v := true) (T_taquinref07_Has f.Kind 3 _ hm) en55 rfl rfl rfl (.eq rfl) trivial rfl rfl rfl rfl rfl rfl (fun _ _ => ⟨(.v _), trivial⟩) (.inr ⟨rfl, rfl⟩) (fun _ => rfl) (fun _ => rfl) rfl) (fun x1' hm => ?_)
 obtain ⟨x1⟩ := x1'
 refine U.ps 1 T rfl ?_
 refine U.done (C.nx (C.ret ?_))
 exact C.fin T (rs' := [.b x1]) (H' := []) (nl' := 0) [] rfl rfl (.eq rfl) trivial rfl rfl rfl rfl hβ ⟨x1, hm, rfl, rfl, rfl⟩
theorem T_taquinref11_Right (s_1 : ApiSite) (post : Bool → Prop) (hm : V_taquinref11_Right s_1 post) :
    Tr Try.prog 20 [.agg (eApiSite s_1)] [] 0 (fun A H' k => ∃ y, post y ∧ A = (.b y) ∧ H' = [] ∧ k = 0) := by
 refine Tr.intro (n := 186) Try.func20 rfl Try.ntmps20 rfl (fun w0 ok F β hβ => ?_)
 unfold V_taquinref11_Right at hm
 refine C.seq (U.start ?_)
 refine U.e1 (o := _) rfl (.none rfl) (by exact Eff1.box rfl rfl rfl rfl rfl) ?_
 refine U.ps 1 T rfl ?_
 refine U.done (C.nx (C.seq (C.seq ?_)))
 refine C.jn (fun (x1 : Bool) => [(1, .p 0 0), (30, .b x1)]) (fun (x1 : Bool) => [(0, .box (eApiSite s_1))]) 1 hm (fun x1 hm => ?_) (fun J2 hm hJ2 => ?_)
 ·refine C.nx ?_
  refine C.ite rfl hm (fun hb8 hm => ?_) (fun hb8 hm => ?_)
  ·refine C.seq (U.start ?_)
   refine U.ps 1 T rfl ?_
   refine U.done (C.nx (C.ret (C.rt ?_)))
   exact C.fin T (rs' := [.b false]) (H' := []) (nl' := 0) [] rfl rfl (.eq rfl) trivial rfl rfl rfl rfl hβ ⟨false, hm, rfl, rfl, rfl⟩
  ·refine C.skip (C.nx (C.seq (C.seq (U.start ?_))))
   refine U.ps 1 T rfl ?_
   refine U.done (C.nx ?_)
   refine C.jn (fun (x9 : Unit) => [(1, .p 0 0)]) (fun (x9 : Unit) => [(0, .box (eApiSite s_1))]) 1 hm (fun x9 hm => ?_) (fun J10 hm hJ10 => ?_)
   ·refine C.nx (C.seq (C.seq (U.start ?_)))
    refine U.ps 1 T rfl ?_
    refine U.done (C.nx ?_)
    refine C.jn (fun (x24 : Unit) => [(1, .p 0 0)]) (fun (x24 : Unit) => [(0, .box (eApiSite s_1))]) 1 hm (fun x24 hm => ?_) (fun J25 hm hJ25 => ?_)
    ·refine C.nx (C.seq (C.seq (U.start ?_)))
     refine U.ps 1 T rfl ?_
     refine U.done (C.nx ?_)
     refine C.jn (fun (x45 : Unit) => [(1, .p 0 0)]) (fun (x45 : Unit) => [(0, .box (eApiSite s_1))]) 1 hm (fun x45 hm => ?_) (fun J46 hm hJ46 => ?_)
     ·refine C.nx (C.seq (C.seq (U.start ?_)))
      refine U.ps 1 T rfl ?_
      refine U.done (C.nx ?_)
      refine C.jn (fun (x64 : Unit) => [(1, .p 0 0)]) (fun (x64 : Unit) => [(0, .box (eApiSite s_1))]) 1 hm (fun x64 hm => ?_) (fun J65 hm hJ65 => ?_)
      ·refine C.nx (C.seq ?_)
       refine C.jn (fun (x72 : Bool) => [(2, .b x72)]) (fun (x72 : Bool) => []) 0 hm (fun x72 hm => ?_) (fun J73 hm hJ73 => ?_)
       ·refine C.nx (C.ret ?_)
        exact C.fin T (rs' := [.b x72]) (H' := []) (nl' := 0) [] rfl rfl (.eq rfl) trivial rfl rfl rfl rfl hβ ⟨x72, hm, rfl, rfl, rfl⟩
       ·refine U.start ?_
        refine U.ps 1 T rfl ?_
        refine U.e (o := _) rfl (.none rfl) (by exact Eff.c [] (v := true) (T_taquinref11_Beside s_1 _ hm) en47 rfl rfl rfl (.eq rfl) trivial rfl rfl rfl rfl rfl rfl (fun _ _ => ⟨(.v _), trivial⟩) (.inr ⟨rfl, rfl⟩) (fun _ => rfl) (fun _ => rfl) rfl) (fun x74' hm => ?_)
        obtain ⟨x74⟩ := x74'
        refine U.ps 2 T rfl ?_
        refine hm.cs (fun hb75 hm => ?_) (fun hb75 hm => ?_)
        ·refine U.pg 2 3 true 181 hb75 T rfl rfl rfl rfl ?_
         refine U.e (o := _) rfl (.take 3 true 181 _ hb75 rfl rfl rfl) (by exact Eff.c [] (v := true) (T_taquinref11_charger s_1.Floor _ hm) en48 rfl rfl rfl (.eq rfl) trivial rfl rfl rfl rfl rfl rfl (fun _ _ => ⟨(.v _), trivial⟩) (.inr ⟨rfl, rfl⟩) (fun _ => rfl) (fun _ => rfl) rfl) (fun x76' hm => ?_)
         obtain ⟨x76⟩ := x76'
         refine U.r (o := _) rfl (.none rfl) rfl rfl (by exact Rd.pk rfl rfl hb75 rfl) ?_
         refine U.ps 1 T rfl ?_
         refine U.done ?_
         exact St.wk (hJ73 _ hm) (Wk.mk' [] rfl rfl (.eqs rfl) trivial rfl)
        ·refine U.sks 3 3 true 181 hb75 rfl rfl rfl ?_
         refine U.r (o := _) rfl (.none rfl) rfl rfl (by exact Rd.pk' rfl rfl hb75 rfl) ?_
         refine U.ps 1 T rfl ?_
         refine U.done ?_
         exact St.wk (hJ73 _ hm) (Wk.mk' [] rfl rfl (.eqs rfl) trivial rfl)
      ·refine C.block ?_
       refine St.wk (C.loop (fun (s66 : Int) => [(1, .p 0 0), (9, .i s66)]) (fun (s66 : Int) => [(0, .box (eApiSite s_1))]) hm (fun s66 Y67 hm => ?_)) (Wk.mk' [some 0] rfl rfl (.eqs rfl) ⟨⟨_, rfl, .box rfl (.eq rfl)⟩, trivial⟩ rfl)
       refine C.seq (C.seq (U.start ?_))
       refine U.ps 5 T rfl ?_
       refine U.done (C.nx ?_)
       refine C.ite rfl hm (fun hb68 hm => ?_) (fun hb68 hm => ?_)
       ·refine C.skip (C.nx (C.seq (C.block (C.seq ?_))))
        refine D.beg 9999 [0] [] mix rfl rfl (by kernel_rfl) (by repeat (first | exact NoPanicQ.body | refine NoPanicQ.th ?_ | refine NoPanicQ.blk ?_)) (fun hQ hS ws M' => ?_)
        refine D.ps 4 [(0, []), (1, []), (2, []), (3, [])] rfl hQ hS T rfl rfl (by kernel_rfl) ?_
        obtain ⟨x69, hx69, hm⟩ := hm
        refine D.q (o := _) 4 [] hQ hS rfl (.none rfl) rfl rfl (by exact Rd.ix T rfl rfl rfl rfl rfl rfl hx69) rfl (by kernel_rfl) ?_
        refine D.ps 4 [(5, []), (7, []), (8, []), (9, [])] rfl hQ hS T rfl rfl (by kernel_rfl) ?_
        refine D.q (o := _) 10 [] hQ hS rfl (.none rfl) rfl rfl (by exact Rd.ix T rfl rfl rfl rfl rfl rfl hx69) rfl (by kernel_rfl) ?_
        refine D.ps 2 [(11, []), (12, [])] rfl hQ hS T rfl rfl (by kernel_rfl) ?_
        refine D.e (o := _) 6 rfl (.none rfl) (by exact Eff.c [] (v := true) (T_taquinref11_blanks s_1 x69 _ hm) en46 rfl rfl rfl (.eq rfl) trivial rfl rfl rfl rfl rfl rfl (fun _ _ => ⟨(.v _), trivial⟩) (.inr ⟨rfl, rfl⟩) (fun _ => rfl) (fun _ => rfl) rfl) (by kernel_rfl) rfl rfl (fun x70' hm => ?_)
        obtain ⟨x70⟩ := x70'
        refine D.ps 1 [(13, [])] rfl hQ hS T rfl rfl (by kernel_rfl) ?_
        refine D.done (by kernel_rfl) ?_
        refine C.nx ?_
        refine C.ite rfl hm (fun hb71 hm => ?_) (fun hb71 hm => ?_)
        ·refine C.seq (U.start ?_)
         refine U.ps 1 T rfl ?_
         refine U.done (C.nx (C.ret (C.brt (C.rt (C.rt (C.brt (C.rt ?_)))))))
         exact C.fin T (rs' := [.b false]) (H' := []) (nl' := 0) [] rfl rfl (.eq rfl) trivial rfl rfl rfl rfl hβ ⟨false, hm, rfl, rfl, rfl⟩
        ·refine C.skip (C.bnx (C.nx (U.start ?_)))
         refine U.ps 3 T rfl ?_
         refine U.done (C.nx ?_)
         exact St.wk (C.next hm) (Wk.mk' [some 0] rfl rfl (.eqs rfl) ⟨⟨_, rfl, .box rfl (.eq rfl)⟩, trivial⟩ rfl)
       ·refine C.exit (C.ex (C.ex (C.bex ?_)))
        exact St.wk (hJ65 _ hm) (Wk.mk' [some 0] rfl rfl (.eqs rfl) ⟨⟨_, rfl, .box rfl (.eq rfl)⟩, trivial⟩ rfl)
     ·refine C.block ?_
      refine St.wk (C.loop (fun (s47 : Int) => [(1, .p 0 0), (7, .i s47)]) (fun (s47 : Int) => [(0, .box (eApiSite s_1))]) hm (fun s47 Y48 hm => ?_)) (Wk.mk' [some 0] rfl rfl (.eqs rfl) ⟨⟨_, rfl, .box rfl (.eq rfl)⟩, trivial⟩ rfl)
      refine C.seq (C.seq (U.start ?_))
      refine U.ps 5 T rfl ?_
      refine U.done (C.nx ?_)
      refine C.ite rfl hm (fun hb49 hm => ?_) (fun hb49 hm => ?_)
      ·refine C.skip (C.nx (C.seq (C.block (C.seq (U.start ?_)))))
       refine U.ps 3 T rfl ?_
       obtain ⟨x50, hx50, hm⟩ := hm
       refine U.r (o := _) rfl (.none rfl) rfl rfl (by exact Rd.ix T rfl rfl rfl rfl rfl rfl hx50) ?_
       refine U.ps 1 T rfl ?_
       refine U.e1 (o := _) rfl (.none rfl) (by exact Eff1.al T rfl rfl rfl rfl) ?_
       refine U.e1 (o := _) rfl (.none rfl) (by exact Eff1.st T rfl rfl rfl rfl rfl rfl rfl rfl rfl rfl) ?_
       refine U.done (C.nx (C.seq (C.seq ?_)))
       refine C.jn (fun (x51 : Bool) => [(1, .p 0 0), (7, .i s47), (8, .p 1 0), (139, .b x51)]) (fun (x51 : Bool) => [(0, .box (eApiSite s_1)), (1, .box [.i x50.Cell, .i x50.Charge])]) 2 hm (fun x51 hm => ?_) (fun J52 hm hJ52 => ?_)
       ·refine C.nx ?_
        refine C.ite rfl hm (fun hb56 hm => ?_) (fun hb56 hm => ?_)
        ·refine C.seq (U.start ?_)
         refine U.ps 1 T rfl ?_
         refine U.done (C.nx (C.ret (C.rt (C.brt (C.rt (C.rt (C.brt (C.rt ?_))))))))
         exact C.fin T (rs' := [.b false]) (H' := []) (nl' := 0) [] rfl rfl (.eq rfl) trivial rfl rfl rfl rfl hβ ⟨false, hm, rfl, rfl, rfl⟩
        ·refine C.skip (C.nx (C.seq ?_))
         refine C.jn (fun (x57 : Bool) => [(1, .p 0 0), (7, .i s47), (156, .b x57)]) (fun (x57 : Bool) => [(0, .box (eApiSite s_1))]) 1 hm (fun x57 hm => ?_) (fun J58 hm hJ58 => ?_)
         ·refine C.nx ?_
          refine C.ite rfl hm (fun hb63 hm => ?_) (fun hb63 hm => ?_)
          ·refine C.seq (U.start ?_)
           refine U.ps 1 T rfl ?_
           refine U.done (C.nx (C.ret (C.brt (C.rt (C.rt (C.brt (C.rt ?_)))))))
           exact C.fin T (rs' := [.b false]) (H' := []) (nl' := 0) [] rfl rfl (.eq rfl) trivial rfl rfl rfl rfl hβ ⟨false, hm, rfl, rfl, rfl⟩
          ·refine C.skip (C.bnx (C.nx (U.start ?_)))
           refine U.ps 3 T rfl ?_
           refine U.done (C.nx ?_)
           exact St.wk (C.next hm) (Wk.mk' [some 0] rfl rfl (.eqs rfl) ⟨⟨_, rfl, .box rfl (.eq rfl)⟩, trivial⟩ rfl)
         ·refine D.beg 9999 [0, 1] [] mix rfl rfl (by kernel_rfl) (by repeat (first | exact NoPanicQ.body | refine NoPanicQ.th ?_ | refine NoPanicQ.blk ?_)) (fun hQ hS ws M' => ?_)
          refine D.ps 5 [(0, []), (1, []), (2, []), (3, []), (4, [])] rfl hQ hS T rfl rfl (by kernel_rfl) ?_
          obtain ⟨x59, hx59, hm⟩ := hm
          refine D.q (o := _) 5 [] hQ hS rfl (.none rfl) rfl rfl (by exact Rd.ix T rfl rfl rfl rfl rfl rfl hx59) rfl (by kernel_rfl) ?_
          refine D.ps 3 [(6, []), (7, []), (8, [])] rfl hQ hS T rfl rfl (by kernel_rfl) ?_
          refine hm.cs (fun hb60 hm => ?_) (fun hb60 hm => ?_)
          ·refine D.sq (o := _) 9 [] hQ hS rfl (.skip 8 false 148 _ hb60 rfl rfl rfl) rfl rfl (by kernel_rfl) ?_
           refine D.sq (o := _) 10 [] hQ hS rfl (.skip 8 false 148 _ hb60 rfl rfl rfl) rfl rfl (by kernel_rfl) ?_
           refine D.sq (o := _) 11 [] hQ hS rfl (.skip 8 false 148 _ hb60 rfl rfl rfl) rfl rfl (by kernel_rfl) ?_
           refine D.sq (o := _) 12 [] hQ hS rfl (.skip 8 false 148 _ hb60 rfl rfl rfl) rfl rfl (by kernel_rfl) ?_
           refine D.sq (o := _) 13 [] hQ hS rfl (.skip 8 false 148 _ hb60 rfl rfl rfl) rfl rfl (by kernel_rfl) ?_
           refine D.sq (o := _) 14 [] hQ hS rfl (.skip 8 false 148 _ hb60 rfl rfl rfl) rfl rfl (by kernel_rfl) ?_
           refine D.sq (o := _) 15 [] hQ hS rfl (.skip 8 false 148 _ hb60 rfl rfl rfl) rfl rfl (by kernel_rfl) ?_
           refine D.q (o := _) 16 [] hQ hS rfl (.none rfl) rfl rfl (by exact Rd.pk rfl rfl hb60 rfl) rfl (by kernel_rfl) ?_
           refine D.done (by kernel_rfl) ?_
           exact St.wk (hJ58 _ hm) (Wk.mk' [some 0] rfl rfl (.eqs rfl) ⟨⟨_, rfl, .box rfl (.eq rfl)⟩, trivial⟩ rfl)
          ·refine D.q (o := _) 9 [] hQ hS rfl (.take 8 false 148 _ hb60 rfl rfl rfl) rfl rfl (by exact Rd.p T rfl) rfl (by kernel_rfl) ?_
           refine D.q (o := _) 10 [] hQ hS rfl (.take 8 false 148 _ hb60 rfl rfl rfl) rfl rfl (by exact Rd.l T rfl rfl rfl) rfl (by kernel_rfl) ?_
           refine D.q (o := _) 11 [] hQ hS rfl (.take 8 false 148 _ hb60 rfl rfl rfl) rfl rfl (by exact Rd.p T rfl) rfl (by kernel_rfl) ?_
           obtain ⟨hx61, hm⟩ := hm
           refine D.q (o := _) 12 [] hQ hS rfl (.take 8 false 148 _ hb60 rfl rfl rfl) rfl rfl (by exact Rd.so T rfl rfl rfl rfl rfl (.none _) (.some _ rfl) hx61) rfl (by kernel_rfl) ?_
           refine D.q (o := _) 13 [] hQ hS rfl (.take 8 false 148 _ hb60 rfl rfl rfl) rfl rfl (by exact Rd.p T rfl) rfl (by kernel_rfl) ?_
           refine D.q (o := _) 14 [] hQ hS rfl (.take 8 false 148 _ hb60 rfl rfl rfl) rfl rfl (by exact Rd.l T rfl rfl rfl) rfl (by kernel_rfl) ?_
           refine D.e (o := _) 15 rfl (.take 8 false 148 _ hb60 rfl rfl rfl) (by exact Eff.c [] (v := true) (T_taquinref11_robotAt (sub s_1.Robots 0 s47) x50.Cell _ hm) en45 rfl rfl rfl (.eq rfl) trivial rfl rfl rfl rfl rfl rfl (fun _ _ => ⟨(.v _), trivial⟩) (.inr ⟨rfl, rfl⟩) (fun _ => rfl) (fun _ => rfl) rfl) (by kernel_rfl) rfl rfl (fun x62' hm => ?_)
           obtain ⟨x62⟩ := x62'
           refine D.q (o := _) 16 [] hQ hS rfl (.none rfl) rfl rfl (by exact Rd.pk' rfl rfl hb60 rfl) rfl (by kernel_rfl) ?_
           refine D.done (by kernel_rfl) ?_
           exact St.wk (hJ58 _ hm) (Wk.mk' [some 0] rfl rfl (.eqs rfl) ⟨⟨_, rfl, .box rfl (.eq rfl)⟩, trivial⟩ rfl)
       ·refine U.start ?_
        refine U.ps 4 T rfl ?_
        refine U.e (o := _) rfl (.none rfl) (by exact Eff.c [] (v := true) (T_taquinref07_Is s_1.Floor x50.Cell _ hm) en34 rfl rfl rfl (.eq rfl) trivial rfl rfl rfl rfl rfl rfl (fun _ _ => ⟨(.v _), trivial⟩) (.inr ⟨rfl, rfl⟩) (fun _ => rfl) (fun _ => rfl) rfl) (fun x53' hm => ?_)
        obtain ⟨x53⟩ := x53'
        refine U.ps 2 T rfl ?_
        refine hm.cs (fun hb54 hm => ?_) (fun hb54 hm => ?_)
        ·refine U.pg 3 6 false 130 (ntF hb54) T rfl rfl rfl rfl ?_
         refine U.r (o := _) rfl (.none rfl) rfl rfl (by exact Rd.pk' rfl rfl (ntF hb54) rfl) ?_
         refine U.ps 1 T rfl ?_
         refine hm.cs (fun hb55 hm => ?_) (fun hb55 hm => ?_)
         ·refine U.sks 3 11 false 135 hb55 rfl rfl rfl ?_
          refine U.r (o := _) rfl (.none rfl) rfl rfl (by exact Rd.pk rfl rfl hb55 rfl) ?_
          refine U.done ?_
          exact St.wk (hJ52 _ hm) (Wk.mk' [some 0, some 1] rfl rfl (.eqs rfl) ⟨⟨_, rfl, .box rfl (.eq rfl)⟩, ⟨_, rfl, .box rfl (.eq rfl)⟩, trivial⟩ rfl)
         ·refine U.pg 3 11 false 135 hb55 T rfl rfl rfl rfl ?_
          refine U.r (o := _) rfl (.none rfl) rfl rfl (by exact Rd.pk' rfl rfl hb55 rfl) ?_
          refine U.done ?_
          exact St.wk (hJ52 _ hm) (Wk.mk' [some 0, some 1] rfl rfl (.eqs rfl) ⟨⟨_, rfl, .box rfl (.eq rfl)⟩, ⟨_, rfl, .box rfl (.eq rfl)⟩, trivial⟩ rfl)
        ·refine U.sks 3 6 false 130 (ntT hb54) rfl rfl rfl ?_
         refine U.r (o := _) rfl (.none rfl) rfl rfl (by exact Rd.pk rfl rfl (ntT hb54) rfl) ?_
         refine U.ps 1 T rfl ?_
         refine U.sks 3 11 false 135 rfl rfl rfl rfl ?_
         refine U.r (o := _) rfl (.none rfl) rfl rfl (by exact Rd.pk rfl rfl rfl rfl) ?_
         refine U.done ?_
         exact St.wk (hJ52 _ hm) (Wk.mk' [some 0, some 1] rfl rfl (.eqs rfl) ⟨⟨_, rfl, .box rfl (.eq rfl)⟩, ⟨_, rfl, .box rfl (.eq rfl)⟩, trivial⟩ rfl)
      ·refine C.exit (C.ex (C.ex (C.bex ?_)))
       exact St.wk (hJ46 _ hm) (Wk.mk' [some 0] rfl rfl (.eqs rfl) ⟨⟨_, rfl, .box rfl (.eq rfl)⟩, trivial⟩ rfl)
    ·refine C.block ?_
     refine St.wk (C.loop (fun (s26 : Int) => [(1, .p 0 0), (5, .i s26)]) (fun (s26 : Int) => [(0, .box (eApiSite s_1))]) hm (fun s26 Y27 hm => ?_)) (Wk.mk' [some 0] rfl rfl (.eqs rfl) ⟨⟨_, rfl, .box rfl (.eq rfl)⟩, trivial⟩ rfl)
     refine C.seq (C.seq (U.start ?_))
     refine U.ps 5 T rfl ?_
     refine U.done (C.nx ?_)
     refine C.ite rfl hm (fun hb28 hm => ?_) (fun hb28 hm => ?_)
     ·refine C.skip (C.nx (C.seq (C.block (C.seq (U.start ?_)))))
      refine U.ps 3 T rfl ?_
      obtain ⟨x29, hx29, hm⟩ := hm
      refine U.r (o := _) rfl (.none rfl) rfl rfl (by exact Rd.ix T rfl rfl rfl rfl rfl rfl hx29) ?_
      refine U.ps 1 T rfl ?_
      refine U.e1 (o := _) rfl (.none rfl) (by exact Eff1.al T rfl rfl rfl rfl) ?_
      refine U.e1 (o := _) rfl (.none rfl) (by exact Eff1.st T rfl rfl rfl rfl rfl rfl rfl rfl rfl rfl) ?_
      refine U.done (C.nx (C.seq (C.seq ?_)))
      refine C.jn (fun (x30 : Bool) => [(1, .p 0 0), (5, .i s26), (6, .p 1 0), (92, .b x30)]) (fun (x30 : Bool) => [(0, .box (eApiSite s_1)), (1, .box [.i x29.Cell, .v (.string x29.Class)])]) 2 hm (fun x30 hm => ?_) (fun J31 hm hJ31 => ?_)
      ·refine C.nx ?_
       refine C.ite rfl hm (fun hb36 hm => ?_) (fun hb36 hm => ?_)
       ·refine C.seq (U.start ?_)
        refine U.ps 1 T rfl ?_
        refine U.done (C.nx (C.ret (C.rt (C.brt (C.rt (C.rt (C.brt (C.rt ?_))))))))
        exact C.fin T (rs' := [.b false]) (H' := []) (nl' := 0) [] rfl rfl (.eq rfl) trivial rfl rfl rfl rfl hβ ⟨false, hm, rfl, rfl, rfl⟩
       ·refine C.skip (C.nx (C.seq ?_))
        refine C.jn (fun (x37 : Bool) => [(1, .p 0 0), (5, .i s26), (111, .b x37)]) (fun (x37 : Bool) => [(0, .box (eApiSite s_1))]) 1 hm (fun x37 hm => ?_) (fun J38 hm hJ38 => ?_)
        ·refine C.nx ?_
         refine C.ite rfl hm (fun hb44 hm => ?_) (fun hb44 hm => ?_)
         ·refine C.seq (U.start ?_)
          refine U.ps 1 T rfl ?_
          refine U.done (C.nx (C.ret (C.brt (C.rt (C.rt (C.brt (C.rt ?_)))))))
          exact C.fin T (rs' := [.b false]) (H' := []) (nl' := 0) [] rfl rfl (.eq rfl) trivial rfl rfl rfl rfl hβ ⟨false, hm, rfl, rfl, rfl⟩
         ·refine C.skip (C.bnx (C.nx (U.start ?_)))
          refine U.ps 3 T rfl ?_
          refine U.done (C.nx ?_)
          exact St.wk (C.next hm) (Wk.mk' [some 0] rfl rfl (.eqs rfl) ⟨⟨_, rfl, .box rfl (.eq rfl)⟩, trivial⟩ rfl)
        ·refine D.beg 9999 [0, 1] [] mix rfl rfl (by kernel_rfl) (by repeat (first | exact NoPanicQ.body | refine NoPanicQ.th ?_ | refine NoPanicQ.blk ?_)) (fun hQ hS ws M' => ?_)
         refine D.ps 5 [(0, []), (1, []), (2, []), (3, []), (4, [])] rfl hQ hS T rfl rfl (by kernel_rfl) ?_
         obtain ⟨x39, hx39, hm⟩ := hm
         refine D.q (o := _) 5 [] hQ hS rfl (.none rfl) rfl rfl (by exact Rd.ix T rfl rfl rfl rfl rfl rfl hx39) rfl (by kernel_rfl) ?_
         refine D.ps 1 [(6, [])] rfl hQ hS T rfl rfl (by kernel_rfl) ?_
         refine D.e (o := _) 7 rfl (.none rfl) (by exact Eff.c [] (v := true) (T_taquinref11_stands x39 _ hm) en43 rfl rfl rfl (.eq rfl) trivial rfl rfl rfl rfl rfl rfl (fun _ _ => ⟨(.v _), trivial⟩) (.inr ⟨rfl, rfl⟩) (fun _ => rfl) (fun _ => rfl) rfl) (by kernel_rfl) rfl rfl (fun x40' hm => ?_)
         obtain ⟨x40⟩ := x40'
         refine D.ps 2 [(8, []), (9, [])] rfl hQ hS T rfl rfl (by kernel_rfl) ?_
         refine hm.cs (fun hb41 hm => ?_) (fun hb41 hm => ?_)
         ·refine D.q (o := _) 10 [] hQ hS rfl (.take 9 false 102 _ (ntF hb41) rfl rfl rfl) rfl rfl (by exact Rd.p T rfl) rfl (by kernel_rfl) ?_
          refine D.q (o := _) 11 [] hQ hS rfl (.take 9 false 102 _ (ntF hb41) rfl rfl rfl) rfl rfl (by exact Rd.l T rfl rfl rfl) rfl (by kernel_rfl) ?_
          refine D.q (o := _) 12 [] hQ hS rfl (.take 9 false 102 _ (ntF hb41) rfl rfl rfl) rfl rfl (by exact Rd.p T rfl) rfl (by kernel_rfl) ?_
          obtain ⟨hx42, hm⟩ := hm
          refine D.q (o := _) 13 [] hQ hS rfl (.take 9 false 102 _ (ntF hb41) rfl rfl rfl) rfl rfl (by exact Rd.so T rfl rfl rfl rfl rfl (.none _) (.some _ rfl) hx42) rfl (by kernel_rfl) ?_
          refine D.q (o := _) 14 [] hQ hS rfl (.take 9 false 102 _ (ntF hb41) rfl rfl rfl) rfl rfl (by exact Rd.p T rfl) rfl (by kernel_rfl) ?_
          refine D.q (o := _) 15 [] hQ hS rfl (.take 9 false 102 _ (ntF hb41) rfl rfl rfl) rfl rfl (by exact Rd.l T rfl rfl rfl) rfl (by kernel_rfl) ?_
          refine D.e (o := _) 16 rfl (.take 9 false 102 _ (ntF hb41) rfl rfl rfl) (by exact Eff.c [] (v := true) (T_taquinref11_shelfAt (sub s_1.Shelves 0 s26) x29.Cell _ hm) en44 rfl rfl rfl (.eq rfl) trivial rfl rfl rfl rfl rfl rfl (fun _ _ => ⟨(.v _), trivial⟩) (.inr ⟨rfl, rfl⟩) (fun _ => rfl) (fun _ => rfl) rfl) (by kernel_rfl) rfl rfl (fun x43' hm => ?_)
          obtain ⟨x43⟩ := x43'
          refine D.q (o := _) 17 [] hQ hS rfl (.take 9 false 102 _ (ntF hb41) rfl rfl rfl) rfl rfl (by exact Rd.p T rfl) rfl (by kernel_rfl) ?_
          refine D.q (o := _) 18 [] hQ hS rfl (.none rfl) rfl rfl (by exact Rd.pk' rfl rfl (ntF hb41) rfl) rfl (by kernel_rfl) ?_
          refine D.done (by kernel_rfl) ?_
          exact St.wk (hJ38 _ hm) (Wk.mk' [some 0] rfl rfl (.eqs rfl) ⟨⟨_, rfl, .box rfl (.eq rfl)⟩, trivial⟩ rfl)
         ·refine D.sq (o := _) 10 [] hQ hS rfl (.skip 9 false 102 _ (ntT hb41) rfl rfl rfl) rfl rfl (by kernel_rfl) ?_
          refine D.sq (o := _) 11 [] hQ hS rfl (.skip 9 false 102 _ (ntT hb41) rfl rfl rfl) rfl rfl (by kernel_rfl) ?_
          refine D.sq (o := _) 12 [] hQ hS rfl (.skip 9 false 102 _ (ntT hb41) rfl rfl rfl) rfl rfl (by kernel_rfl) ?_
          refine D.sq (o := _) 13 [] hQ hS rfl (.skip 9 false 102 _ (ntT hb41) rfl rfl rfl) rfl rfl (by kernel_rfl) ?_
          refine D.sq (o := _) 14 [] hQ hS rfl (.skip 9 false 102 _ (ntT hb41) rfl rfl rfl) rfl rfl (by kernel_rfl) ?_
          refine D.sq (o := _) 15 [] hQ hS rfl (.skip 9 false 102 _ (ntT hb41) rfl rfl rfl) rfl rfl (by kernel_rfl) ?_
          refine D.sq (o := _) 16 [] hQ hS rfl (.skip 9 false 102 _ (ntT hb41) rfl rfl rfl) rfl rfl (by kernel_rfl) ?_
          refine D.sq (o := _) 17 [] hQ hS rfl (.skip 9 false 102 _ (ntT hb41) rfl rfl rfl) rfl rfl (by kernel_rfl) ?_
          refine D.q (o := _) 18 [] hQ hS rfl (.none rfl) rfl rfl (by exact Rd.pk rfl rfl (ntT hb41) rfl) rfl (by kernel_rfl) ?_
          refine D.done (by kernel_rfl) ?_
          exact St.wk (hJ38 _ hm) (Wk.mk' [some 0] rfl rfl (.eqs rfl) ⟨⟨_, rfl, .box rfl (.eq rfl)⟩, trivial⟩ rfl)
      ·refine U.start ?_
       refine U.ps 4 T rfl ?_
       refine U.e (o := _) rfl (.none rfl) (by exact Eff.c [] (v := true) (T_taquinref07_Is s_1.Floor x29.Cell _ hm) en34 rfl rfl rfl (.eq rfl) trivial rfl rfl rfl rfl rfl rfl (fun _ _ => ⟨(.v _), trivial⟩) (.inr ⟨rfl, rfl⟩) (fun _ => rfl) (fun _ => rfl) rfl) (fun x32' hm => ?_)
       obtain ⟨x32⟩ := x32'
       refine U.ps 2 T rfl ?_
       refine hm.cs (fun hb33 hm => ?_) (fun hb33 hm => ?_)
       ·refine U.pg 4 6 false 82 (ntF hb33) T rfl rfl rfl rfl ?_
        refine hm.cs (fun hb34 hm => ?_) (fun hb34 hm => ?_)
        ·refine U.sks 4 10 true 86 (ntF hb34) rfl rfl rfl ?_
         refine U.r (o := _) rfl (.take 6 false 82 _ (ntF hb33) rfl rfl rfl) rfl rfl (by exact Rd.pk' rfl rfl (ntF hb34) rfl) ?_
         refine U.r (o := _) rfl (.none rfl) rfl rfl (by exact Rd.pk' rfl rfl (ntF hb33) rfl) ?_
         refine U.done ?_
         exact St.wk (hJ31 _ hm) (Wk.mk' [some 0, some 1] rfl rfl (.eqs rfl) ⟨⟨_, rfl, .box rfl (.eq rfl)⟩, ⟨_, rfl, .box rfl (.eq rfl)⟩, trivial⟩ rfl)
        ·refine U.pg 2 10 true 86 (ntT hb34) T rfl rfl rfl rfl ?_
         refine U.e (o := _) rfl (.take 10 true 86 _ (ntT hb34) rfl rfl rfl) (by exact Eff.c [] (v := true) (T_taquinref11_Name x29.Class _ hm) en41 rfl rfl rfl (.eq rfl) trivial rfl rfl rfl rfl rfl rfl (fun _ _ => ⟨(.v _), trivial⟩) (.inr ⟨rfl, rfl⟩) (fun _ => rfl) (fun _ => rfl) rfl) (fun x35' hm => ?_)
         obtain ⟨x35⟩ := x35'
         refine U.pg 1 10 true 86 (ntT hb34) T rfl rfl rfl rfl ?_
         refine U.r (o := _) rfl (.take 6 false 82 _ (ntF hb33) rfl rfl rfl) rfl rfl (by exact Rd.pk rfl rfl (ntT hb34) rfl) ?_
         refine U.r (o := _) rfl (.none rfl) rfl rfl (by exact Rd.pk' rfl rfl (ntF hb33) rfl) ?_
         refine U.done ?_
         exact St.wk (hJ31 _ hm) (Wk.mk' [some 0, some 1] rfl rfl (.eqs rfl) ⟨⟨_, rfl, .box rfl (.eq rfl)⟩, ⟨_, rfl, .box rfl (.eq rfl)⟩, trivial⟩ rfl)
       ·refine U.sks 4 6 false 82 (ntT hb33) rfl rfl rfl ?_
        refine U.sku 4 10 true 86 rfl rfl rfl ?_
        refine U.sks 1 6 false 82 (ntT hb33) rfl rfl rfl ?_
        refine U.r (o := _) rfl (.none rfl) rfl rfl (by exact Rd.pk rfl rfl (ntT hb33) rfl) ?_
        refine U.done ?_
        exact St.wk (hJ31 _ hm) (Wk.mk' [some 0, some 1] rfl rfl (.eqs rfl) ⟨⟨_, rfl, .box rfl (.eq rfl)⟩, ⟨_, rfl, .box rfl (.eq rfl)⟩, trivial⟩ rfl)
     ·refine C.exit (C.ex (C.ex (C.bex ?_)))
      exact St.wk (hJ25 _ hm) (Wk.mk' [some 0] rfl rfl (.eqs rfl) ⟨⟨_, rfl, .box rfl (.eq rfl)⟩, trivial⟩ rfl)
   ·refine C.block ?_
    refine St.wk (C.loop (fun (s11 : Int) => [(1, .p 0 0), (3, .i s11)]) (fun (s11 : Int) => [(0, .box (eApiSite s_1))]) hm (fun s11 Y12 hm => ?_)) (Wk.mk' [some 0] rfl rfl (.eqs rfl) ⟨⟨_, rfl, .box rfl (.eq rfl)⟩, trivial⟩ rfl)
    refine C.seq (C.seq (U.start ?_))
    refine U.ps 5 T rfl ?_
    refine U.done (C.nx ?_)
    refine C.ite rfl hm (fun hb13 hm => ?_) (fun hb13 hm => ?_)
    ·refine C.skip (C.nx (C.seq (C.block (C.seq (U.start ?_)))))
     refine U.ps 3 T rfl ?_
     obtain ⟨x14, hx14, hm⟩ := hm
     refine U.r (o := _) rfl (.none rfl) rfl rfl (by exact Rd.ix T rfl rfl rfl rfl rfl rfl hx14) ?_
     refine U.ps 1 T rfl ?_
     refine U.e1 (o := _) rfl (.none rfl) (by exact Eff1.al T rfl rfl rfl rfl) ?_
     refine U.e1 (o := _) rfl (.none rfl) (by exact Eff1.st T rfl rfl rfl rfl rfl rfl rfl rfl rfl rfl) ?_
     refine U.done (C.nx (C.seq ?_))
     refine C.jn (fun (x15 : Bool) => [(1, .p 0 0), (3, .i s11), (63, .b x15)]) (fun (x15 : Bool) => [(0, .box (eApiSite s_1))]) 1 hm (fun x15 hm => ?_) (fun J16 hm hJ16 => ?_)
     ·refine C.nx ?_
      refine C.ite rfl hm (fun hb23 hm => ?_) (fun hb23 hm => ?_)
      ·refine C.seq (U.start ?_)
       refine U.ps 1 T rfl ?_
       refine U.done (C.nx (C.ret (C.brt (C.rt (C.rt (C.brt (C.rt ?_)))))))
       exact C.fin T (rs' := [.b false]) (H' := []) (nl' := 0) [] rfl rfl (.eq rfl) trivial rfl rfl rfl rfl hβ ⟨false, hm, rfl, rfl, rfl⟩
      ·refine C.skip (C.bnx (C.nx (U.start ?_)))
       refine U.ps 3 T rfl ?_
       refine U.done (C.nx ?_)
       exact St.wk (C.next hm) (Wk.mk' [some 0] rfl rfl (.eqs rfl) ⟨⟨_, rfl, .box rfl (.eq rfl)⟩, trivial⟩ rfl)
     ·refine D.beg 9999 [0, 1] [] mix rfl rfl (by kernel_rfl) (by repeat (first | exact NoPanicQ.body | refine NoPanicQ.th ?_ | refine NoPanicQ.blk ?_)) (fun hQ hS ws M' => ?_)
      refine D.ps 2 [(0, []), (1, [])] rfl hQ hS T rfl rfl (by kernel_rfl) ?_
      refine D.e (o := _) 2 rfl (.none rfl) (by exact Eff.c [] (v := true) (T_taquinref11_Name x14.A _ hm) en41 rfl rfl rfl (.eq rfl) trivial rfl rfl rfl rfl rfl rfl (fun _ _ => ⟨(.v _), trivial⟩) (.inr ⟨rfl, rfl⟩) (fun _ => rfl) (fun _ => rfl) rfl) (by kernel_rfl) rfl rfl (fun x17' hm => ?_)
      obtain ⟨x17⟩ := x17'
      refine D.ps 2 [(3, []), (4, [])] rfl hQ hS T rfl rfl (by kernel_rfl) ?_
      refine hm.cs (fun hb18 hm => ?_) (fun hb18 hm => ?_)
      ·refine D.q (o := _) 5 [] hQ hS rfl (.take 4 false 47 _ (ntF hb18) rfl rfl rfl) rfl rfl (by exact Rd.p T rfl) rfl (by kernel_rfl) ?_
       refine D.q (o := _) 6 [] hQ hS rfl (.take 4 false 47 _ (ntF hb18) rfl rfl rfl) rfl rfl (by exact Rd.l T rfl rfl rfl) rfl (by kernel_rfl) ?_
       refine D.e (o := _) 7 rfl (.take 4 false 47 _ (ntF hb18) rfl rfl rfl) (by exact Eff.c [] (v := true) (T_taquinref11_Name x14.B _ hm) en41 rfl rfl rfl (.eq rfl) trivial rfl rfl rfl rfl rfl rfl (fun _ _ => ⟨(.v _), trivial⟩) (.inr ⟨rfl, rfl⟩) (fun _ => rfl) (fun _ => rfl) rfl) (by kernel_rfl) rfl rfl (fun x19' hm => ?_)
       obtain ⟨x19⟩ := x19'
       refine D.q (o := _) 8 [] hQ hS rfl (.take 4 false 47 _ (ntF hb18) rfl rfl rfl) rfl rfl (by exact Rd.p T rfl) rfl (by kernel_rfl) ?_
       refine D.q (o := _) 9 [] hQ hS rfl (.none rfl) rfl rfl (by exact Rd.pk' rfl rfl (ntF hb18) rfl) rfl (by kernel_rfl) ?_
       refine D.ps 1 [(10, [])] rfl hQ hS T rfl rfl (by kernel_rfl) ?_
       refine hm.cs (fun hb20 hm => ?_) (fun hb20 hm => ?_)
       ·refine D.q (o := _) 11 [] hQ hS rfl (.take 10 false 53 _ (ntF hb20) rfl rfl rfl) rfl rfl (by exact Rd.p T rfl) rfl (by kernel_rfl) ?_
        refine D.q (o := _) 12 [] hQ hS rfl (.take 10 false 53 _ (ntF hb20) rfl rfl rfl) rfl rfl (by exact Rd.l T rfl rfl rfl) rfl (by kernel_rfl) ?_
        refine D.q (o := _) 13 [] hQ hS rfl (.take 10 false 53 _ (ntF hb20) rfl rfl rfl) rfl rfl (by exact Rd.p T rfl) rfl (by kernel_rfl) ?_
        obtain ⟨hx21, hm⟩ := hm
        refine D.q (o := _) 14 [] hQ hS rfl (.take 10 false 53 _ (ntF hb20) rfl rfl rfl) rfl rfl (by exact Rd.so T rfl rfl rfl rfl rfl (.none _) (.some _ rfl) hx21) rfl (by kernel_rfl) ?_
        refine D.q (o := _) 15 [] hQ hS rfl (.take 10 false 53 _ (ntF hb20) rfl rfl rfl) rfl rfl (by exact Rd.p T rfl) rfl (by kernel_rfl) ?_
        refine D.q (o := _) 16 [] hQ hS rfl (.take 10 false 53 _ (ntF hb20) rfl rfl rfl) rfl rfl (by exact Rd.l T rfl rfl rfl) rfl (by kernel_rfl) ?_
        refine D.q (o := _) 17 [] hQ hS rfl (.take 10 false 53 _ (ntF hb20) rfl rfl rfl) rfl rfl (by exact Rd.p T rfl) rfl (by kernel_rfl) ?_
        refine D.q (o := _) 18 [] hQ hS rfl (.take 10 false 53 _ (ntF hb20) rfl rfl rfl) rfl rfl (by exact Rd.l T rfl rfl rfl) rfl (by kernel_rfl) ?_
        refine D.e (o := _) 19 rfl (.take 10 false 53 _ (ntF hb20) rfl rfl rfl) (by exact Eff.c [] (v := true) (T_taquinref11_Apart (sub s_1.Aparts 0 s11) x14.A x14.B _ hm) en42 rfl rfl rfl (.eq rfl) trivial rfl rfl rfl rfl rfl rfl (fun _ _ => ⟨(.v _), trivial⟩) (.inr ⟨rfl, rfl⟩) (fun _ => rfl) (fun _ => rfl) rfl) (by kernel_rfl) rfl rfl (fun x22' hm => ?_)
        obtain ⟨x22⟩ := x22'
        refine D.q (o := _) 20 [] hQ hS rfl (.none rfl) rfl rfl (by exact Rd.pk' rfl rfl (ntF hb20) rfl) rfl (by kernel_rfl) ?_
        refine D.done (by kernel_rfl) ?_
        exact St.wk (hJ16 _ hm) (Wk.mk' [some 0] rfl rfl (.eqs rfl) ⟨⟨_, rfl, .box rfl (.eq rfl)⟩, trivial⟩ rfl)
       ·refine D.sq (o := _) 11 [] hQ hS rfl (.skip 10 false 53 _ (ntT hb20) rfl rfl rfl) rfl rfl (by kernel_rfl) ?_
        refine D.sq (o := _) 12 [] hQ hS rfl (.skip 10 false 53 _ (ntT hb20) rfl rfl rfl) rfl rfl (by kernel_rfl) ?_
        refine D.sq (o := _) 13 [] hQ hS rfl (.skip 10 false 53 _ (ntT hb20) rfl rfl rfl) rfl rfl (by kernel_rfl) ?_
        refine D.sq (o := _) 14 [] hQ hS rfl (.skip 10 false 53 _ (ntT hb20) rfl rfl rfl) rfl rfl (by kernel_rfl) ?_
        refine D.sq (o := _) 15 [] hQ hS rfl (.skip 10 false 53 _ (ntT hb20) rfl rfl rfl) rfl rfl (by kernel_rfl) ?_
        refine D.sq (o := _) 16 [] hQ hS rfl (.skip 10 false 53 _ (ntT hb20) rfl rfl rfl) rfl rfl (by kernel_rfl) ?_
        refine D.sq (o := _) 17 [] hQ hS rfl (.skip 10 false 53 _ (ntT hb20) rfl rfl rfl) rfl rfl (by kernel_rfl) ?_
        refine D.sq (o := _) 18 [] hQ hS rfl (.skip 10 false 53 _ (ntT hb20) rfl rfl rfl) rfl rfl (by kernel_rfl) ?_
        refine D.sq (o := _) 19 [] hQ hS rfl (.skip 10 false 53 _ (ntT hb20) rfl rfl rfl) rfl rfl (by kernel_rfl) ?_
        refine D.q (o := _) 20 [] hQ hS rfl (.none rfl) rfl rfl (by exact Rd.pk rfl rfl (ntT hb20) rfl) rfl (by kernel_rfl) ?_
        refine D.done (by kernel_rfl) ?_
        exact St.wk (hJ16 _ hm) (Wk.mk' [some 0] rfl rfl (.eqs rfl) ⟨⟨_, rfl, .box rfl (.eq rfl)⟩, trivial⟩ rfl)
      ·refine D.sq (o := _) 5 [] hQ hS rfl (.skip 4 false 47 _ (ntT hb18) rfl rfl rfl) rfl rfl (by kernel_rfl) ?_
       refine D.sq (o := _) 6 [] hQ hS rfl (.skip 4 false 47 _ (ntT hb18) rfl rfl rfl) rfl rfl (by kernel_rfl) ?_
       refine D.sq (o := _) 7 [] hQ hS rfl (.skip 4 false 47 _ (ntT hb18) rfl rfl rfl) rfl rfl (by kernel_rfl) ?_
       refine D.sq (o := _) 8 [] hQ hS rfl (.skip 4 false 47 _ (ntT hb18) rfl rfl rfl) rfl rfl (by kernel_rfl) ?_
       refine D.q (o := _) 9 [] hQ hS rfl (.none rfl) rfl rfl (by exact Rd.pk rfl rfl (ntT hb18) rfl) rfl (by kernel_rfl) ?_
       refine D.ps 1 [(10, [])] rfl hQ hS T rfl rfl (by kernel_rfl) ?_
       refine D.sq (o := _) 11 [] hQ hS rfl (.skip 10 false 53 _ rfl rfl rfl rfl) rfl rfl (by kernel_rfl) ?_
       refine D.sq (o := _) 12 [] hQ hS rfl (.skip 10 false 53 _ rfl rfl rfl rfl) rfl rfl (by kernel_rfl) ?_
       refine D.sq (o := _) 13 [] hQ hS rfl (.skip 10 false 53 _ rfl rfl rfl rfl) rfl rfl (by kernel_rfl) ?_
       refine D.sq (o := _) 14 [] hQ hS rfl (.skip 10 false 53 _ rfl rfl rfl rfl) rfl rfl (by kernel_rfl) ?_
       refine D.sq (o := _) 15 [] hQ hS rfl (.skip 10 false 53 _ rfl rfl rfl rfl) rfl rfl (by kernel_rfl) ?_
       refine D.sq (o := _) 16 [] hQ hS rfl (.skip 10 false 53 _ rfl rfl rfl rfl) rfl rfl (by kernel_rfl) ?_
       refine D.sq (o := _) 17 [] hQ hS rfl (.skip 10 false 53 _ rfl rfl rfl rfl) rfl rfl (by kernel_rfl) ?_
       refine D.sq (o := _) 18 [] hQ hS rfl (.skip 10 false 53 _ rfl rfl rfl rfl) rfl rfl (by kernel_rfl) ?_
       refine D.sq (o := _) 19 [] hQ hS rfl (.skip 10 false 53 _ rfl rfl rfl rfl) rfl rfl (by kernel_rfl) ?_
       refine D.q (o := _) 20 [] hQ hS rfl (.none rfl) rfl rfl (by exact Rd.pk rfl rfl rfl rfl) rfl (by kernel_rfl) ?_
       refine D.done (by kernel_rfl) ?_
       exact St.wk (hJ16 _ hm) (Wk.mk' [some 0] rfl rfl (.eqs rfl) ⟨⟨_, rfl, .box rfl (.eq rfl)⟩, trivial⟩ rfl)
    ·refine C.exit (C.ex (C.ex (C.bex ?_)))
     exact St.wk (hJ10 _ hm) (Wk.mk' [some 0] rfl rfl (.eqs rfl) ⟨⟨_, rfl, .box rfl (.eq rfl)⟩, trivial⟩ rfl)
 ·refine U.start ?_
  refine U.ps 2 T rfl ?_
  refine U.e (o := _) rfl (.none rfl) (by exact Eff.c [] (v := true) (T_taquinref07_Right s_1.Floor _ hm) en39 rfl rfl rfl (.eq rfl) trivial rfl rfl rfl rfl rfl rfl (fun _ _ => ⟨(.v _), trivial⟩) (.inr ⟨rfl, rfl⟩) (fun _ => rfl) (fun _ => rfl) rfl) (fun x3' hm => ?_)
  obtain ⟨x3⟩ := x3'
  refine U.ps 2 T rfl ?_
  refine hm.cs (fun hb4 hm => ?_) (fun hb4 hm => ?_)
  ·refine U.pg 1 4 false 14 (ntF hb4) T rfl rfl rfl rfl ?_
   refine U.e (o := _) rfl (.take 4 false 14 _ (ntF hb4) rfl rfl rfl) (by exact Eff.c [] (v := true) (T_taquinref11_rightZones s_1 _ hm) en40 rfl rfl rfl (.eq rfl) trivial rfl rfl rfl rfl rfl rfl (fun _ _ => ⟨(.v _), trivial⟩) (.inr ⟨rfl, rfl⟩) (fun _ => rfl) (fun _ => rfl) rfl) (fun x5' hm => ?_)
   obtain ⟨x5⟩ := x5'
   refine U.pg 1 4 false 14 (ntF hb4) T rfl rfl rfl rfl ?_
   refine U.r (o := _) rfl (.none rfl) rfl rfl (by exact Rd.pk' rfl rfl (ntF hb4) rfl) ?_
   refine U.ps 1 T rfl ?_
   refine hm.cs (fun hb6 hm => ?_) (fun hb6 hm => ?_)
   ·refine U.pg 4 9 false 19 (ntF hb6) T rfl rfl rfl rfl ?_
    refine U.r (o := _) rfl (.none rfl) rfl rfl (by exact Rd.pk' rfl rfl (ntF hb6) rfl) ?_
    refine U.ps 1 T rfl ?_
    refine hm.cs (fun hb7 hm => ?_) (fun hb7 hm => ?_)
    ·refine U.sks 4 15 false 25 hb7 rfl rfl rfl ?_
     refine U.r (o := _) rfl (.none rfl) rfl rfl (by exact Rd.pk rfl rfl hb7 rfl) ?_
     refine U.done ?_
     exact St.wk (hJ2 _ hm) (Wk.mk' [some 0] rfl rfl (.eqs rfl) ⟨⟨_, rfl, .box rfl (.eq rfl)⟩, trivial⟩ rfl)
    ·refine U.pg 4 15 false 25 hb7 T rfl rfl rfl rfl ?_
     refine U.r (o := _) rfl (.none rfl) rfl rfl (by exact Rd.pk' rfl rfl hb7 rfl) ?_
     refine U.done ?_
     exact St.wk (hJ2 _ hm) (Wk.mk' [some 0] rfl rfl (.eqs rfl) ⟨⟨_, rfl, .box rfl (.eq rfl)⟩, trivial⟩ rfl)
   ·refine U.sks 4 9 false 19 (ntT hb6) rfl rfl rfl ?_
    refine U.r (o := _) rfl (.none rfl) rfl rfl (by exact Rd.pk rfl rfl (ntT hb6) rfl) ?_
    refine U.ps 1 T rfl ?_
    refine U.sks 4 15 false 25 rfl rfl rfl rfl ?_
    refine U.r (o := _) rfl (.none rfl) rfl rfl (by exact Rd.pk rfl rfl rfl rfl) ?_
    refine U.done ?_
    exact St.wk (hJ2 _ hm) (Wk.mk' [some 0] rfl rfl (.eqs rfl) ⟨⟨_, rfl, .box rfl (.eq rfl)⟩, trivial⟩ rfl)
  ·refine U.sks 3 4 false 14 (ntT hb4) rfl rfl rfl ?_
   refine U.r (o := _) rfl (.none rfl) rfl rfl (by exact Rd.pk rfl rfl (ntT hb4) rfl) ?_
   refine U.ps 1 T rfl ?_
   refine U.sks 4 9 false 19 rfl rfl rfl rfl ?_
   refine U.r (o := _) rfl (.none rfl) rfl rfl (by exact Rd.pk rfl rfl rfl rfl) ?_
   refine U.ps 1 T rfl ?_
   refine U.sks 4 15 false 25 rfl rfl rfl rfl ?_
   refine U.r (o := _) rfl (.none rfl) rfl rfl (by exact Rd.pk rfl rfl rfl rfl) ?_
   refine U.done ?_
   exact St.wk (hJ2 _ hm) (Wk.mk' [some 0] rfl rfl (.eqs rfl) ⟨⟨_, rfl, .box rfl (.eq rfl)⟩, trivial⟩ rfl)
theorem T_taquinlaw23_fair (s_1 : ApiSite) (taken : List ApiTaken) (avoid : List Int) (post : Bool → Prop) (hm : V_taquinlaw23_fair s_1 taken avoid post) :
    Tr Try.prog 8 [.agg (eApiSite s_1), .sl 3 eApiTaken taken, .sl 1 eI avoid] [] 0 (fun A H' k => ∃ y, post y ∧ A = (.b y) ∧ H' = [] ∧ k = 0) := by
 refine Tr.intro (n := 42) Try.func8 rfl Try.ntmps8 rfl (fun w0 ok F β hβ => ?_)
 unfold V_taquinlaw23_fair at hm
 refine C.seq (U.start ?_)
 refine U.e1 (o := _) rfl (.none rfl) (by exact Eff1.box rfl rfl rfl rfl rfl) ?_
 refine U.ps 1 T rfl ?_
 refine U.done (C.nx (C.seq (C.seq (U.start ?_))))
 refine U.ps 1 T rfl ?_
 refine U.done (C.nx ?_)
 refine C.jn (fun (x1 : Unit) => [(1, .sl 3 eApiTaken taken), (2, .sl 1 eI avoid), (3, .p 0 0)]) (fun (x1 : Unit) => [(0, .box (eApiSite s_1))]) 1 hm (fun x1 hm => ?_) (fun J2 hm hJ2 => ?_)
 ·refine C.nx (C.seq ?_)
  refine C.jn (fun (x11 : Bool) => [(6, .b x11)]) (fun (x11 : Bool) => []) 0 hm (fun x11 hm => ?_) (fun J12 hm hJ12 => ?_)
  ·refine C.nx (C.ret ?_)
   exact C.fin T (rs' := [.b x11]) (H' := []) (nl' := 0) [] rfl rfl (.eq rfl) trivial rfl rfl rfl rfl hβ ⟨x11, hm, rfl, rfl, rfl⟩
  ·refine U.start ?_
   refine U.ps 1 T rfl ?_
   refine U.e (o := _) rfl (.none rfl) (by exact Eff.c [] (v := true) (T_taquinref11_Few s_1 50 20 _ hm) en19 rfl rfl rfl (.eq rfl) trivial rfl rfl rfl rfl rfl rfl (fun _ _ => ⟨(.v _), trivial⟩) (.inr ⟨rfl, rfl⟩) (fun _ => rfl) (fun _ => rfl) rfl) (fun x13' hm => ?_)
   obtain ⟨x13⟩ := x13'
   refine U.ps 1 T rfl ?_
   refine hm.cs (fun hb14 hm => ?_) (fun hb14 hm => ?_)
   ·refine U.pg 1 2 true 28 hb14 T rfl rfl rfl rfl ?_
    refine U.e (o := _) rfl (.take 2 true 28 _ hb14 rfl rfl rfl) (by exact Eff.c [] (v := true) (T_taquinref11_Right s_1 _ hm) en20 rfl rfl rfl (.eq rfl) trivial rfl rfl rfl rfl rfl rfl (fun _ _ => ⟨(.v _), trivial⟩) (.inr ⟨rfl, rfl⟩) (fun _ => rfl) (fun _ => rfl) rfl) (fun x15' hm => ?_)
    obtain ⟨x15⟩ := x15'
    refine U.r (o := _) rfl (.none rfl) rfl rfl (by exact Rd.pk rfl rfl hb14 rfl) ?_
    refine U.ps 1 T rfl ?_
    refine hm.cs (fun hb16 hm => ?_) (fun hb16 hm => ?_)
    ·refine U.pg 3 6 true 32 hb16 T rfl rfl rfl rfl ?_
     refine U.r (o := _) rfl (.none rfl) rfl rfl (by exact Rd.pk rfl rfl hb16 rfl) ?_
     refine U.ps 1 T rfl ?_
     refine hm.cs (fun hb17 hm => ?_) (fun hb17 hm => ?_)
     ·refine U.pg 3 11 true 37 hb17 T rfl rfl rfl rfl ?_
      refine U.r (o := _) rfl (.none rfl) rfl rfl (by exact Rd.pk rfl rfl hb17 rfl) ?_
      refine U.ps 1 T rfl ?_
      refine U.done ?_
      exact St.wk (hJ12 _ hm) (Wk.mk' [] rfl rfl (.eqs rfl) trivial rfl)
     ·refine U.sks 3 11 true 37 hb17 rfl rfl rfl ?_
      refine U.r (o := _) rfl (.none rfl) rfl rfl (by exact Rd.pk' rfl rfl hb17 rfl) ?_
      refine U.ps 1 T rfl ?_
      refine U.done ?_
      exact St.wk (hJ12 _ hm) (Wk.mk' [] rfl rfl (.eqs rfl) trivial rfl)
    ·refine U.sks 3 6 true 32 hb16 rfl rfl rfl ?_
     refine U.r (o := _) rfl (.none rfl) rfl rfl (by exact Rd.pk' rfl rfl hb16 rfl) ?_
     refine U.ps 1 T rfl ?_
     refine U.sks 3 11 true 37 rfl rfl rfl rfl ?_
     refine U.r (o := _) rfl (.none rfl) rfl rfl (by exact Rd.pk' rfl rfl rfl rfl) ?_
     refine U.ps 1 T rfl ?_
     refine U.done ?_
     exact St.wk (hJ12 _ hm) (Wk.mk' [] rfl rfl (.eqs rfl) trivial rfl)
   ·refine U.sks 2 2 true 28 hb14 rfl rfl rfl ?_
    refine U.r (o := _) rfl (.none rfl) rfl rfl (by exact Rd.pk' rfl rfl hb14 rfl) ?_
    refine U.ps 1 T rfl ?_
    refine U.sks 3 6 true 32 rfl rfl rfl rfl ?_
    refine U.r (o := _) rfl (.none rfl) rfl rfl (by exact Rd.pk' rfl rfl rfl rfl) ?_
    refine U.ps 1 T rfl ?_
    refine U.sks 3 11 true 37 rfl rfl rfl rfl ?_
    refine U.r (o := _) rfl (.none rfl) rfl rfl (by exact Rd.pk' rfl rfl rfl rfl) ?_
    refine U.ps 1 T rfl ?_
    refine U.done ?_
    exact St.wk (hJ12 _ hm) (Wk.mk' [] rfl rfl (.eqs rfl) trivial rfl)
 ·refine C.block ?_
  refine St.wk (C.loop (fun (s3 : Int) => [(1, .sl 3 eApiTaken taken), (2, .sl 1 eI avoid), (3, .p 0 0), (7, .i s3)]) (fun (s3 : Int) => [(0, .box (eApiSite s_1))]) hm (fun s3 Y4 hm => ?_)) (Wk.mk' [some 0] rfl rfl (.eqs rfl) ⟨⟨_, rfl, .box rfl (.eq rfl)⟩, trivial⟩ rfl)
  refine C.seq (C.seq ?_)
  refine C.jn (fun (x5 : Bool) => [(1, .sl 3 eApiTaken taken), (2, .sl 1 eI avoid), (3, .p 0 0), (7, .i s3), (16, .b x5)]) (fun (x5 : Bool) => [(0, .box (eApiSite s_1))]) 1 hm (fun x5 hm => ?_) (fun J6 hm hJ6 => ?_)
  ·refine C.nx ?_
   refine C.ite rfl hm (fun hb8 hm => ?_) (fun hb8 hm => ?_)
   ·refine C.skip (C.nx (C.seq (C.block (C.seq (U.start ?_)))))
    refine U.ps 3 T rfl ?_
    obtain ⟨x9, hx9, hm⟩ := hm
    refine U.r (o := _) rfl (.none rfl) rfl rfl (by exact Rd.ix T rfl rfl rfl rfl rfl rfl hx9) ?_
    refine U.ps 3 T rfl ?_
    refine U.done (C.nx ?_)
    refine C.ite rfl hm (fun hb10 hm => ?_) (fun hb10 hm => ?_)
    ·refine C.seq (U.start ?_)
     refine U.ps 1 T rfl ?_
     refine U.done (C.nx (C.ret (C.brt (C.rt (C.rt (C.brt (C.rt ?_)))))))
     exact C.fin T (rs' := [.b false]) (H' := []) (nl' := 0) [] rfl rfl (.eq rfl) trivial rfl rfl rfl rfl hβ ⟨false, hm, rfl, rfl, rfl⟩
    ·refine C.skip (C.bnx (C.nx (U.start ?_)))
     refine U.ps 3 T rfl ?_
     refine U.done (C.nx ?_)
     exact St.wk (C.next hm) (Wk.mk' [some 0] rfl rfl (.eqs rfl) ⟨⟨_, rfl, .box rfl (.eq rfl)⟩, trivial⟩ rfl)
   ·refine C.exit (C.ex (C.ex (C.bex ?_)))
    exact St.wk (hJ2 _ hm) (Wk.mk' [some 0] rfl rfl (.eqs rfl) ⟨⟨_, rfl, .box rfl (.eq rfl)⟩, trivial⟩ rfl)
  ·refine U.start ?_
   refine U.ps 6 T rfl ?_
   refine hm.cs (fun hb7 hm => ?_) (fun hb7 hm => ?_)
   ·refine U.pg 2 5 true 13 hb7 T rfl rfl rfl rfl ?_
    refine U.r (o := _) rfl (.none rfl) rfl rfl (by exact Rd.pk rfl rfl hb7 rfl) ?_
    refine U.done ?_
    exact St.wk (hJ6 _ hm) (Wk.mk' [some 0] rfl rfl (.eqs rfl) ⟨⟨_, rfl, .box rfl (.eq rfl)⟩, trivial⟩ rfl)
   ·refine U.sks 2 5 true 13 hb7 rfl rfl rfl ?_
    refine U.r (o := _) rfl (.none rfl) rfl rfl (by exact Rd.pk' rfl rfl hb7 rfl) ?_
    refine U.done ?_
    exact St.wk (hJ6 _ hm) (Wk.mk' [some 0] rfl rfl (.eqs rfl) ⟨⟨_, rfl, .box rfl (.eq rfl)⟩, trivial⟩ rfl)
theorem T_floor_spread_1__p0_p2_p4 (c : Int) (n : Int) (c0 : List Bool) (c1 : List Int) (c2 : List Int) (post : (List Bool × List Int × List Int) → Prop) (hm : V_floor_spread_1__p0_p2_p4 c n c0 c1 c2 post) :
    Tr Try.prog 61 [.i c, .i n, .p 0 0, .p 2 0, .p 4 0] [(0, .box [.o 1]), (1, .val (.os 1 eB c0)), (2, .box [.o 3]), (3, .val (.os 1 eI c1)), (4, .box [.o 5]), (5, .val (.os 1 eI c2))] 6 (fun A H' k => ∃ y, post y ∧ A = (.tup []) ∧ H' = [(0, .box [.o 6]), (2, .box [.o 7]), (4, .box [.o 8]), (6, .val (.os 1 eB y.1)), (7, .val (.os 1 eI y.2.1)), (8, .val (.os 1 eI y.2.2))] ∧ k = 9) := by
 refine Tr.intro (n := 22) Try.func61 rfl Try.ntmps61 rfl (fun w0 ok F β hβ => ?_)
 unfold V_floor_spread_1__p0_p2_p4 at hm
 refine C.seq (U.start ?_)
 refine U.ps 2 T rfl ?_
 obtain ⟨x1, hx1, hm⟩ := hm
 refine U.r (o := _) rfl (.none rfl) rfl rfl (by exact Rd.io T rfl rfl rfl rfl rfl rfl rfl hx1) ?_
 refine U.r (o := _) rfl (.none rfl) rfl rfl (by exact Rd.le T rfl rfl rfl (idx_some hx1).2.2 rfl rfl rfl) ?_
 refine U.done (C.nx ?_)
 refine C.jn (fun (x2 : List Bool × List Int × List Int) => []) (fun (x2 : List Bool × List Int × List Int) => [(0, .box [.o 1]), (1, .val (.os 1 eB x2.1)), (2, .box [.o 3]), (3, .val (.os 1 eI x2.2.1)), (4, .box [.o 6]), (6, .val (.os 1 eI x2.2.2))]) 7 hm (fun x2 hm => ?_) (fun J3 hm hJ3 => ?_)
 ·exact C.fin T (rs' := []) (H' := [(0, .box [.o 6]), (2, .box [.o 7]), (4, .box [.o 8]), (6, .val (.os 1 eB ((x2.1, x2.2.1, x2.2.2).1))), (7, .val (.os 1 eI ((x2.1, x2.2.1, x2.2.2).2.1))), (8, .val (.os 1 eI ((x2.1, x2.2.1, x2.2.2).2.2)))]) (nl' := 9) [some 0, some 1, some 2, some 3, some 4, some 5, some 1, some 3, some 6] rfl rfl (.eq rfl) ⟨⟨_, rfl, .box rfl (.eq rfl)⟩, ⟨_, rfl, .box rfl (.eq rfl)⟩, ⟨_, rfl, .box rfl (.eq rfl)⟩, ⟨_, rfl, .val rfl⟩, ⟨_, rfl, .val rfl⟩, ⟨_, rfl, .val rfl⟩, trivial⟩ rfl rfl rfl rfl hβ ⟨(x2.1, x2.2.1, x2.2.2), hm, rfl, rfl, rfl⟩
 ·refine C.ite rfl hm (fun hb4 hm => ?_) (fun hb4 hm => ?_)
  ·refine C.seq ?_
   refine D.beg 8 [0, 2] [1] mix rfl rfl (by kernel_rfl) (by repeat (first | exact NoPanicQ.body | refine NoPanicQ.th ?_ | refine NoPanicQ.blk ?_)) (fun hQ hS ws M' => ?_)
   refine D.ps 5 [(0, []), (1, []), (2, []), (3, []), (4, [])] rfl hQ hS T rfl rfl (by kernel_rfl) ?_
   refine D.q (o := _) 5 [] hQ hS rfl (.none rfl) rfl rfl (by exact Rd.io T rfl rfl rfl rfl rfl rfl rfl hx1) rfl (by kernel_rfl) ?_
   refine D.e1 (o := _) 6 rfl (.none rfl) (by exact Eff1.se T (z' := false) rfl rfl rfl (idx_some hx1).2.2 rfl rfl rfl rfl rfl rfl rfl rfl (fun _ => rfl) rfl) (by kernel_rfl) rfl rfl ?_
   obtain ⟨x5, hx5, hm⟩ := hm
   refine D.q (o := _) 7 [] hQ hS rfl (.none rfl) rfl rfl (by exact Rd.io T rfl rfl rfl rfl rfl rfl rfl hx5) rfl (by kernel_rfl) ?_
   refine D.ze1 (o := _) rfl (.none rfl) (by exact Eff1.se T (z' := n) rfl rfl rfl (idx_some hx5).2.2 rfl rfl rfl rfl rfl rfl rfl rfl (fun _ => rfl) rfl) (by kernel_rfl) (by kernel_rfl) ?_
   refine C.nx (U.start ?_)
   refine U.ps 2 T rfl ?_
   refine U.e1 (o := _) rfl (.none rfl) (by exact Eff1.bs T (enc := eI) (xs := ([c] : List Int)) rfl rfl rfl rfl rfl rfl rfl rfl rfl rfl (fun _ _ => rfl) rfl rfl) ?_
   obtain ⟨hx6, hm⟩ := hm
   refine U.e1 (o := _) rfl (.none rfl) (by exact Eff1.ap T rfl rfl rfl rfl rfl rfl (.inr ⟨_, rfl, rfl⟩) rfl rfl rfl (fun _ => rfl) rfl hx6) ?_
   refine U.e1 (o := _) rfl (.none rfl) (by exact Eff1.st T rfl rfl rfl rfl rfl rfl rfl rfl rfl rfl) ?_
   refine U.done ?_
   exact St.wk (hJ3 _ hm) (Wk.mk' [some 0, some 1, some 2, some 3, some 4, some 5, some 7] rfl rfl trivial ⟨⟨_, rfl, .box rfl (.eq rfl)⟩, ⟨_, rfl, .val rfl⟩, ⟨_, rfl, .box rfl (.eq rfl)⟩, ⟨_, rfl, .val rfl⟩, ⟨_, rfl, .box rfl (.eq rfl)⟩, ⟨_, rfl, .val rfl⟩, trivial⟩ rfl)
  ·refine C.skip ?_
   exact St.wk (hJ3 _ hm) (Wk.mk' [some 0, some 1, some 2, some 3, some 4, some 5, some 5] rfl rfl trivial ⟨⟨_, rfl, .box rfl (.eq rfl)⟩, ⟨_, rfl, .val rfl⟩, ⟨_, rfl, .box rfl (.eq rfl)⟩, ⟨_, rfl, .val rfl⟩, ⟨_, rfl, .box rfl (.eq rfl)⟩, ⟨_, rfl, .val rfl⟩, trivial⟩ rfl)
theorem T_floor_spread__floor_Next (f : ApiFloor) (from_1 : List Int) (avoid : List Int) (post : (List Int) → Prop) (hm : V_floor_spread__floor_Next f from_1 avoid post) :
    Tr Try.prog 36 [.agg (eApiFloor f), .sl 1 eI from_1, .sl 1 eI avoid, .fn (.func 17) [] []] [] 0 (fun A H' k => ∃ y, post y ∧ A = (.o 0) ∧ H' = [(0, .val (.os 1 eI y))] ∧ k = 1) := by
 refine Tr.intro (n := 103) Try.func36 rfl Try.ntmps36 rfl (fun w0 ok F β hβ => ?_)
 unfold V_floor_spread__floor_Next at hm
 refine C.seq (U.start ?_)
 refine U.e1 (o := _) rfl (.none rfl) (by exact Eff1.box rfl rfl rfl rfl rfl) ?_
 refine U.ps 1 T rfl ?_
 refine U.done (C.nx (C.seq (U.start ?_)))
 refine U.ps 1 T rfl ?_
 refine U.e (o := _) rfl (.none rfl) (by exact Eff.c [] (v := true) (T_floor_size f _ hm) en59 rfl rfl rfl (.eq rfl) trivial rfl rfl rfl rfl rfl rfl (fun _ _ => ⟨(.v _), trivial⟩) (.inr ⟨rfl, rfl⟩) (fun _ => rfl) (fun _ => rfl) rfl) (fun x1' hm => ?_)
 obtain ⟨x1⟩ := x1'
 obtain ⟨hx2, hm⟩ := hm
 refine U.e1 (o := _) rfl (.none rfl) (by exact Eff1.mk T (enc := eI) (z0 := 0) rfl rfl rfl rfl rfl rfl rfl rfl rfl rfl hx2) ?_
 refine U.e1 (o := _) rfl (.none rfl) (by exact Eff1.al T rfl rfl rfl rfl) ?_
 refine U.e1 (o := _) rfl (.none rfl) (by exact Eff1.st T rfl rfl rfl rfl rfl rfl rfl rfl rfl rfl) ?_
 refine U.done (C.nx (C.seq (U.start ?_)))
 refine U.ps 1 T rfl ?_
 refine U.e (o := _) rfl (.none rfl) (by exact Eff.c [] (v := true) (T_floor_size f _ hm) en59 rfl rfl rfl (.eq rfl) trivial rfl rfl rfl rfl rfl rfl (fun _ _ => ⟨(.v _), trivial⟩) (.inr ⟨rfl, rfl⟩) (fun _ => rfl) (fun _ => rfl) rfl) (fun x3' hm => ?_)
 obtain ⟨x3⟩ := x3'
 obtain ⟨hx4, hm⟩ := hm
 refine U.e1 (o := _) rfl (.none rfl) (by exact Eff1.mk T (enc := eB) (z0 := false) rfl rfl rfl rfl rfl rfl rfl rfl rfl rfl hx4) ?_
 refine U.e1 (o := _) rfl (.none rfl) (by exact Eff1.al T rfl rfl rfl rfl) ?_
 refine U.e1 (o := _) rfl (.none rfl) (by exact Eff1.st T rfl rfl rfl rfl rfl rfl rfl rfl rfl rfl) ?_
 refine U.done (C.nx (C.seq (C.seq (U.start ?_))))
 refine U.ps 4 T rfl ?_
 refine U.done (C.nx ?_)
 refine C.jn (fun (x5 : List Int × List Bool) => [(1, .sl 1 eI from_1), (2, .sl 1 eI avoid), (3, .fn (.func 17) [] []), (4, .p 0 0), (9, .p 1 0), (10, .p 3 0)]) (fun (x5 : List Int × List Bool) => [(0, .box (eApiFloor f)), (1, .box [.o 2]), (2, .val (.os 1 eI x5.1)), (3, .box [.o 4]), (4, .val (.os 1 eB x5.2))]) 5 hm (fun x5 hm => ?_) (fun J6 hm hJ6 => ?_)
 ·refine C.nx (C.seq (C.seq (U.start ?_)))
  refine U.ps 3 T rfl ?_
  refine U.done (C.nx ?_)
  refine C.jn (fun (x13 : List Bool) => [(1, .sl 1 eI from_1), (3, .fn (.func 17) [] []), (4, .p 0 0), (9, .p 1 0), (10, .p 3 0)]) (fun (x13 : List Bool) => [(0, .box (eApiFloor f)), (1, .box [.o 2]), (2, .val (.os 1 eI x5.1)), (3, .box [.o 4]), (4, .val (.os 1 eB x13))]) 5 hm (fun x13 hm => ?_) (fun J14 hm hJ14 => ?_)
  ·refine C.nx (C.seq (U.start ?_))
   refine U.e1 (o := _) rfl (.none rfl) (by exact Eff1.al T rfl rfl rfl rfl) ?_
   refine U.done (C.nx (C.seq (U.start ?_)))
   refine U.ps 2 T rfl ?_
   refine U.done (C.nx (C.seq (C.seq (U.start ?_))))
   refine U.ps 3 T rfl ?_
   refine U.done (C.nx ?_)
   refine C.jn (fun (x24 : List Int × List Int × List Bool) => [(3, .fn (.func 17) [] []), (4, .p 0 0), (9, .p 1 0), (15, .p 3 0), (16, .fn (.func 61) [] [.p 5 0, .p 1 0, .p 3 0])]) (fun (x24 : List Int × List Int × List Bool) => [(0, .box (eApiFloor f)), (1, .box [.o 2]), (2, .val (.os 1 eI x24.1)), (3, .box [.o 4]), (4, .val (.os 1 eI x24.2.1)), (5, .box [.o 6]), (6, .val (.os 1 eB x24.2.2))]) 7 hm (fun x24 hm => ?_) (fun J25 hm hJ25 => ?_)
   ·refine C.nx (C.seq ?_)
    refine C.jn (fun (x35 : List Int) => [(9, .p 0 0)]) (fun (x35 : List Int) => [(0, .box [.o 1]), (1, .val (.os 1 eI x35))]) 2 hm (fun x35 hm => ?_) (fun J36 hm hJ36 => ?_)
    ·refine C.nx (C.seq (U.start ?_))
     refine U.ps 2 T rfl ?_
     refine U.done (C.nx (C.ret ?_))
     exact C.fin T (rs' := [.o 0]) (H' := [(0, .val (.os 1 eI x35))]) (nl' := 1) [some 1] rfl rfl (.eq rfl) ⟨⟨_, rfl, .val rfl⟩, trivial⟩ rfl rfl rfl rfl hβ ⟨x35, hm, rfl, rfl, rfl⟩
    ·refine C.block ?_
     refine St.wk (C.loop (fun (s37 : List Int × List Int × List Bool) => [(3, .fn (.func 17) [] []), (4, .p 0 0), (9, .p 1 0), (15, .p 3 0), (16, .fn (.func 61) [] [.p 5 0, .p 1 0, .p 3 0])]) (fun (s37 : List Int × List Int × List Bool) => [(0, .box (eApiFloor f)), (1, .box [.o 2]), (2, .val (.os 1 eI s37.1)), (3, .box [.o 4]), (4, .val (.os 1 eI s37.2.1)), (5, .box [.o 6]), (6, .val (.os 1 eB s37.2.2))]) hm (fun s37 Y38 hm => ?_)) (Wk.mk' [some 0, some 1, some 2, some 3, some 4, some 5, some 6] rfl rfl (.eqs rfl) ⟨⟨_, rfl, .box rfl (.eq rfl)⟩, ⟨_, rfl, .box rfl (.eq rfl)⟩, ⟨_, rfl, .val rfl⟩, ⟨_, rfl, .box rfl (.eq rfl)⟩, ⟨_, rfl, .val rfl⟩, ⟨_, rfl, .box rfl (.eq rfl)⟩, ⟨_, rfl, .val rfl⟩, trivial⟩ rfl)
     refine C.seq (C.seq (U.start ?_))
     refine U.ps 3 T rfl ?_
     refine U.done (C.nx ?_)
     refine C.ite rfl hm (fun hb39 hm => ?_) (fun hb39 hm => ?_)
     ·refine C.skip (C.nx ?_)
      refine C.jn (fun (x40 : List Int × List Int × List Bool) => [(3, .fn (.func 17) [] []), (4, .p 0 0), (9, .p 1 0), (15, .p 3 0), (16, .fn (.func 61) [] [.p 5 0, .p 1 0, .p 3 0])]) (fun (x40 : List Int × List Int × List Bool) => [(0, .box (eApiFloor f)), (1, .box [.o 2]), (2, .val (.os 1 eI x40.1)), (3, .box [.o 4]), (4, .val (.os 1 eI x40.2.1)), (5, .box [.o 6]), (6, .val (.os 1 eB x40.2.2))]) 7 hm (fun x40 hm => ?_) (fun J41 hm hJ41 => ?_)
      ·refine C.nx ?_
       exact St.wk (C.next hm) (Wk.mk' [some 0, some 1, some 2, some 3, some 4, some 5, some 6] rfl rfl (.eqs rfl) ⟨⟨_, rfl, .box rfl (.eq rfl)⟩, ⟨_, rfl, .box rfl (.eq rfl)⟩, ⟨_, rfl, .val rfl⟩, ⟨_, rfl, .box rfl (.eq rfl)⟩, ⟨_, rfl, .val rfl⟩, ⟨_, rfl, .box rfl (.eq rfl)⟩, ⟨_, rfl, .val rfl⟩, trivial⟩ rfl)
      ·refine C.block (C.seq (U.start ?_))
       refine U.ps 1 T rfl ?_
       obtain ⟨x42, hx42, hm⟩ := hm
       refine U.r (o := _) rfl (.none rfl) rfl rfl (by exact Rd.io T rfl rfl rfl rfl rfl rfl rfl hx42) ?_
       refine U.r (o := _) rfl (.none rfl) rfl rfl (by exact Rd.le T rfl rfl rfl (idx_some hx42).2.2 rfl rfl rfl) ?_
       refine U.ps 1 T rfl ?_
       refine U.done (C.nx (C.seq (U.start ?_)))
       refine U.ps 1 T rfl ?_
       obtain ⟨hx43, hm⟩ := hm
       refine U.e1 (o := _) rfl (.none rfl) (by exact Eff1.sw T rfl rfl rfl rfl rfl rfl rfl rfl (.some _ rfl) (.none _) hx43) ?_
       refine U.e1 (o := _) rfl (.none rfl) (by exact Eff1.st T rfl rfl rfl rfl rfl rfl rfl rfl rfl rfl) ?_
       refine U.done (C.nx (C.seq (U.start ?_)))
       refine U.ps 1 T rfl ?_
       refine U.done (C.nx ?_)
       refine C.jn (fun (x44 : List Int × List Int × List Bool) => [(3, .fn (.func 17) [] []), (4, .p 0 0), (9, .p 1 0), (15, .p 3 0), (16, .fn (.func 61) [] [.p 5 0, .p 1 0, .p 3 0])]) (fun (x44 : List Int × List Int × List Bool) => [(0, .box (eApiFloor f)), (1, .box [.o 2]), (2, .val (.os 1 eI x44.1)), (3, .box [.o 4]), (4, .val (.os 1 eI x44.2.1)), (5, .box [.o 6]), (6, .val (.os 1 eB x44.2.2))]) 7 hm (fun x44 hm => ?_) (fun J45 hm hJ45 => ?_)
       ·refine C.bnx ?_
        exact St.wk (hJ41 _ hm) (Wk.mk' [some 0, some 1, some 2, some 3, some 4, some 5, some 6] rfl rfl (.eqs rfl) ⟨⟨_, rfl, .box rfl (.eq rfl)⟩, ⟨_, rfl, .box rfl (.eq rfl)⟩, ⟨_, rfl, .val rfl⟩, ⟨_, rfl, .box rfl (.eq rfl)⟩, ⟨_, rfl, .val rfl⟩, ⟨_, rfl, .box rfl (.eq rfl)⟩, ⟨_, rfl, .val rfl⟩, trivial⟩ rfl)
       ·refine C.block ?_
        refine St.wk (C.loop (fun (s46 : List Int × List Int × List Bool × Int) => [(3, .fn (.func 17) [] []), (4, .p 0 0), (9, .p 1 0), (15, .p 3 0), (16, .fn (.func 61) [] [.p 5 0, .p 1 0, .p 3 0]), (19, .i x42), (81, .i s46.2.2.2)]) (fun (s46 : List Int × List Int × List Bool × Int) => [(0, .box (eApiFloor f)), (1, .box [.o 2]), (2, .val (.os 1 eI s46.1)), (3, .box [.o 4]), (4, .val (.os 1 eI s46.2.1)), (5, .box [.o 6]), (6, .val (.os 1 eB s46.2.2.1))]) hm (fun s46 Y47 hm => ?_)) (Wk.mk' [some 0, some 1, some 2, some 3, some 7, some 5, some 6] rfl rfl (.eqs rfl) ⟨⟨_, rfl, .box rfl (.eq rfl)⟩, ⟨_, rfl, .box rfl (.eq rfl)⟩, ⟨_, rfl, .val rfl⟩, ⟨_, rfl, .box rfl (.eq rfl)⟩, ⟨_, rfl, .val rfl⟩, ⟨_, rfl, .box rfl (.eq rfl)⟩, ⟨_, rfl, .val rfl⟩, trivial⟩ rfl)
        refine C.seq (U.start ?_)
        refine U.ps 1 T rfl ?_
        refine U.done (C.nx (C.seq ?_))
        refine C.ite rfl hm (fun hb48 hm => ?_) (fun hb48 hm => ?_)
        ·refine C.skip (C.nx (C.seq (C.block (C.seq (U.start ?_)))))
         refine U.ps 2 T rfl ?_
         refine U.done (C.nx (C.seq (U.start ?_)))
         refine U.ps 4 T rfl ?_
         refine U.e (o := _) rfl (.none rfl) (by exact Eff.c [] (v := true) (T_floor_Next f x42 s46.2.2.2 _ hm) en17 rfl rfl rfl (.eq rfl) trivial rfl rfl rfl rfl rfl rfl (fun _ _ => ⟨(.tup (.cons (.v _) (.cons (.v _) .nil))), trivial⟩) (.inr ⟨rfl, rfl⟩) (fun _ => rfl) (fun _ => rfl) rfl) (fun x49' hm => ?_)
         obtain ⟨x49⟩ := x49'
         refine U.ps 5 T rfl ?_
         refine U.done (C.nx (C.seq (U.start ?_)))
         refine U.ps 1 T rfl ?_
         refine U.done (C.nx ?_)
         refine C.jn (fun (x50 : List Int × List Int × List Bool) => [(3, .fn (.func 17) [] []), (4, .p 0 0), (9, .p 1 0), (15, .p 3 0), (16, .fn (.func 61) [] [.p 5 0, .p 1 0, .p 3 0]), (19, .i x42), (81, .i s46.2.2.2)]) (fun (x50 : List Int × List Int × List Bool) => [(0, .box (eApiFloor f)), (1, .box [.o 2]), (2, .val (.os 1 eI x50.1)), (3, .box [.o 4]), (4, .val (.os 1 eI x50.2.1)), (5, .box [.o 6]), (6, .val (.os 1 eB x50.2.2))]) 7 hm (fun x50 hm => ?_) (fun J51 hm hJ51 => ?_)
         ·refine C.bnx (C.nx (U.start ?_))
          refine U.ps 2 T rfl ?_
          refine U.done (C.nx ?_)
          exact St.wk (C.next hm) (Wk.mk' [some 0, some 1, some 2, some 3, some 4, some 5, some 6] rfl rfl (.eqs rfl) ⟨⟨_, rfl, .box rfl (.eq rfl)⟩, ⟨_, rfl, .box rfl (.eq rfl)⟩, ⟨_, rfl, .val rfl⟩, ⟨_, rfl, .box rfl (.eq rfl)⟩, ⟨_, rfl, .val rfl⟩, ⟨_, rfl, .box rfl (.eq rfl)⟩, ⟨_, rfl, .val rfl⟩, trivial⟩ rfl)
         ·refine C.ite rfl hm (fun hb52 hm => ?_) (fun hb52 hm => ?_)
          ·refine U.start ?_
           refine U.ps 4 T rfl ?_
           obtain ⟨x53, hx53, hm⟩ := hm
           refine U.r (o := _) rfl (.none rfl) rfl rfl (by exact Rd.io T rfl rfl rfl rfl rfl rfl rfl hx53) ?_
           refine U.r (o := _) rfl (.none rfl) rfl rfl (by exact Rd.le T rfl rfl rfl (idx_some hx53).2.2 rfl rfl rfl) ?_
           refine U.ps 1 T rfl ?_
           refine U.e (o := _) rfl (.none rfl) (by exact Eff.c [some 5, some 6, some 1, some 2, some 3, some 4] (v := false) (T_floor_spread_1__p0_p2_p4 x49.1 (w64 (x53 + 1)) s46.2.2.1 s46.1 s46.2.1 _ hm) en61 rfl rfl rfl (.eq rfl) ⟨⟨_, rfl, .box rfl (.eq rfl)⟩, ⟨_, rfl, .val rfl⟩, ⟨_, rfl, .box rfl (.eq rfl)⟩, ⟨_, rfl, .val rfl⟩, ⟨_, rfl, .box rfl (.eq rfl)⟩, ⟨_, rfl, .val rfl⟩, trivial⟩ rfl rfl rfl rfl rfl rfl (fun h => by cases h) (.inl rfl) (fun _ => rfl) (fun _ => rfl) rfl) (fun x54' hm => ?_)
           obtain ⟨x54⟩ := x54'
           refine U.done ?_
           exact St.wk (hJ51 _ hm) (Wk.mk' [some 0, some 1, some 14, some 3, some 15, some 5, some 13] rfl rfl (.eqs rfl) ⟨⟨_, rfl, .box rfl (.eq rfl)⟩, ⟨_, rfl, .box rfl (.eq rfl)⟩, ⟨_, rfl, .val rfl⟩, ⟨_, rfl, .box rfl (.eq rfl)⟩, ⟨_, rfl, .val rfl⟩, ⟨_, rfl, .box rfl (.eq rfl)⟩, ⟨_, rfl, .val rfl⟩, trivial⟩ rfl)
          ·refine C.skip ?_
           exact St.wk (hJ51 _ hm) (Wk.mk' [some 0, some 1, some 2, some 3, some 4, some 5, some 6] rfl rfl (.eqs rfl) ⟨⟨_, rfl, .box rfl (.eq rfl)⟩, ⟨_, rfl, .box rfl (.eq rfl)⟩, ⟨_, rfl, .val rfl⟩, ⟨_, rfl, .box rfl (.eq rfl)⟩, ⟨_, rfl, .val rfl⟩, ⟨_, rfl, .box rfl (.eq rfl)⟩, ⟨_, rfl, .val rfl⟩, trivial⟩ rfl)
        ·refine C.exit (C.ex (C.ex (C.bex ?_)))
         exact St.wk (hJ45 _ hm) (Wk.mk' [some 0, some 1, some 2, some 3, some 4, some 5, some 6] rfl rfl (.eqs rfl) ⟨⟨_, rfl, .box rfl (.eq rfl)⟩, ⟨_, rfl, .box rfl (.eq rfl)⟩, ⟨_, rfl, .val rfl⟩, ⟨_, rfl, .box rfl (.eq rfl)⟩, ⟨_, rfl, .val rfl⟩, ⟨_, rfl, .box rfl (.eq rfl)⟩, ⟨_, rfl, .val rfl⟩, trivial⟩ rfl)
     ·refine C.exit (C.ex (C.ex (C.bex ?_)))
      exact St.wk (hJ36 _ hm) (Wk.mk' [some 1, some 2] rfl rfl (.eqs rfl) ⟨⟨_, rfl, .box rfl (.eq rfl)⟩, ⟨_, rfl, .val rfl⟩, trivial⟩ rfl)
   ·refine C.block ?_
    refine St.wk (C.loop (fun (s26 : List Int × List Int × List Bool × Int) => [(3, .fn (.func 17) [] []), (4, .p 0 0), (9, .p 1 0), (15, .p 3 0), (16, .fn (.func 61) [] [.p 5 0, .p 1 0, .p 3 0]), (60, .sl 1 eI from_1), (61, .i (from_1.length : Int)), (62, .i s26.2.2.2)]) (fun (s26 : List Int × List Int × List Bool × Int) => [(0, .box (eApiFloor f)), (1, .box [.o 2]), (2, .val (.os 1 eI s26.1)), (3, .box [.o 4]), (4, .val (.os 1 eI s26.2.1)), (5, .box [.o 6]), (6, .val (.os 1 eB s26.2.2.1))]) hm (fun s26 Y27 hm => ?_)) (Wk.mk' [some 0, some 1, some 2, some 5, none, some 3, some 4] rfl rfl (.eqs rfl) ⟨⟨_, rfl, .box rfl (.eq rfl)⟩, ⟨_, rfl, .box rfl (.eq rfl)⟩, ⟨_, rfl, .val rfl⟩, ⟨_, rfl, .box rfl (.cons (.nilO _ _ ⟨rfl, rfl⟩ rfl) .nil)⟩, ⟨_, rfl, .nil _ _⟩, ⟨_, rfl, .box rfl (.eq rfl)⟩, ⟨_, rfl, .val rfl⟩, trivial⟩ rfl)
    refine C.seq (U.start ?_)
    refine U.ps 1 T rfl ?_
    refine U.done (C.nx (C.seq ?_))
    refine C.ite rfl hm (fun hb28 hm => ?_) (fun hb28 hm => ?_)
    ·refine C.skip (C.nx (C.seq (C.block (C.seq (U.start ?_)))))
     obtain ⟨x29, hx29, hm⟩ := hm
     refine U.r (o := _) rfl (.none rfl) rfl rfl (by exact Rd.ix T rfl rfl rfl rfl rfl rfl hx29) ?_
     refine U.ps 2 T rfl ?_
     refine U.done (C.nx (C.seq (U.start ?_)))
     refine U.ps 2 T rfl ?_
     refine U.e (o := _) rfl (.none rfl) (by exact Eff.c [] (v := true) (T_floor_is f x29 _ hm) en60 rfl rfl rfl (.eq rfl) trivial rfl rfl rfl rfl rfl rfl (fun _ _ => ⟨(.v _), trivial⟩) (.inr ⟨rfl, rfl⟩) (fun _ => rfl) (fun _ => rfl) rfl) (fun x30' hm => ?_)
     obtain ⟨x30⟩ := x30'
     refine U.done (C.nx ?_)
     refine C.jn (fun (x31 : List Int × List Int × List Bool) => [(3, .fn (.func 17) [] []), (4, .p 0 0), (9, .p 1 0), (15, .p 3 0), (16, .fn (.func 61) [] [.p 5 0, .p 1 0, .p 3 0]), (60, .sl 1 eI from_1), (61, .i (from_1.length : Int)), (62, .i s26.2.2.2)]) (fun (x31 : List Int × List Int × List Bool) => [(0, .box (eApiFloor f)), (1, .box [.o 2]), (2, .val (.os 1 eI x31.1)), (3, .box [.o 4]), (4, .val (.os 1 eI x31.2.1)), (5, .box [.o 6]), (6, .val (.os 1 eB x31.2.2))]) 7 hm (fun x31 hm => ?_) (fun J32 hm hJ32 => ?_)
     ·refine C.bnx (C.nx (U.start ?_))
      refine U.ps 2 T rfl ?_
      refine U.done (C.nx ?_)
      exact St.wk (C.next hm) (Wk.mk' [some 0, some 1, some 2, some 3, some 4, some 5, some 6] rfl rfl (.eqs rfl) ⟨⟨_, rfl, .box rfl (.eq rfl)⟩, ⟨_, rfl, .box rfl (.eq rfl)⟩, ⟨_, rfl, .val rfl⟩, ⟨_, rfl, .box rfl (.eq rfl)⟩, ⟨_, rfl, .val rfl⟩, ⟨_, rfl, .box rfl (.eq rfl)⟩, ⟨_, rfl, .val rfl⟩, trivial⟩ rfl)
     ·refine C.ite rfl hm (fun hb33 hm => ?_) (fun hb33 hm => ?_)
      ·refine U.start ?_
       refine U.ps 2 T rfl ?_
       refine U.e (o := _) rfl (.none rfl) (by exact Eff.c [some 5, some 6, some 1, some 2, some 3, some 4] (v := false) (T_floor_spread_1__p0_p2_p4 x29 0 s26.2.2.1 s26.1 s26.2.1 _ hm) en61 rfl rfl rfl (.eq rfl) ⟨⟨_, rfl, .box rfl (.eq rfl)⟩, ⟨_, rfl, .val rfl⟩, ⟨_, rfl, .box rfl (.eq rfl)⟩, ⟨_, rfl, .val rfl⟩, ⟨_, rfl, .box rfl (.eq rfl)⟩, ⟨_, rfl, .val rfl⟩, trivial⟩ rfl rfl rfl rfl rfl rfl (fun h => by cases h) (.inl rfl) (fun _ => rfl) (fun _ => rfl) rfl) (fun x34' hm => ?_)
       obtain ⟨x34⟩ := x34'
       refine U.done ?_
       exact St.wk (hJ32 _ hm) (Wk.mk' [some 0, some 1, some 14, some 3, some 15, some 5, some 13] rfl rfl (.eqs rfl) ⟨⟨_, rfl, .box rfl (.eq rfl)⟩, ⟨_, rfl, .box rfl (.eq rfl)⟩, ⟨_, rfl, .val rfl⟩, ⟨_, rfl, .box rfl (.eq rfl)⟩, ⟨_, rfl, .val rfl⟩, ⟨_, rfl, .box rfl (.eq rfl)⟩, ⟨_, rfl, .val rfl⟩, trivial⟩ rfl)
      ·refine C.skip ?_
       exact St.wk (hJ32 _ hm) (Wk.mk' [some 0, some 1, some 2, some 3, some 4, some 5, some 6] rfl rfl (.eqs rfl) ⟨⟨_, rfl, .box rfl (.eq rfl)⟩, ⟨_, rfl, .box rfl (.eq rfl)⟩, ⟨_, rfl, .val rfl⟩, ⟨_, rfl, .box rfl (.eq rfl)⟩, ⟨_, rfl, .val rfl⟩, ⟨_, rfl, .box rfl (.eq rfl)⟩, ⟨_, rfl, .val rfl⟩, trivial⟩ rfl)
    ·refine C.exit (C.ex (C.ex (C.bex ?_)))
     exact St.wk (hJ25 _ hm) (Wk.mk' [some 0, some 1, some 2, some 3, some 4, some 5, some 6] rfl rfl (.eqs rfl) ⟨⟨_, rfl, .box rfl (.eq rfl)⟩, ⟨_, rfl, .box rfl (.eq rfl)⟩, ⟨_, rfl, .val rfl⟩, ⟨_, rfl, .box rfl (.eq rfl)⟩, ⟨_, rfl, .val rfl⟩, ⟨_, rfl, .box rfl (.eq rfl)⟩, ⟨_, rfl, .val rfl⟩, trivial⟩ rfl)
  ·refine C.block ?_
   refine St.wk (C.loop (fun (s15 : List Bool × Int) => [(1, .sl 1 eI from_1), (3, .fn (.func 17) [] []), (4, .p 0 0), (9, .p 1 0), (10, .p 3 0), (46, .sl 1 eI avoid), (47, .i (avoid.length : Int)), (48, .i s15.2)]) (fun (s15 : List Bool × Int) => [(0, .box (eApiFloor f)), (1, .box [.o 2]), (2, .val (.os 1 eI x5.1)), (3, .box [.o 4]), (4, .val (.os 1 eB s15.1))]) hm (fun s15 Y16 hm => ?_)) (Wk.mk' [some 0, some 1, some 2, some 3, some 4] rfl rfl (.eqs rfl) ⟨⟨_, rfl, .box rfl (.eq rfl)⟩, ⟨_, rfl, .box rfl (.eq rfl)⟩, ⟨_, rfl, .val rfl⟩, ⟨_, rfl, .box rfl (.eq rfl)⟩, ⟨_, rfl, .val rfl⟩, trivial⟩ rfl)
   refine C.seq (U.start ?_)
   refine U.ps 1 T rfl ?_
   refine U.done (C.nx (C.seq ?_))
   refine C.ite rfl hm (fun hb17 hm => ?_) (fun hb17 hm => ?_)
   ·refine C.skip (C.nx (C.seq (C.block (C.seq (U.start ?_)))))
    obtain ⟨x18, hx18, hm⟩ := hm
    refine U.r (o := _) rfl (.none rfl) rfl rfl (by exact Rd.ix T rfl rfl rfl rfl rfl rfl hx18) ?_
    refine U.ps 2 T rfl ?_
    refine U.done (C.nx (C.seq (U.start ?_)))
    refine U.ps 2 T rfl ?_
    refine U.e (o := _) rfl (.none rfl) (by exact Eff.c [] (v := true) (T_floor_is f x18 _ hm) en60 rfl rfl rfl (.eq rfl) trivial rfl rfl rfl rfl rfl rfl (fun _ _ => ⟨(.v _), trivial⟩) (.inr ⟨rfl, rfl⟩) (fun _ => rfl) (fun _ => rfl) rfl) (fun x19' hm => ?_)
    obtain ⟨x19⟩ := x19'
    refine U.done (C.nx ?_)
    refine C.jn (fun (x20 : List Bool) => [(1, .sl 1 eI from_1), (3, .fn (.func 17) [] []), (4, .p 0 0), (9, .p 1 0), (10, .p 3 0), (46, .sl 1 eI avoid), (47, .i (avoid.length : Int)), (48, .i s15.2)]) (fun (x20 : List Bool) => [(0, .box (eApiFloor f)), (1, .box [.o 2]), (2, .val (.os 1 eI x5.1)), (3, .box [.o 4]), (4, .val (.os 1 eB x20))]) 5 hm (fun x20 hm => ?_) (fun J21 hm hJ21 => ?_)
    ·refine C.bnx (C.nx (U.start ?_))
     refine U.ps 2 T rfl ?_
     refine U.done (C.nx ?_)
     exact St.wk (C.next hm) (Wk.mk' [some 0, some 1, some 2, some 3, some 4] rfl rfl (.eqs rfl) ⟨⟨_, rfl, .box rfl (.eq rfl)⟩, ⟨_, rfl, .box rfl (.eq rfl)⟩, ⟨_, rfl, .val rfl⟩, ⟨_, rfl, .box rfl (.eq rfl)⟩, ⟨_, rfl, .val rfl⟩, trivial⟩ rfl)
    ·refine C.ite rfl hm (fun hb22 hm => ?_) (fun hb22 hm => ?_)
     ·refine U.start ?_
      refine U.ps 2 T rfl ?_
      obtain ⟨x23, hx23, hm⟩ := hm
      refine U.r (o := _) rfl (.none rfl) rfl rfl (by exact Rd.io T rfl rfl rfl rfl rfl rfl rfl hx23) ?_
      refine U.e1 (o := _) rfl (.none rfl) (by exact Eff1.se T (z' := false) rfl rfl rfl (idx_some hx23).2.2 rfl rfl rfl rfl rfl rfl rfl rfl (fun _ => rfl) rfl) ?_
      refine U.done ?_
      exact St.wk (hJ21 _ hm) (Wk.mk' [some 0, some 1, some 2, some 3, some 4] rfl rfl (.eqs rfl) ⟨⟨_, rfl, .box rfl (.eq rfl)⟩, ⟨_, rfl, .box rfl (.eq rfl)⟩, ⟨_, rfl, .val rfl⟩, ⟨_, rfl, .box rfl (.eq rfl)⟩, ⟨_, rfl, .val rfl⟩, trivial⟩ rfl)
     ·refine C.skip ?_
      exact St.wk (hJ21 _ hm) (Wk.mk' [some 0, some 1, some 2, some 3, some 4] rfl rfl (.eqs rfl) ⟨⟨_, rfl, .box rfl (.eq rfl)⟩, ⟨_, rfl, .box rfl (.eq rfl)⟩, ⟨_, rfl, .val rfl⟩, ⟨_, rfl, .box rfl (.eq rfl)⟩, ⟨_, rfl, .val rfl⟩, trivial⟩ rfl)
   ·refine C.exit (C.ex (C.ex (C.bex ?_)))
    exact St.wk (hJ14 _ hm) (Wk.mk' [some 0, some 1, some 2, some 3, some 4] rfl rfl (.eqs rfl) ⟨⟨_, rfl, .box rfl (.eq rfl)⟩, ⟨_, rfl, .box rfl (.eq rfl)⟩, ⟨_, rfl, .val rfl⟩, ⟨_, rfl, .box rfl (.eq rfl)⟩, ⟨_, rfl, .val rfl⟩, trivial⟩ rfl)
 ·refine C.block ?_
  refine St.wk (C.loop (fun (s7 : List Int × List Bool × Int) => [(1, .sl 1 eI from_1), (2, .sl 1 eI avoid), (3, .fn (.func 17) [] []), (4, .p 0 0), (9, .p 1 0), (10, .p 3 0), (30, .sl 1 eI f.Kind), (31, .i (f.Kind.length : Int)), (32, .i s7.2.2)]) (fun (s7 : List Int × List Bool × Int) => [(0, .box (eApiFloor f)), (1, .box [.o 2]), (2, .val (.os 1 eI s7.1)), (3, .box [.o 4]), (4, .val (.os 1 eB s7.2.1))]) hm (fun s7 Y8 hm => ?_)) (Wk.mk' [some 0, some 2, some 1, some 4, some 3] rfl rfl (.eqs rfl) ⟨⟨_, rfl, .box rfl (.eq rfl)⟩, ⟨_, rfl, .box rfl (.eq rfl)⟩, ⟨_, rfl, .val rfl⟩, ⟨_, rfl, .box rfl (.eq rfl)⟩, ⟨_, rfl, .val rfl⟩, trivial⟩ rfl)
  refine C.seq (U.start ?_)
  refine U.ps 1 T rfl ?_
  refine U.done (C.nx (C.seq ?_))
  refine C.ite rfl hm (fun hb9 hm => ?_) (fun hb9 hm => ?_)
  ·refine C.skip (C.nx (C.seq (C.block (C.seq (U.start ?_)))))
   refine U.ps 1 T rfl ?_
   obtain ⟨x10, hx10, hm⟩ := hm
   refine U.r (o := _) rfl (.none rfl) rfl rfl (by exact Rd.ix T rfl rfl rfl rfl rfl rfl hx10) ?_
   refine U.ps 3 T rfl ?_
   refine U.done (C.nx ?_)
   refine D.beg 9 [1, 3] [2] mix rfl rfl (by kernel_rfl) (by repeat (first | exact NoPanicQ.body | refine NoPanicQ.th ?_ | refine NoPanicQ.blk ?_)) (fun hQ hS ws M' => ?_)
   refine D.ps 6 [(0, []), (1, []), (2, []), (3, []), (4, []), (5, [])] rfl hQ hS T rfl rfl (by kernel_rfl) ?_
   obtain ⟨x11, hx11, hm⟩ := hm
   refine D.q (o := _) 6 [] hQ hS rfl (.none rfl) rfl rfl (by exact Rd.io T rfl rfl rfl rfl rfl rfl rfl hx11) rfl (by kernel_rfl) ?_
   refine D.e1 (o := _) 7 rfl (.none rfl) (by exact Eff1.se T (z' := (-1)) rfl rfl rfl (idx_some hx11).2.2 rfl rfl rfl rfl rfl rfl rfl rfl (fun _ => rfl) rfl) (by kernel_rfl) rfl rfl ?_
   obtain ⟨x12, hx12, hm⟩ := hm
   refine D.q (o := _) 8 [] hQ hS rfl (.none rfl) rfl rfl (by exact Rd.io T rfl rfl rfl rfl rfl rfl rfl hx12) rfl (by kernel_rfl) ?_
   refine D.ze1 (o := _) rfl (.none rfl) (by exact Eff1.se T (z' := (x10 != 0)) rfl rfl rfl (idx_some hx12).2.2 rfl rfl rfl rfl rfl rfl rfl rfl (fun _ => rfl) rfl) (by kernel_rfl) (by kernel_rfl) ?_
   refine C.bnx (C.nx (U.start ?_))
   refine U.ps 2 T rfl ?_
   refine U.done (C.nx ?_)
   exact St.wk (C.next hm) (Wk.mk' [some 0, some 1, some 2, some 3, some 4] rfl rfl (.eqs rfl) ⟨⟨_, rfl, .box rfl (.eq rfl)⟩, ⟨_, rfl, .box rfl (.eq rfl)⟩, ⟨_, rfl, .val rfl⟩, ⟨_, rfl, .box rfl (.eq rfl)⟩, ⟨_, rfl, .val rfl⟩, trivial⟩ rfl)
  ·refine C.exit (C.ex (C.ex (C.bex ?_)))
   exact St.wk (hJ6 _ hm) (Wk.mk' [some 0, some 1, some 2, some 3, some 4] rfl rfl (.eqs rfl) ⟨⟨_, rfl, .box rfl (.eq rfl)⟩, ⟨_, rfl, .box rfl (.eq rfl)⟩, ⟨_, rfl, .val rfl⟩, ⟨_, rfl, .box rfl (.eq rfl)⟩, ⟨_, rfl, .val rfl⟩, trivial⟩ rfl)
theorem T_floor_Dist (f : ApiFloor) (from_1 : List Int) (avoid : List Int) (post : (List Int) → Prop) (hm : V_floor_Dist f from_1 avoid post) :
    Tr Try.prog 16 [.agg (eApiFloor f), .sl 1 eI from_1, .sl 1 eI avoid] [] 0 (fun A H' k => ∃ y, post y ∧ A = (.o 0) ∧ H' = [(0, .val (.os 1 eI y))] ∧ k = 1) := by
 refine Tr.intro (n := 11) Try.func16 rfl Try.ntmps16 rfl (fun w0 ok F β hβ => ?_)
 unfold V_floor_Dist at hm
 refine C.seq (U.start ?_)
 refine U.e1 (o := _) rfl (.none rfl) (by exact Eff1.box rfl rfl rfl rfl rfl) ?_
 refine U.ps 1 T rfl ?_
 refine U.done (C.nx (C.seq (U.start ?_)))
 refine U.ps 3 T rfl ?_
 refine U.e (o := _) rfl (.none rfl) (by exact Eff.c [] (v := true) (T_floor_spread__floor_Next f from_1 avoid _ hm) en36 rfl rfl rfl (.eq rfl) trivial rfl rfl rfl rfl rfl rfl (fun _ _ => ⟨(.o _), ⟨.val (.os _ _ _ fun _ => (.cons (.v _) .nil)), trivial⟩⟩) (.inr ⟨rfl, rfl⟩) (fun _ => rfl) (fun _ => rfl) rfl) (fun x1' hm => ?_)
 obtain ⟨x1⟩ := x1'
 refine U.ps 1 T rfl ?_
 refine U.done (C.nx (C.ret ?_))
 exact C.fin T (rs' := [.o 0]) (H' := [(0, .val (.os 1 eI x1))]) (nl' := 1) [some 1] rfl rfl (.eq rfl) ⟨⟨_, rfl, .val rfl⟩, trivial⟩ rfl rfl rfl rfl hβ ⟨x1, hm, rfl, rfl, rfl⟩
theorem T_route_Cells (s_1 : ApiSite) (from_1 : Int) (acts : List Int) (post : (List Int) → Prop) (hm : V_route_Cells s_1 from_1 acts post) :
    Tr Try.prog 14 [.agg (eApiSite s_1), .i from_1, .sl 1 eI acts] [] 0 (fun A H' k => ∃ y, post y ∧ A = (.o 0) ∧ H' = [(0, .val (.os 1 eI y))] ∧ k = 1) := by
 refine Tr.intro (n := 47) Try.func14 rfl Try.ntmps14 rfl (fun w0 ok F β hβ => ?_)
 unfold V_route_Cells at hm
 refine C.seq (U.start ?_)
 refine U.e1 (o := _) rfl (.none rfl) (by exact Eff1.box rfl rfl rfl rfl rfl) ?_
 refine U.ps 1 T rfl ?_
 refine U.done (C.nx (C.seq (C.seq ?_)))
 refine C.jn (fun (x1 : Bool) => [(1, .i from_1), (2, .sl 1 eI acts), (3, .p 0 0), (21, .b x1)]) (fun (x1 : Bool) => [(0, .box (eApiSite s_1))]) 1 hm (fun x1 hm => ?_) (fun J2 hm hJ2 => ?_)
 ·refine C.nx ?_
  refine C.ite rfl hm (fun hb4 hm => ?_) (fun hb4 hm => ?_)
  ·refine C.seq (U.start ?_)
   refine U.ps 1 T rfl ?_
   refine U.done (C.nx (C.ret (C.rt ?_)))
   exact C.fin T (rs' := [.o 0]) (H' := [(0, .val (.os 1 eI []))]) (nl' := 1) [none] rfl rfl (.cons (.nilO _ _ ⟨rfl, rfl⟩ rfl) .nil) ⟨⟨_, rfl, .nil _ _⟩, trivial⟩ rfl rfl rfl rfl hβ ⟨[], hm, rfl, rfl, rfl⟩
  ·refine C.skip (C.nx (C.seq (U.start ?_)))
   refine U.ps 1 T rfl ?_
   refine U.e1 (o := _) rfl (.none rfl) (by exact Eff1.bs T (enc := eI) (xs := ([from_1] : List Int)) rfl rfl rfl rfl rfl rfl rfl rfl rfl rfl (fun _ _ => rfl) rfl rfl) ?_
   refine U.ps 1 T rfl ?_
   refine U.done (C.nx (C.seq (C.seq (U.start ?_))))
   refine U.ps 3 T rfl ?_
   refine U.done (C.nx ?_)
   refine C.jn (fun (x5 : List Int) => [(7, .o 0)]) (fun (x5 : List Int) => [(0, .val (.os 1 eI x5))]) 1 hm (fun x5 hm => ?_) (fun J6 hm hJ6 => ?_)
   ·refine C.nx (C.seq (U.start ?_))
    refine U.ps 2 T rfl ?_
    refine U.done (C.nx (C.ret ?_))
    exact C.fin T (rs' := [.o 0]) (H' := [(0, .val (.os 1 eI x5))]) (nl' := 1) [some 0] rfl rfl (.eq rfl) ⟨⟨_, rfl, .val rfl⟩, trivial⟩ rfl rfl rfl rfl hβ ⟨x5, hm, rfl, rfl, rfl⟩
   ·refine C.block ?_
    refine St.wk (C.loop (fun (s7 : Int × List Int × Int) => [(1, .i s7.1), (3, .p 0 0), (7, .o 1), (24, .sl 1 eI acts), (25, .i (acts.length : Int)), (26, .i s7.2.2)]) (fun (s7 : Int × List Int × Int) => [(0, .box (eApiSite s_1)), (1, .val (.os 1 eI s7.2.1))]) hm (fun s7 Y8 hm => ?_)) (Wk.mk' [some 0, some 1] rfl rfl (.eqs rfl) ⟨⟨_, rfl, .box rfl (.eq rfl)⟩, ⟨_, rfl, .val rfl⟩, trivial⟩ rfl)
    refine C.seq (U.start ?_)
    refine U.ps 1 T rfl ?_
    refine U.done (C.nx (C.seq ?_))
    refine C.ite rfl hm (fun hb9 hm => ?_) (fun hb9 hm => ?_)
    ·refine C.skip (C.nx (C.seq (C.block (C.seq (U.start ?_)))))
     obtain ⟨x10, hx10, hm⟩ := hm
     refine U.r (o := _) rfl (.none rfl) rfl rfl (by exact Rd.ix T rfl rfl rfl rfl rfl rfl hx10) ?_
     refine U.ps 2 T rfl ?_
     refine U.done (C.nx (C.seq (C.seq (U.start ?_))))
     refine U.ps 5 T rfl ?_
     refine U.e (o := _) rfl (.none rfl) (by exact Eff.c [] (v := true) (T_floor_Next s_1.Floor s7.1 (w64 (x10 - 1)) _ hm) en17 rfl rfl rfl (.eq rfl) trivial rfl rfl rfl rfl rfl rfl (fun _ _ => ⟨(.tup (.cons (.v _) (.cons (.v _) .nil))), trivial⟩) (.inr ⟨rfl, rfl⟩) (fun _ => rfl) (fun _ => rfl) rfl) (fun x11' hm => ?_)
     obtain ⟨x11⟩ := x11'
     refine U.ps 5 T rfl ?_
     refine U.done (C.nx (C.seq (U.start ?_)))
     refine U.ps 1 T rfl ?_
     refine U.done (C.nx ?_)
     refine C.jn (fun (x12 : Int) => [(1, .i x12), (3, .p 0 0), (7, .o 1), (24, .sl 1 eI acts), (25, .i (acts.length : Int)), (26, .i s7.2.2)]) (fun (x12 : Int) => [(0, .box (eApiSite s_1)), (1, .val (.os 1 eI s7.2.1))]) 2 hm (fun x12 hm => ?_) (fun J13 hm hJ13 => ?_)
     ·refine C.nx (U.start ?_)
      refine U.ps 2 T rfl ?_
      refine U.e1 (o := _) rfl (.none rfl) (by exact Eff1.bs T (enc := eI) (xs := ([x12] : List Int)) rfl rfl rfl rfl rfl rfl rfl rfl rfl rfl (fun _ _ => rfl) rfl rfl) ?_
      obtain ⟨hx15, hm⟩ := hm
      refine U.e1 (o := _) rfl (.none rfl) (by exact Eff1.ap T rfl rfl rfl rfl rfl rfl (.inr ⟨_, rfl, rfl⟩) rfl rfl rfl (fun _ => rfl) rfl hx15) ?_
      refine U.ps 1 T rfl ?_
      refine U.done (C.bnx (C.nx (U.start ?_)))
      refine U.ps 2 T rfl ?_
      refine U.done (C.nx ?_)
      exact St.wk (C.next hm) (Wk.mk' [some 0, some 3] rfl rfl (.eqs rfl) ⟨⟨_, rfl, .box rfl (.eq rfl)⟩, ⟨_, rfl, .val rfl⟩, trivial⟩ rfl)
     ·refine C.ite rfl hm (fun hb14 hm => ?_) (fun hb14 hm => ?_)
      ·refine U.start ?_
       refine U.ps 2 T rfl ?_
       refine U.done ?_
       exact St.wk (hJ13 _ hm) (Wk.mk' [some 0, some 1] rfl rfl (.eqs rfl) ⟨⟨_, rfl, .box rfl (.eq rfl)⟩, ⟨_, rfl, .val rfl⟩, trivial⟩ rfl)
      ·refine C.skip ?_
       exact St.wk (hJ13 _ hm) (Wk.mk' [some 0, some 1] rfl rfl (.eqs rfl) ⟨⟨_, rfl, .box rfl (.eq rfl)⟩, ⟨_, rfl, .val rfl⟩, trivial⟩ rfl)
    ·refine C.exit (C.ex (C.ex (C.bex ?_)))
     exact St.wk (hJ6 _ hm) (Wk.mk' [some 1] rfl rfl (.eqs rfl) ⟨⟨_, rfl, .val rfl⟩, trivial⟩ rfl)
 ·refine U.start ?_
  refine U.ps 3 T rfl ?_
  refine hm.cs (fun hb3 hm => ?_) (fun hb3 hm => ?_)
  ·refine U.sks 6 2 false 14 hb3 rfl rfl rfl ?_
   refine U.r (o := _) rfl (.none rfl) rfl rfl (by exact Rd.pk rfl rfl hb3 rfl) ?_
   refine U.done ?_
   exact St.wk (hJ2 _ hm) (Wk.mk' [some 0] rfl rfl (.eqs rfl) ⟨⟨_, rfl, .box rfl (.eq rfl)⟩, trivial⟩ rfl)
  ·refine U.pg 6 2 false 14 hb3 T rfl rfl rfl rfl ?_
   refine U.r (o := _) rfl (.none rfl) rfl rfl (by exact Rd.pk' rfl rfl hb3 rfl) ?_
   refine U.done ?_
   exact St.wk (hJ2 _ hm) (Wk.mk' [some 0] rfl rfl (.eqs rfl) ⟨⟨_, rfl, .box rfl (.eq rfl)⟩, trivial⟩ rfl)
theorem T_taquinlaw23_RoutePlain (s_1 : ApiSite) (from_1 : Int) (to_1 : Int) (tick : Int) (avoid : List Int) (post : Bool → Prop) (hm : V_taquinlaw23_RoutePlain s_1 from_1 to_1 tick avoid post) :
    Tr Try.prog 6 [.agg (eApiSite s_1), .i from_1, .i to_1, .i tick, .sl 1 eI avoid] [] 0 (fun A H' k => ∃ y, post y ∧ A = (.b y) ∧ H' = [] ∧ k = 0) := by
 refine Tr.intro (n := 175) Try.func6 rfl Try.ntmps6 rfl (fun w0 ok F β hβ => ?_)
 unfold V_taquinlaw23_RoutePlain at hm
 refine C.seq (U.start ?_)
 refine U.e1 (o := _) rfl (.none rfl) (by exact Eff1.box rfl rfl rfl rfl rfl) ?_
 refine U.ps 1 T rfl ?_
 refine U.done (C.nx (C.seq (U.start ?_)))
 refine U.e (o := _) rfl (.none rfl) (by exact Eff.c [] (v := true) (T_taquinlaw23_small _ hm) en7 rfl rfl rfl (.eq rfl) trivial rfl rfl rfl rfl rfl rfl (fun _ _ => ⟨(.v _), trivial⟩) (.inr ⟨rfl, rfl⟩) (fun _ => rfl) (fun _ => rfl) rfl) (fun x1' hm => ?_)
 obtain ⟨x1⟩ := x1'
 refine U.ps 1 T rfl ?_
 refine U.done (C.nx (C.seq (U.start ?_)))
 refine U.ps 1 T rfl ?_
 refine U.e1 (o := _) rfl (.none rfl) (by exact Eff1.st T rfl rfl rfl rfl rfl rfl rfl rfl rfl rfl) ?_
 refine U.done (C.nx (C.seq (C.seq (U.start ?_))))
 refine U.ps 2 T rfl ?_
 refine U.e (o := _) rfl (.none rfl) (by exact Eff.c [] (v := true) (T_taquinlaw23_fair ({ Floor := s_1.Floor, Zones := [], Aparts := s_1.Aparts, Shelves := s_1.Shelves, Robots := s_1.Robots : ApiSite }) [] avoid _ hm) en8 rfl rfl rfl (.cons (.agg (.cons (.eq rfl) (.cons (.eq rfl) (.cons (.eq rfl) (.cons (.eq rfl) (.cons (.eq rfl) (.cons (.nil _ _ _ _ ⟨rfl, rfl⟩) (.eq rfl)))))))) (.cons (.nil _ _ _ _ ⟨rfl, rfl⟩) (.eq rfl))) trivial rfl rfl rfl rfl rfl rfl (fun _ _ => ⟨(.v _), trivial⟩) (.inr ⟨rfl, rfl⟩) (fun _ => rfl) (fun _ => rfl) rfl) (fun x2' hm => ?_)
 obtain ⟨x2⟩ := x2'
 refine U.ps 1 T rfl ?_
 refine U.done (C.nx ?_)
 refine C.ite rfl hm (fun hb3 hm => ?_) (fun hb3 hm => ?_)
 ·refine C.seq (U.start ?_)
  refine U.ps 2 T rfl ?_
  refine U.done (C.nx (C.ret (C.rt ?_)))
  exact C.fin T (rs' := [.b x1]) (H' := []) (nl' := 0) [] rfl rfl (.eq rfl) trivial rfl rfl rfl rfl hβ ⟨x1, hm, rfl, rfl, rfl⟩
 ·refine C.skip (C.nx (C.seq (U.start ?_)))
  refine U.ps 5 T rfl ?_
  refine U.e (o := _) rfl (.none rfl) (by exact Eff.c [] (v := true) (T_route_Find ({ Floor := s_1.Floor, Zones := [], Aparts := s_1.Aparts, Shelves := s_1.Shelves, Robots := s_1.Robots : ApiSite }) from_1 to_1 tick [] avoid 60 _ hm) en9 rfl rfl rfl (.cons (.agg (.cons (.eq rfl) (.cons (.eq rfl) (.cons (.eq rfl) (.cons (.eq rfl) (.cons (.eq rfl) (.cons (.nil _ _ _ _ ⟨rfl, rfl⟩) (.eq rfl)))))))) (.cons (.eq rfl) (.cons (.eq rfl) (.cons (.eq rfl) (.cons (.nil _ _ _ _ ⟨rfl, rfl⟩) (.eq rfl)))))) trivial rfl rfl rfl rfl rfl rfl (fun _ _ => ⟨(.tup (.cons (.o _) (.cons (.v _) .nil))), ⟨.val (.os _ _ _ fun _ => (.cons (.v _) .nil)), trivial⟩⟩) (.inr ⟨rfl, rfl⟩) (fun _ => rfl) (fun _ => rfl) rfl) (fun x4' hm => ?_)
  obtain ⟨x4⟩ := x4'
  refine U.ps 5 T rfl ?_
  refine U.done (C.nx (C.seq (C.seq (U.start ?_))))
  refine U.ps 2 T rfl ?_
  refine U.done (C.nx ?_)
  refine C.ite rfl hm (fun hb5 hm => ?_) (fun hb5 hm => ?_)
  ·refine C.seq (U.start ?_)
   refine U.ps 2 T rfl ?_
   refine U.done (C.nx (C.ret (C.rt ?_)))
   exact C.fin T (rs' := [.b x1]) (H' := []) (nl' := 0) [] rfl rfl (.eq rfl) trivial rfl rfl rfl rfl hβ ⟨x1, hm, rfl, rfl, rfl⟩
  ·refine C.skip (C.nx (C.seq (C.seq ?_)))
   refine C.jn (fun (x6 : Bool) => [(1, .i from_1), (2, .i to_1), (4, .sl 1 eI avoid), (5, .p 0 0), (11, .b x1), (12, .o 1), (13, .i x4.2), (61, .b x6)]) (fun (x6 : Bool) => [(0, .box [.i s_1.Floor.W, .i s_1.Floor.H, .i s_1.Floor.D, .sl 1 eI s_1.Floor.Kind, .sl 1 eI s_1.Floor.Out, .v (.slice none 0 0), .sl 2 eApiApart s_1.Aparts, .sl 2 eApiShelf s_1.Shelves, .sl 2 eApiStart s_1.Robots]), (1, .val (.os 1 eI x4.1))]) 2 hm (fun x6 hm => ?_) (fun J7 hm hJ7 => ?_)
   ·refine C.nx ?_
    refine C.ite rfl hm (fun hb11 hm => ?_) (fun hb11 hm => ?_)
    ·refine C.seq (U.start ?_)
     refine U.ps 1 T rfl ?_
     refine U.done (C.nx (C.ret (C.rt ?_)))
     exact C.fin T (rs' := [.b false]) (H' := []) (nl' := 0) [] rfl rfl (.eq rfl) trivial rfl rfl rfl rfl hβ ⟨false, hm, rfl, rfl, rfl⟩
    ·refine C.skip (C.nx (C.seq (U.start ?_)))
     refine U.e1 (o := _) rfl (.none rfl) (by exact Eff1.bs T (enc := eI) (xs := ([] : List Int)) rfl rfl rfl rfl rfl rfl rfl rfl rfl rfl (fun _ _ => rfl) rfl rfl) ?_
     refine U.ps 1 T rfl ?_
     obtain ⟨hx12, hm⟩ := hm
     refine U.e1 (o := _) rfl (.none rfl) (by exact Eff1.ap T rfl rfl rfl rfl rfl rfl (.inl rfl) rfl rfl rfl (fun _ => rfl) rfl hx12) ?_
     refine U.ps 1 T rfl ?_
     refine U.done (C.nx (C.seq (C.seq (U.start ?_))))
     refine U.ps 1 T rfl ?_
     refine U.done (C.nx ?_)
     refine C.jn (fun (x13 : List Int) => [(1, .i from_1), (2, .i to_1), (5, .p 0 0), (11, .b x1), (12, .o 1), (13, .i x4.2), (14, .o 2)]) (fun (x13 : List Int) => [(0, .box [.i s_1.Floor.W, .i s_1.Floor.H, .i s_1.Floor.D, .sl 1 eI s_1.Floor.Kind, .sl 1 eI s_1.Floor.Out, .v (.slice none 0 0), .sl 2 eApiApart s_1.Aparts, .sl 2 eApiShelf s_1.Shelves, .sl 2 eApiStart s_1.Robots]), (1, .val (.os 1 eI x4.1)), (2, .val (.os 1 eI x13))]) 3 hm (fun x13 hm => ?_) (fun J14 hm hJ14 => ?_)
     ·refine C.nx (C.seq (U.start ?_))
      refine U.ps 3 T rfl ?_
      refine U.e1 (o := _) rfl (.none rfl) (by exact Eff1.bs T (enc := eI) (xs := ([from_1] : List Int)) rfl rfl rfl rfl rfl rfl rfl rfl rfl rfl (fun _ _ => rfl) rfl rfl) ?_
      refine U.ps 1 T rfl ?_
      refine U.e (o := _) rfl (.none rfl) (by exact Eff.c [] (v := true) (T_floor_Dist s_1.Floor ([from_1] : List Int) x13 _ hm) en16 rfl rfl rfl (.cons (.eq rfl) (.cons (.fz rfl rfl rfl (.os fun _ => .cons (.ro rfl) .nil)) (.cons (.fz rfl rfl rfl (.os fun _ => .cons (.ro rfl) .nil)) .nil))) trivial rfl rfl rfl rfl rfl rfl (fun _ _ => ⟨(.o _), ⟨.val (.os _ _ _ fun _ => (.cons (.v _) .nil)), trivial⟩⟩) (.inr ⟨rfl, rfl⟩) (fun _ => rfl) (fun _ => rfl) rfl) (fun x22' hm => ?_)
      obtain ⟨x22⟩ := x22'
      refine U.ps 1 T rfl ?_
      refine U.done (C.nx (C.seq (C.seq (U.start ?_))))
      refine U.ps 7 T rfl ?_
      refine U.done (C.nx ?_)
      refine C.ite rfl hm (fun hb23 hm => ?_) (fun hb23 hm => ?_)
      ·refine C.seq (U.start ?_)
       refine U.ps 1 T rfl ?_
       refine U.done (C.nx (C.ret (C.rt ?_)))
       exact C.fin T (rs' := [.b false]) (H' := []) (nl' := 0) [] rfl rfl (.eq rfl) trivial rfl rfl rfl rfl hβ ⟨false, hm, rfl, rfl, rfl⟩
      ·refine C.skip (C.nx (C.seq (C.seq (U.start ?_))))
       refine U.ps 2 T rfl ?_
       obtain ⟨x24, hx24, hm⟩ := hm
       refine U.r (o := _) rfl (.none rfl) rfl rfl (by exact Rd.io T rfl rfl rfl rfl rfl rfl rfl hx24) ?_
       refine U.r (o := _) rfl (.none rfl) rfl rfl (by exact Rd.le T rfl rfl rfl (idx_some hx24).2.2 rfl rfl rfl) ?_
       refine U.ps 1 T rfl ?_
       refine U.done (C.nx ?_)
       refine C.ite rfl hm (fun hb25 hm => ?_) (fun hb25 hm => ?_)
       ·refine C.seq ?_
        refine C.jn (fun (x26 : Bool) => [(10, .b x26)]) (fun (x26 : Bool) => []) 0 hm (fun x26 hm => ?_) (fun J27 hm hJ27 => ?_)
        ·refine C.nx (C.ret (C.rt ?_))
         exact C.fin T (rs' := [.b x26]) (H' := []) (nl' := 0) [] rfl rfl (.eq rfl) trivial rfl rfl rfl rfl hβ ⟨x26, hm, rfl, rfl, rfl⟩
        ·refine U.start ?_
         refine U.ps 2 T rfl ?_
         refine hm.cs (fun hb28 hm => ?_) (fun hb28 hm => ?_)
         ·refine U.pg 2 1 true 99 hb28 T rfl rfl rfl rfl ?_
          refine U.r (o := _) rfl (.none rfl) rfl rfl (by exact Rd.pk rfl rfl hb28 rfl) ?_
          refine U.ps 1 T rfl ?_
          refine U.done ?_
          exact St.wk (hJ27 _ hm) (Wk.mk' [] rfl rfl (.eqs rfl) trivial rfl)
         ·refine U.sks 2 1 true 99 hb28 rfl rfl rfl ?_
          refine U.r (o := _) rfl (.none rfl) rfl rfl (by exact Rd.pk' rfl rfl hb28 rfl) ?_
          refine U.ps 1 T rfl ?_
          refine U.done ?_
          exact St.wk (hJ27 _ hm) (Wk.mk' [] rfl rfl (.eqs rfl) trivial rfl)
       ·refine C.skip (C.nx (C.seq (U.start ?_)))
        refine U.ps 3 T rfl ?_
        refine U.e (o := _) rfl (.none rfl) (by exact Eff.c [] (v := true) (T_route_Cells ({ Floor := s_1.Floor, Zones := [], Aparts := s_1.Aparts, Shelves := s_1.Shelves, Robots := s_1.Robots : ApiSite }) from_1 x4.1 _ hm) en14 rfl rfl rfl (.cons (.agg (.cons (.eq rfl) (.cons (.eq rfl) (.cons (.eq rfl) (.cons (.eq rfl) (.cons (.eq rfl) (.cons (.nil _ _ _ _ ⟨rfl, rfl⟩) (.eq rfl)))))))) (.cons (.eq rfl) (.cons (.fz rfl rfl rfl (.os fun _ => .cons (.ro rfl) .nil)) .nil))) trivial rfl rfl rfl rfl rfl rfl (fun _ _ => ⟨(.o _), ⟨.val (.os _ _ _ fun _ => (.cons (.v _) .nil)), trivial⟩⟩) (.inr ⟨rfl, rfl⟩) (fun _ => rfl) (fun _ => rfl) rfl) (fun x29' hm => ?_)
        obtain ⟨x29⟩ := x29'
        refine U.ps 1 T rfl ?_
        refine U.done (C.nx (C.seq (C.seq ?_)))
        refine C.jn (fun (x30 : Bool) => [(1, .i from_1), (2, .i to_1), (5, .p 0 0), (11, .b x1), (12, .o 1), (17, .o 2), (125, .b x30)]) (fun (x30 : Bool) => [(0, .box [.i s_1.Floor.W, .i s_1.Floor.H, .i s_1.Floor.D, .sl 1 eI s_1.Floor.Kind, .sl 1 eI s_1.Floor.Out, .v (.slice none 0 0), .sl 2 eApiApart s_1.Aparts, .sl 2 eApiShelf s_1.Shelves, .sl 2 eApiStart s_1.Robots]), (1, .val (.os 1 eI x4.1)), (2, .val (.os 1 eI x29))]) 3 hm (fun x30 hm => ?_) (fun J31 hm hJ31 => ?_)
        ·refine C.nx ?_
         refine C.ite rfl hm (fun hb34 hm => ?_) (fun hb34 hm => ?_)
         ·refine C.seq (U.start ?_)
          refine U.ps 1 T rfl ?_
          refine U.done (C.nx (C.ret (C.rt ?_)))
          exact C.fin T (rs' := [.b false]) (H' := []) (nl' := 0) [] rfl rfl (.eq rfl) trivial rfl rfl rfl rfl hβ ⟨false, hm, rfl, rfl, rfl⟩
         ·refine C.skip (C.nx (C.seq (C.seq (U.start ?_))))
          refine U.ps 1 T rfl ?_
          refine U.done (C.nx ?_)
          refine C.jn (fun (x35 : Unit) => [(1, .i from_1), (2, .i to_1), (11, .b x1), (12, .o 0), (17, .o 1)]) (fun (x35 : Unit) => [(0, .val (.os 1 eI x4.1)), (1, .val (.os 1 eI x29))]) 2 hm (fun x35 hm => ?_) (fun J36 hm hJ36 => ?_)
          ·refine C.nx (C.seq ?_)
           refine C.jn (fun (x48 : Bool) => [(10, .b x48)]) (fun (x48 : Bool) => []) 0 hm (fun x48 hm => ?_) (fun J49 hm hJ49 => ?_)
           ·refine C.nx (C.ret ?_)
            exact C.fin T (rs' := [.b x48]) (H' := []) (nl' := 0) [] rfl rfl (.eq rfl) trivial rfl rfl rfl rfl hβ ⟨x48, hm, rfl, rfl, rfl⟩
           ·refine U.start ?_
            refine U.ps 2 T rfl ?_
            refine hm.cs (fun hb50 hm => ?_) (fun hb50 hm => ?_)
            ·refine U.pg 1 1 true 159 hb50 T rfl rfl rfl rfl ?_
             obtain ⟨x51, hx51, hm⟩ := hm
             refine U.r (o := _) rfl (.take 1 true 159 _ hb50 rfl rfl rfl) rfl rfl (by exact Rd.io T rfl rfl rfl rfl rfl rfl rfl hx51) ?_
             refine U.r (o := _) rfl (.take 1 true 159 _ hb50 rfl rfl rfl) rfl rfl (by exact Rd.le T rfl rfl rfl (idx_some hx51).2.2 rfl rfl rfl) ?_
             refine U.pg 2 1 true 159 hb50 T rfl rfl rfl rfl ?_
             refine U.r (o := _) rfl (.none rfl) rfl rfl (by exact Rd.pk rfl rfl hb50 rfl) ?_
             refine U.ps 1 T rfl ?_
             refine hm.cs (fun hb52 hm => ?_) (fun hb52 hm => ?_)
             ·refine U.pg 3 8 true 166 hb52 T rfl rfl rfl rfl ?_
              obtain ⟨x53, hx53, hm⟩ := hm
              refine U.r (o := _) rfl (.take 8 true 166 _ hb52 rfl rfl rfl) rfl rfl (by exact Rd.io T rfl rfl rfl rfl rfl rfl rfl hx53) ?_
              refine U.r (o := _) rfl (.take 8 true 166 _ hb52 rfl rfl rfl) rfl rfl (by exact Rd.le T rfl rfl rfl (idx_some hx53).2.2 rfl rfl rfl) ?_
              refine U.pg 2 8 true 166 hb52 T rfl rfl rfl rfl ?_
              refine U.r (o := _) rfl (.none rfl) rfl rfl (by exact Rd.pk rfl rfl hb52 rfl) ?_
              refine U.ps 1 T rfl ?_
              refine U.done ?_
              exact St.wk (hJ49 _ hm) (Wk.mk' [] rfl rfl (.eqs rfl) trivial rfl)
             ·refine U.sks 7 8 true 166 hb52 rfl rfl rfl ?_
              refine U.r (o := _) rfl (.none rfl) rfl rfl (by exact Rd.pk' rfl rfl hb52 rfl) ?_
              refine U.ps 1 T rfl ?_
              refine U.done ?_
              exact St.wk (hJ49 _ hm) (Wk.mk' [] rfl rfl (.eqs rfl) trivial rfl)
            ·refine U.sks 5 1 true 159 hb50 rfl rfl rfl ?_
             refine U.r (o := _) rfl (.none rfl) rfl rfl (by exact Rd.pk' rfl rfl hb50 rfl) ?_
             refine U.ps 1 T rfl ?_
             refine U.sks 7 8 true 166 rfl rfl rfl rfl ?_
             refine U.r (o := _) rfl (.none rfl) rfl rfl (by exact Rd.pk' rfl rfl rfl rfl) ?_
             refine U.ps 1 T rfl ?_
             refine U.done ?_
             exact St.wk (hJ49 _ hm) (Wk.mk' [] rfl rfl (.eqs rfl) trivial rfl)
          ·refine C.block ?_
           refine St.wk (C.loop (fun (s37 : Int) => [(1, .i from_1), (2, .i to_1), (5, .p 0 0), (11, .b x1), (12, .o 1), (17, .o 2), (18, .i s37)]) (fun (s37 : Int) => [(0, .box [.i s_1.Floor.W, .i s_1.Floor.H, .i s_1.Floor.D, .sl 1 eI s_1.Floor.Kind, .sl 1 eI s_1.Floor.Out, .v (.slice none 0 0), .sl 2 eApiApart s_1.Aparts, .sl 2 eApiShelf s_1.Shelves, .sl 2 eApiStart s_1.Robots]), (1, .val (.os 1 eI x4.1)), (2, .val (.os 1 eI x29))]) hm (fun s37 Y38 hm => ?_)) (Wk.mk' [some 0, some 1, some 2] rfl rfl (.eqs rfl) ⟨⟨_, rfl, .box rfl (.eq rfl)⟩, ⟨_, rfl, .val rfl⟩, ⟨_, rfl, .val rfl⟩, trivial⟩ rfl)
           refine C.seq (C.seq (U.start ?_))
           refine U.ps 4 T rfl ?_
           refine U.done (C.nx ?_)
           refine C.ite rfl hm (fun hb39 hm => ?_) (fun hb39 hm => ?_)
           ·refine C.skip (C.nx (C.seq (C.block (C.seq ?_))))
            refine D.beg 9999 [0, 1, 2] [] mix rfl rfl (by kernel_rfl) (by repeat (first | exact NoPanicQ.body | refine NoPanicQ.th ?_ | refine NoPanicQ.blk ?_)) (fun hQ hS ws M' => ?_)
            refine D.ps 4 [(0, []), (1, []), (2, []), (3, [])] rfl hQ hS T rfl rfl (by kernel_rfl) ?_
            obtain ⟨x40, hx40, hm⟩ := hm
            refine D.q (o := _) 4 [] hQ hS rfl (.none rfl) rfl rfl (by exact Rd.io T rfl rfl rfl rfl rfl rfl rfl hx40) rfl (by kernel_rfl) ?_
            refine D.q (o := _) 5 [] hQ hS rfl (.none rfl) rfl rfl (by exact Rd.le T rfl rfl rfl (idx_some hx40).2.2 rfl rfl rfl) rfl (by kernel_rfl) ?_
            refine D.ps 2 [(6, []), (7, [])] rfl hQ hS T rfl rfl (by kernel_rfl) ?_
            obtain ⟨x41, hx41, hm⟩ := hm
            refine D.q (o := _) 8 [] hQ hS rfl (.none rfl) rfl rfl (by exact Rd.io T rfl rfl rfl rfl rfl rfl rfl hx41) rfl (by kernel_rfl) ?_
            refine D.q (o := _) 9 [] hQ hS rfl (.none rfl) rfl rfl (by exact Rd.le T rfl rfl rfl (idx_some hx41).2.2 rfl rfl rfl) rfl (by kernel_rfl) ?_
            refine D.ps 1 [(10, [])] rfl hQ hS T rfl rfl (by kernel_rfl) ?_
            refine D.e (o := _) 11 rfl (.none rfl) (by exact Eff.c [] (v := true) (T_floor_Next s_1.Floor x40 (w64 (x41 - 1)) _ hm) en17 rfl rfl rfl (.eq rfl) trivial rfl rfl rfl rfl rfl rfl (fun _ _ => ⟨(.tup (.cons (.v _) (.cons (.v _) .nil))), trivial⟩) (.inr ⟨rfl, rfl⟩) (fun _ => rfl) (fun _ => rfl) rfl) (by kernel_rfl) rfl rfl (fun x42' hm => ?_)
            obtain ⟨x42⟩ := x42'
            refine D.ps 5 [(12, []), (13, []), (14, []), (15, []), (16, [])] rfl hQ hS T rfl rfl (by kernel_rfl) ?_
            refine D.done (by kernel_rfl) ?_
            refine C.nx (C.seq ?_)
            refine C.jn (fun (x43 : Bool) => [(1, .i from_1), (2, .i to_1), (5, .p 0 0), (11, .b x1), (12, .o 1), (17, .o 2), (18, .i s37), (157, .b x43)]) (fun (x43 : Bool) => [(0, .box [.i s_1.Floor.W, .i s_1.Floor.H, .i s_1.Floor.D, .sl 1 eI s_1.Floor.Kind, .sl 1 eI s_1.Floor.Out, .v (.slice none 0 0), .sl 2 eApiApart s_1.Aparts, .sl 2 eApiShelf s_1.Shelves, .sl 2 eApiStart s_1.Robots]), (1, .val (.os 1 eI x4.1)), (2, .val (.os 1 eI x29))]) 3 hm (fun x43 hm => ?_) (fun J44 hm hJ44 => ?_)
            ·refine C.nx ?_
             refine C.ite rfl hm (fun hb47 hm => ?_) (fun hb47 hm => ?_)
             ·refine C.seq (U.start ?_)
              refine U.ps 1 T rfl ?_
              refine U.done (C.nx (C.ret (C.brt (C.rt (C.rt (C.brt (C.rt ?_)))))))
              exact C.fin T (rs' := [.b false]) (H' := []) (nl' := 0) [] rfl rfl (.eq rfl) trivial rfl rfl rfl rfl hβ ⟨false, hm, rfl, rfl, rfl⟩
             ·refine C.skip (C.bnx (C.nx (U.start ?_)))
              refine U.ps 3 T rfl ?_
              refine U.done (C.nx ?_)
              exact St.wk (C.next hm) (Wk.mk' [some 0, some 1, some 2] rfl rfl (.eqs rfl) ⟨⟨_, rfl, .box rfl (.eq rfl)⟩, ⟨_, rfl, .val rfl⟩, ⟨_, rfl, .val rfl⟩, trivial⟩ rfl)
            ·refine U.start ?_
             refine U.ps 3 T rfl ?_
             refine hm.cs (fun hb45 hm => ?_) (fun hb45 hm => ?_)
             ·refine U.pg 4 2 false 149 (ntF hb45) T rfl rfl rfl rfl ?_
              obtain ⟨x46, hx46, hm⟩ := hm
              refine U.r (o := _) rfl (.take 2 false 149 _ (ntF hb45) rfl rfl rfl) rfl rfl (by exact Rd.io T rfl rfl rfl rfl rfl rfl rfl hx46) ?_
              refine U.r (o := _) rfl (.take 2 false 149 _ (ntF hb45) rfl rfl rfl) rfl rfl (by exact Rd.le T rfl rfl rfl (idx_some hx46).2.2 rfl rfl rfl) ?_
              refine U.pg 1 2 false 149 (ntF hb45) T rfl rfl rfl rfl ?_
              refine U.r (o := _) rfl (.none rfl) rfl rfl (by exact Rd.pk' rfl rfl (ntF hb45) rfl) ?_
              refine U.done ?_
              exact St.wk (hJ44 _ hm) (Wk.mk' [some 0, some 1, some 2] rfl rfl (.eqs rfl) ⟨⟨_, rfl, .box rfl (.eq rfl)⟩, ⟨_, rfl, .val rfl⟩, ⟨_, rfl, .val rfl⟩, trivial⟩ rfl)
             ·refine U.sks 7 2 false 149 (ntT hb45) rfl rfl rfl ?_
              refine U.r (o := _) rfl (.none rfl) rfl rfl (by exact Rd.pk rfl rfl (ntT hb45) rfl) ?_
              refine U.done ?_
              exact St.wk (hJ44 _ hm) (Wk.mk' [some 0, some 1, some 2] rfl rfl (.eqs rfl) ⟨⟨_, rfl, .box rfl (.eq rfl)⟩, ⟨_, rfl, .val rfl⟩, ⟨_, rfl, .val rfl⟩, trivial⟩ rfl)
           ·refine C.exit (C.ex (C.ex (C.bex ?_)))
            exact St.wk (hJ36 _ hm) (Wk.mk' [some 1, some 2] rfl rfl (.eqs rfl) ⟨⟨_, rfl, .val rfl⟩, ⟨_, rfl, .val rfl⟩, trivial⟩ rfl)
        ·refine U.start ?_
         refine U.ps 3 T rfl ?_
         refine hm.cs (fun hb32 hm => ?_) (fun hb32 hm => ?_)
         ·refine U.sks 7 2 false 109 hb32 rfl rfl rfl ?_
          refine U.r (o := _) rfl (.none rfl) rfl rfl (by exact Rd.pk rfl rfl hb32 rfl) ?_
          refine U.ps 1 T rfl ?_
          refine U.sks 6 11 false 118 rfl rfl rfl rfl ?_
          refine U.r (o := _) rfl (.none rfl) rfl rfl (by exact Rd.pk rfl rfl rfl rfl) ?_
          refine U.done ?_
          exact St.wk (hJ31 _ hm) (Wk.mk' [some 0, some 1, some 5] rfl rfl (.eqs rfl) ⟨⟨_, rfl, .box rfl (.eq rfl)⟩, ⟨_, rfl, .val rfl⟩, ⟨_, rfl, .val rfl⟩, trivial⟩ rfl)
         ·refine U.pg 4 2 false 109 hb32 T rfl rfl rfl rfl ?_
          refine U.r (o := _) rfl (.take 2 false 109 _ hb32 rfl rfl rfl) rfl rfl (by exact Rd.io T rfl rfl rfl rfl rfl rfl rfl hx24) ?_
          refine U.r (o := _) rfl (.take 2 false 109 _ hb32 rfl rfl rfl) rfl rfl (by exact Rd.le T rfl rfl rfl (idx_some hx24).2.2 rfl rfl rfl) ?_
          refine U.pg 1 2 false 109 hb32 T rfl rfl rfl rfl ?_
          refine U.r (o := _) rfl (.none rfl) rfl rfl (by exact Rd.pk' rfl rfl hb32 rfl) ?_
          refine U.ps 1 T rfl ?_
          refine hm.cs (fun hb33 hm => ?_) (fun hb33 hm => ?_)
          ·refine U.sks 6 11 false 118 hb33 rfl rfl rfl ?_
           refine U.r (o := _) rfl (.none rfl) rfl rfl (by exact Rd.pk rfl rfl hb33 rfl) ?_
           refine U.done ?_
           exact St.wk (hJ31 _ hm) (Wk.mk' [some 0, some 1, some 5] rfl rfl (.eqs rfl) ⟨⟨_, rfl, .box rfl (.eq rfl)⟩, ⟨_, rfl, .val rfl⟩, ⟨_, rfl, .val rfl⟩, trivial⟩ rfl)
          ·refine U.pg 6 11 false 118 hb33 T rfl rfl rfl rfl ?_
           refine U.r (o := _) rfl (.none rfl) rfl rfl (by exact Rd.pk' rfl rfl hb33 rfl) ?_
           refine U.done ?_
           exact St.wk (hJ31 _ hm) (Wk.mk' [some 0, some 1, some 5] rfl rfl (.eqs rfl) ⟨⟨_, rfl, .box rfl (.eq rfl)⟩, ⟨_, rfl, .val rfl⟩, ⟨_, rfl, .val rfl⟩, trivial⟩ rfl)
     ·refine C.block ?_
      refine St.wk (C.loop (fun (s15 : List Int × Int) => [(1, .i from_1), (2, .i to_1), (5, .p 0 0), (11, .b x1), (12, .o 1), (13, .i x4.2), (14, .o 2), (15, .i s15.2)]) (fun (s15 : List Int × Int) => [(0, .box [.i s_1.Floor.W, .i s_1.Floor.H, .i s_1.Floor.D, .sl 1 eI s_1.Floor.Kind, .sl 1 eI s_1.Floor.Out, .v (.slice none 0 0), .sl 2 eApiApart s_1.Aparts, .sl 2 eApiShelf s_1.Shelves, .sl 2 eApiStart s_1.Robots]), (1, .val (.os 1 eI x4.1)), (2, .val (.os 1 eI s15.1))]) hm (fun s15 Y16 hm => ?_)) (Wk.mk' [some 0, some 1, some 3] rfl rfl (.eqs rfl) ⟨⟨_, rfl, .box rfl (.eq rfl)⟩, ⟨_, rfl, .val rfl⟩, ⟨_, rfl, .val rfl⟩, trivial⟩ rfl)
      refine C.seq (C.seq (U.start ?_))
      refine U.ps 4 T rfl ?_
      refine U.done (C.nx ?_)
      refine C.ite rfl hm (fun hb17 hm => ?_) (fun hb17 hm => ?_)
      ·refine C.skip (C.nx (C.seq (C.block (C.seq (U.start ?_)))))
       refine U.ps 2 T rfl ?_
       obtain ⟨x18, hx18, hm⟩ := hm
       refine U.r (o := _) rfl (.none rfl) rfl rfl (by exact Rd.io T rfl rfl rfl rfl rfl rfl rfl hx18) ?_
       refine U.r (o := _) rfl (.none rfl) rfl rfl (by exact Rd.le T rfl rfl rfl (idx_some hx18).2.2 rfl rfl rfl) ?_
       refine U.ps 2 T rfl ?_
       refine U.done (C.nx ?_)
       refine C.jn (fun (x19 : List Int) => [(1, .i from_1), (2, .i to_1), (5, .p 0 0), (11, .b x1), (12, .o 1), (13, .i x4.2), (14, .o 2), (15, .i s15.2)]) (fun (x19 : List Int) => [(0, .box [.i s_1.Floor.W, .i s_1.Floor.H, .i s_1.Floor.D, .sl 1 eI s_1.Floor.Kind, .sl 1 eI s_1.Floor.Out, .v (.slice none 0 0), .sl 2 eApiApart s_1.Aparts, .sl 2 eApiShelf s_1.Shelves, .sl 2 eApiStart s_1.Robots]), (1, .val (.os 1 eI x4.1)), (2, .val (.os 1 eI x19))]) 3 hm (fun x19 hm => ?_) (fun J20 hm hJ20 => ?_)
       ·refine C.bnx (C.nx (U.start ?_))
        refine U.ps 3 T rfl ?_
        refine U.done (C.nx ?_)
        exact St.wk (C.next hm) (Wk.mk' [some 0, some 1, some 2] rfl rfl (.eqs rfl) ⟨⟨_, rfl, .box rfl (.eq rfl)⟩, ⟨_, rfl, .val rfl⟩, ⟨_, rfl, .val rfl⟩, trivial⟩ rfl)
       ·refine C.ite rfl hm (fun hb21 hm => ?_) (fun hb21 hm => ?_)
        ·refine U.start ?_
         refine U.ps 2 T rfl ?_
         refine U.r (o := _) rfl (.none rfl) rfl rfl (by exact Rd.io T rfl rfl rfl rfl rfl rfl rfl hx18) ?_
         refine U.e1 (o := _) rfl (.none rfl) (by exact Eff1.se T (z' := (-1)) rfl rfl rfl (idx_some hx18).2.2 rfl rfl rfl rfl rfl rfl rfl rfl (fun _ => rfl) rfl) ?_
         refine U.done ?_
         exact St.wk (hJ20 _ hm) (Wk.mk' [some 0, some 1, some 2] rfl rfl (.eqs rfl) ⟨⟨_, rfl, .box rfl (.eq rfl)⟩, ⟨_, rfl, .val rfl⟩, ⟨_, rfl, .val rfl⟩, trivial⟩ rfl)
        ·refine C.skip ?_
         exact St.wk (hJ20 _ hm) (Wk.mk' [some 0, some 1, some 2] rfl rfl (.eqs rfl) ⟨⟨_, rfl, .box rfl (.eq rfl)⟩, ⟨_, rfl, .val rfl⟩, ⟨_, rfl, .val rfl⟩, trivial⟩ rfl)
      ·refine C.exit (C.ex (C.ex (C.bex ?_)))
       exact St.wk (hJ14 _ hm) (Wk.mk' [some 0, some 1, some 2] rfl rfl (.eqs rfl) ⟨⟨_, rfl, .box rfl (.eq rfl)⟩, ⟨_, rfl, .val rfl⟩, ⟨_, rfl, .val rfl⟩, trivial⟩ rfl)
   ·refine U.start ?_
    refine U.ps 3 T rfl ?_
    refine hm.cs (fun hb8 hm => ?_) (fun hb8 hm => ?_)
    ·refine U.sks 6 2 false 42 hb8 rfl rfl rfl ?_
     refine U.r (o := _) rfl (.none rfl) rfl rfl (by exact Rd.pk rfl rfl hb8 rfl) ?_
     refine U.ps 1 T rfl ?_
     refine U.sks 2 10 false 50 rfl rfl rfl rfl ?_
     refine U.r (o := _) rfl (.none rfl) rfl rfl (by exact Rd.pk rfl rfl rfl rfl) ?_
     refine U.ps 1 T rfl ?_
     refine U.sks 6 14 false 54 rfl rfl rfl rfl ?_
     refine U.r (o := _) rfl (.none rfl) rfl rfl (by exact Rd.pk rfl rfl rfl rfl) ?_
     refine U.done ?_
     exact St.wk (hJ7 _ hm) (Wk.mk' [some 0, some 1] rfl rfl (.eqs rfl) ⟨⟨_, rfl, .box rfl (.eq rfl)⟩, ⟨_, rfl, .val rfl⟩, trivial⟩ rfl)
    ·refine U.pg 6 2 false 42 hb8 T rfl rfl rfl rfl ?_
     refine U.r (o := _) rfl (.none rfl) rfl rfl (by exact Rd.pk' rfl rfl hb8 rfl) ?_
     refine U.ps 1 T rfl ?_
     refine hm.cs (fun hb9 hm => ?_) (fun hb9 hm => ?_)
     ·refine U.sks 2 10 false 50 hb9 rfl rfl rfl ?_
      refine U.r (o := _) rfl (.none rfl) rfl rfl (by exact Rd.pk rfl rfl hb9 rfl) ?_
      refine U.ps 1 T rfl ?_
      refine U.sks 6 14 false 54 rfl rfl rfl rfl ?_
      refine U.r (o := _) rfl (.none rfl) rfl rfl (by exact Rd.pk rfl rfl rfl rfl) ?_
      refine U.done ?_
      exact St.wk (hJ7 _ hm) (Wk.mk' [some 0, some 1] rfl rfl (.eqs rfl) ⟨⟨_, rfl, .box rfl (.eq rfl)⟩, ⟨_, rfl, .val rfl⟩, trivial⟩ rfl)
     ·refine U.pg 2 10 false 50 hb9 T rfl rfl rfl rfl ?_
      refine U.r (o := _) rfl (.none rfl) rfl rfl (by exact Rd.pk' rfl rfl hb9 rfl) ?_
      refine U.ps 1 T rfl ?_
      refine hm.cs (fun hb10 hm => ?_) (fun hb10 hm => ?_)
      ·refine U.sks 6 14 false 54 hb10 rfl rfl rfl ?_
       refine U.r (o := _) rfl (.none rfl) rfl rfl (by exact Rd.pk rfl rfl hb10 rfl) ?_
       refine U.done ?_
       exact St.wk (hJ7 _ hm) (Wk.mk' [some 0, some 1] rfl rfl (.eqs rfl) ⟨⟨_, rfl, .box rfl (.eq rfl)⟩, ⟨_, rfl, .val rfl⟩, trivial⟩ rfl)
      ·refine U.pg 6 14 false 54 hb10 T rfl rfl rfl rfl ?_
       refine U.r (o := _) rfl (.none rfl) rfl rfl (by exact Rd.pk' rfl rfl hb10 rfl) ?_
       refine U.done ?_
       exact St.wk (hJ7 _ hm) (Wk.mk' [some 0, some 1] rfl rfl (.eqs rfl) ⟨⟨_, rfl, .box rfl (.eq rfl)⟩, ⟨_, rfl, .val rfl⟩, trivial⟩ rfl)
end Go.Proofs.Ytliikemkgfjpaaa
