/- The walks: each Go function does what its verification condition says (written by a program of the prover). -/
import Derived.Test.YtenbhocpjlmimaaGreatW0
import Derived.KernelRfl
set_option maxRecDepth 100000
set_option maxHeartbeats 8000000
set_option linter.unusedVariables false
set_option linter.unusedSimpArgs false
namespace Go.Proofs.YtenbhocpjlmimaaGreat
open Go Go.Taq
theorem T_taquinref07_Right (f : ApiFloor) (post : Bool → Prop) (hm : V_taquinref07_Right f post) :
    Tr Tryz.prog 78 [.agg (eApiFloor f)] [] 0 (fun A H' k => ∃ y, post y ∧ A = (.b y) ∧ H' = [] ∧ k = 0) := by
 refine Tr.intro (n := 92) Tryz.func78 rfl Tryz.ntmps78 rfl (fun w0 ok F β hβ => ?_)
 unfold V_taquinref07_Right at hm
 refine C.seq (U.start ?_)
 refine U.e1 rfl (.none rfl) (by exact Eff1.box rfl rfl rfl rfl rfl) ?_
 refine U.ps 1 T rfl ?_
 refine U.done (C.nx (C.seq (C.seq ?_)))
 refine C.jn (fun (x3 : Bool) => [(1, .p 0 0), (32, .b x3)]) (fun (x3 : Bool) => [(0, .box (eApiFloor f))]) 1 hm (fun x3 hm => ?_) (fun J4 hm hJ4 => ?_)
 refine C.nx ?_
 refine C.ite rfl hm (fun hb10 hm => ?_) (fun hb10 hm => ?_)
 refine C.seq (U.start ?_)
 refine U.ps 1 T rfl ?_
 refine U.done (C.nx (C.ret (C.rt ?_)))
 exact C.f0 T (rs' := [.b false]) hβ ⟨false, hm, rfl, rfl, rfl⟩
 refine C.skip (C.nx (C.seq (U.start ?_)))
 refine U.ps 9 T rfl ?_
 refine U.done (C.nx (C.seq (C.seq ?_)))
 refine C.jn (fun (x15 : Bool) => [(1, .p 0 0), (3, .i (w64 ((w64 (f.W * f.H)) * f.D))), (56, .b x15)]) (fun (x15 : Bool) => [(0, .box (eApiFloor f))]) 1 hm (fun x15 hm => ?_) (fun J16 hm hJ16 => ?_)
 refine C.nx ?_
 refine C.ite rfl hm (fun hb19 hm => ?_) (fun hb19 hm => ?_)
 refine C.seq (U.start ?_)
 refine U.ps 1 T rfl ?_
 refine U.done (C.nx (C.ret (C.rt ?_)))
 exact C.f0 T (rs' := [.b false]) hβ ⟨false, hm, rfl, rfl, rfl⟩
 refine C.skip (C.nx (C.seq (C.seq (U.start ?_))))
 refine U.ps 1 T rfl ?_
 refine U.done (C.nx ?_)
 refine C.jn (fun (x24 : Unit) => []) (fun (x24 : Unit) => []) 0 hm (fun x24 hm => ?_) (fun J25 hm hJ25 => ?_)
 refine C.nx (C.seq (U.start ?_))
 refine U.ps 1 T rfl ?_
 refine U.done (C.nx (C.ret ?_))
 exact C.f0 T (rs' := [.b true]) hβ ⟨true, hm, rfl, rfl, rfl⟩
 refine C.block ?_
 refine St.wk (C.loop (fun (s26 : Int) => [(1, .p 0 0), (3, .i (w64 ((w64 (f.W * f.H)) * f.D))), (4, .i s26)]) (fun (s26 : Int) => [(0, .box (eApiFloor f))]) hm (fun s26 Y27 hm => ?_)) (Wk.f [some 0] ⟨bX, trivial⟩)
 refine C.seq (C.seq (U.start ?_))
 refine U.ps 3 T rfl ?_
 refine U.done (C.nx ?_)
 refine C.ite rfl hm (fun hb30 hm => ?_) (fun hb30 hm => ?_)
 refine C.skip (C.nx (C.seq (C.block (C.seq ?_))))
 refine C.jn (fun (x31 : Bool) => [(1, .p 0 0), (3, .i (w64 ((w64 (f.W * f.H)) * f.D))), (4, .i s26), (91, .b x31)]) (fun (x31 : Bool) => [(0, .box (eApiFloor f))]) 1 hm (fun x31 hm => ?_) (fun J32 hm hJ32 => ?_)
 refine C.nx ?_
 refine C.ite rfl hm (fun hb38 hm => ?_) (fun hb38 hm => ?_)
 refine C.seq (U.start ?_)
 refine U.ps 1 T rfl ?_
 refine U.done (C.nx (C.ret (C.brt (C.rt (C.rt (C.brt (C.rt ?_)))))))
 exact C.f0 T (rs' := [.b false]) hβ ⟨false, hm, rfl, rfl, rfl⟩
 refine C.skip (C.bnx (C.nx (U.start ?_)))
 refine U.ps 3 T rfl ?_
 refine U.done (C.nx ?_)
 exact St.wk (C.next hm) (Wk.f [some 0] ⟨bX, trivial⟩)
 refine U.start ?_
 refine U.ps 3 T rfl ?_
 obtain ⟨x33, hx33, hm⟩ := hm
 refine U.r rfl (.none rfl) rfl rfl (by exact Rd.ix T rfl rfl rfl rfl rfl rfl hx33) ?_
 refine U.ps 3 T rfl ?_
 refine hm.cs (fun hb34 hm => ?_) (fun hb34 hm => ?_)
 refine U.sks 6 6 false 68 hb34 rfl rfl rfl ?_
 refine U.r rfl (.none rfl) rfl rfl (by exact Rd.pk rfl rfl hb34 rfl) ?_
 refine U.ps 1 T rfl ?_
 refine U.sks 6 14 false 76 rfl rfl rfl rfl ?_
 refine U.r rfl (.none rfl) rfl rfl (by exact Rd.pk rfl rfl rfl rfl) ?_
 refine U.ps 1 T rfl ?_
 refine U.sks 6 22 false 84 rfl rfl rfl rfl ?_
 refine U.r rfl (.none rfl) rfl rfl (by exact Rd.pk rfl rfl rfl rfl) ?_
 refine U.done ?_
 exact St.wk (hJ32 _ hm) (Wk.f [some 0] ⟨bX, trivial⟩)
 refine U.pg 3 6 false 68 hb34 T rfl rfl rfl rfl ?_
 refine U.r rfl (.take 6 false 68 _ hb34 rfl rfl rfl) rfl rfl (by exact Rd.ix T rfl rfl rfl rfl rfl rfl hx33) ?_
 refine U.pg 2 6 false 68 hb34 T rfl rfl rfl rfl ?_
 refine U.r rfl (.none rfl) rfl rfl (by exact Rd.pk' rfl rfl hb34 rfl) ?_
 refine U.ps 1 T rfl ?_
 refine hm.cs (fun hb35 hm => ?_) (fun hb35 hm => ?_)
 refine U.sks 6 14 false 76 hb35 rfl rfl rfl ?_
 refine U.r rfl (.none rfl) rfl rfl (by exact Rd.pk rfl rfl hb35 rfl) ?_
 refine U.ps 1 T rfl ?_
 refine U.sks 6 22 false 84 rfl rfl rfl rfl ?_
 refine U.r rfl (.none rfl) rfl rfl (by exact Rd.pk rfl rfl rfl rfl) ?_
 refine U.done ?_
 exact St.wk (hJ32 _ hm) (Wk.f [some 0] ⟨bX, trivial⟩)
 refine U.pg 3 14 false 76 hb35 T rfl rfl rfl rfl ?_
 obtain ⟨x36, hx36, hm⟩ := hm
 refine U.r rfl (.take 14 false 76 _ hb35 rfl rfl rfl) rfl rfl (by exact Rd.ix T rfl rfl rfl rfl rfl rfl hx36) ?_
 refine U.pg 2 14 false 76 hb35 T rfl rfl rfl rfl ?_
 refine U.r rfl (.none rfl) rfl rfl (by exact Rd.pk' rfl rfl hb35 rfl) ?_
 refine U.ps 1 T rfl ?_
 refine hm.cs (fun hb37 hm => ?_) (fun hb37 hm => ?_)
 refine U.sks 6 22 false 84 hb37 rfl rfl rfl ?_
 refine U.r rfl (.none rfl) rfl rfl (by exact Rd.pk rfl rfl hb37 rfl) ?_
 refine U.done ?_
 exact St.wk (hJ32 _ hm) (Wk.f [some 0] ⟨bX, trivial⟩)
 refine U.pg 3 22 false 84 hb37 T rfl rfl rfl rfl ?_
 refine U.r rfl (.take 22 false 84 _ hb37 rfl rfl rfl) rfl rfl (by exact Rd.ix T rfl rfl rfl rfl rfl rfl hx36) ?_
 refine U.pg 2 22 false 84 hb37 T rfl rfl rfl rfl ?_
 refine U.r rfl (.none rfl) rfl rfl (by exact Rd.pk' rfl rfl hb37 rfl) ?_
 refine U.done ?_
 exact St.wk (hJ32 _ hm) (Wk.f [some 0] ⟨bX, trivial⟩)
 refine C.exit (C.ex (C.ex (C.bex ?_)))
 exact St.wk (hJ25 _ hm) (Wk.mk' [] rfl rfl trivial trivial rfl)
 refine U.start ?_
 refine U.ps 3 T rfl ?_
 refine hm.cs (fun hb17 hm => ?_) (fun hb17 hm => ?_)
 refine U.sks 5 2 false 43 hb17 rfl rfl rfl ?_
 refine U.r rfl (.none rfl) rfl rfl (by exact Rd.pk rfl rfl hb17 rfl) ?_
 refine U.ps 1 T rfl ?_
 refine U.sks 5 9 false 50 rfl rfl rfl rfl ?_
 refine U.r rfl (.none rfl) rfl rfl (by exact Rd.pk rfl rfl rfl rfl) ?_
 refine U.done ?_
 exact St.wk (hJ16 _ hm) (Wk.f [some 0] ⟨bX, trivial⟩)
 refine U.pg 5 2 false 43 hb17 T rfl rfl rfl rfl ?_
 refine U.r rfl (.none rfl) rfl rfl (by exact Rd.pk' rfl rfl hb17 rfl) ?_
 refine U.ps 1 T rfl ?_
 refine hm.cs (fun hb18 hm => ?_) (fun hb18 hm => ?_)
 refine U.sks 5 9 false 50 hb18 rfl rfl rfl ?_
 refine U.r rfl (.none rfl) rfl rfl (by exact Rd.pk rfl rfl hb18 rfl) ?_
 refine U.done ?_
 exact St.wk (hJ16 _ hm) (Wk.f [some 0] ⟨bX, trivial⟩)
 refine U.pg 5 9 false 50 hb18 T rfl rfl rfl rfl ?_
 refine U.r rfl (.none rfl) rfl rfl (by exact Rd.pk' rfl rfl hb18 rfl) ?_
 refine U.done ?_
 exact St.wk (hJ16 _ hm) (Wk.f [some 0] ⟨bX, trivial⟩)
 refine U.start ?_
 refine U.ps 4 T rfl ?_
 refine hm.cs (fun hb5 hm => ?_) (fun hb5 hm => ?_)
 refine U.sks 3 3 false 8 hb5 rfl rfl rfl ?_
 refine U.r rfl (.none rfl) rfl rfl (by exact Rd.pk rfl rfl hb5 rfl) ?_
 refine U.ps 1 T rfl ?_
 refine U.sks 3 8 false 13 rfl rfl rfl rfl ?_
 refine U.r rfl (.none rfl) rfl rfl (by exact Rd.pk rfl rfl rfl rfl) ?_
 refine U.ps 1 T rfl ?_
 refine U.sks 3 13 false 18 rfl rfl rfl rfl ?_
 refine U.r rfl (.none rfl) rfl rfl (by exact Rd.pk rfl rfl rfl rfl) ?_
 refine U.ps 1 T rfl ?_
 refine U.sks 3 18 false 23 rfl rfl rfl rfl ?_
 refine U.r rfl (.none rfl) rfl rfl (by exact Rd.pk rfl rfl rfl rfl) ?_
 refine U.ps 1 T rfl ?_
 refine U.sks 3 23 false 28 rfl rfl rfl rfl ?_
 refine U.r rfl (.none rfl) rfl rfl (by exact Rd.pk rfl rfl rfl rfl) ?_
 refine U.done ?_
 exact St.wk (hJ4 _ hm) (Wk.f [some 0] ⟨bX, trivial⟩)
 refine U.pg 3 3 false 8 hb5 T rfl rfl rfl rfl ?_
 refine U.r rfl (.none rfl) rfl rfl (by exact Rd.pk' rfl rfl hb5 rfl) ?_
 refine U.ps 1 T rfl ?_
 refine hm.cs (fun hb6 hm => ?_) (fun hb6 hm => ?_)
 refine U.sks 3 8 false 13 hb6 rfl rfl rfl ?_
 refine U.r rfl (.none rfl) rfl rfl (by exact Rd.pk rfl rfl hb6 rfl) ?_
 refine U.ps 1 T rfl ?_
 refine U.sks 3 13 false 18 rfl rfl rfl rfl ?_
 refine U.r rfl (.none rfl) rfl rfl (by exact Rd.pk rfl rfl rfl rfl) ?_
 refine U.ps 1 T rfl ?_
 refine U.sks 3 18 false 23 rfl rfl rfl rfl ?_
 refine U.r rfl (.none rfl) rfl rfl (by exact Rd.pk rfl rfl rfl rfl) ?_
 refine U.ps 1 T rfl ?_
 refine U.sks 3 23 false 28 rfl rfl rfl rfl ?_
 refine U.r rfl (.none rfl) rfl rfl (by exact Rd.pk rfl rfl rfl rfl) ?_
 refine U.done ?_
 exact St.wk (hJ4 _ hm) (Wk.f [some 0] ⟨bX, trivial⟩)
 refine U.pg 3 8 false 13 hb6 T rfl rfl rfl rfl ?_
 refine U.r rfl (.none rfl) rfl rfl (by exact Rd.pk' rfl rfl hb6 rfl) ?_
 refine U.ps 1 T rfl ?_
 refine hm.cs (fun hb7 hm => ?_) (fun hb7 hm => ?_)
 refine U.sks 3 13 false 18 hb7 rfl rfl rfl ?_
 refine U.r rfl (.none rfl) rfl rfl (by exact Rd.pk rfl rfl hb7 rfl) ?_
 refine U.ps 1 T rfl ?_
 refine U.sks 3 18 false 23 rfl rfl rfl rfl ?_
 refine U.r rfl (.none rfl) rfl rfl (by exact Rd.pk rfl rfl rfl rfl) ?_
 refine U.ps 1 T rfl ?_
 refine U.sks 3 23 false 28 rfl rfl rfl rfl ?_
 refine U.r rfl (.none rfl) rfl rfl (by exact Rd.pk rfl rfl rfl rfl) ?_
 refine U.done ?_
 exact St.wk (hJ4 _ hm) (Wk.f [some 0] ⟨bX, trivial⟩)
 refine U.pg 3 13 false 18 hb7 T rfl rfl rfl rfl ?_
 refine U.r rfl (.none rfl) rfl rfl (by exact Rd.pk' rfl rfl hb7 rfl) ?_
 refine U.ps 1 T rfl ?_
 refine hm.cs (fun hb8 hm => ?_) (fun hb8 hm => ?_)
 refine U.sks 3 18 false 23 hb8 rfl rfl rfl ?_
 refine U.r rfl (.none rfl) rfl rfl (by exact Rd.pk rfl rfl hb8 rfl) ?_
 refine U.ps 1 T rfl ?_
 refine U.sks 3 23 false 28 rfl rfl rfl rfl ?_
 refine U.r rfl (.none rfl) rfl rfl (by exact Rd.pk rfl rfl rfl rfl) ?_
 refine U.done ?_
 exact St.wk (hJ4 _ hm) (Wk.f [some 0] ⟨bX, trivial⟩)
 refine U.pg 3 18 false 23 hb8 T rfl rfl rfl rfl ?_
 refine U.r rfl (.none rfl) rfl rfl (by exact Rd.pk' rfl rfl hb8 rfl) ?_
 refine U.ps 1 T rfl ?_
 refine hm.cs (fun hb9 hm => ?_) (fun hb9 hm => ?_)
 refine U.sks 3 23 false 28 hb9 rfl rfl rfl ?_
 refine U.r rfl (.none rfl) rfl rfl (by exact Rd.pk rfl rfl hb9 rfl) ?_
 refine U.done ?_
 exact St.wk (hJ4 _ hm) (Wk.f [some 0] ⟨bX, trivial⟩)
 refine U.pg 3 23 false 28 hb9 T rfl rfl rfl rfl ?_
 refine U.r rfl (.none rfl) rfl rfl (by exact Rd.pk' rfl rfl hb9 rfl) ?_
 refine U.done ?_
 exact St.wk (hJ4 _ hm) (Wk.f [some 0] ⟨bX, trivial⟩)
theorem T_taquinref11_Name (s_1 : ByteArray) (post : Bool → Prop) (hm : V_taquinref11_Name s_1 post) :
    Tr Tryz.prog 80 [.v (.string s_1)] [] 0 (fun A H' k => ∃ y, post y ∧ A = (.b y) ∧ H' = [] ∧ k = 0) := by
 refine Tr.intro (n := 62) Tryz.func80 rfl Tryz.ntmps80 rfl (fun w0 ok F β hβ => ?_)
 unfold V_taquinref11_Name at hm
 refine C.seq (U.start ?_)
 refine U.ps 1 T rfl ?_
 refine U.done (C.nx (C.seq (C.seq (U.start ?_))))
 refine U.ps 1 T rfl ?_
 refine U.done (C.nx ?_)
 refine C.jn (fun (x5 : Unit) => [(0, .v (.string s_1))]) (fun (x5 : Unit) => []) 0 hm (fun x5 hm => ?_) (fun J6 hm hJ6 => ?_)
 refine C.nx (C.seq ?_)
 refine C.jn (fun (x58 : Bool) => [(2, .b x58)]) (fun (x58 : Bool) => []) 0 hm (fun x58 hm => ?_) (fun J59 hm hJ59 => ?_)
 refine C.nx (C.ret ?_)
 exact C.f0 T (rs' := [.b x58]) hβ ⟨x58, hm, rfl, rfl, rfl⟩
 refine U.start ?_
 refine U.ps 4 T rfl ?_
 refine hm.cs (fun hb60 hm => ?_) (fun hb60 hm => ?_)
 refine U.pg 3 3 true 57 hb60 T rfl rfl rfl rfl ?_
 refine U.r rfl (.none rfl) rfl rfl (by exact Rd.pk rfl rfl hb60 rfl) ?_
 refine U.ps 1 T rfl ?_
 refine U.done ?_
 exact St.wk (hJ59 _ hm) (Wk.e)
 refine U.sks 3 3 true 57 hb60 rfl rfl rfl ?_
 refine U.r rfl (.none rfl) rfl rfl (by exact Rd.pk' rfl rfl hb60 rfl) ?_
 refine U.ps 1 T rfl ?_
 refine U.done ?_
 exact St.wk (hJ59 _ hm) (Wk.e)
 refine C.block ?_
 refine St.wk (C.loop (fun (s7 : Int) => [(0, .v (.string s_1)), (3, .i s7)]) (fun (s7 : Int) => []) hm (fun s7 Y8 hm => ?_)) (Wk.e)
 refine C.seq (C.seq (U.start ?_))
 refine U.ps 4 T rfl ?_
 refine U.done (C.nx ?_)
 refine C.ite rfl hm (fun hb11 hm => ?_) (fun hb11 hm => ?_)
 refine C.skip (C.nx (C.seq (C.block (C.seq (U.start ?_)))))
 refine U.ps 2 T rfl ?_
 obtain ⟨x14, hx14, hm⟩ := hm
 refine U.r rfl (.none rfl) rfl rfl (by exact Rd.ib T rfl rfl rfl rfl hx14) ?_
 refine U.ps 1 T rfl ?_
 refine U.done (C.nx (C.seq ?_))
 refine C.jn (fun (x15 : Bool) => [(0, .v (.string s_1)), (3, .i s7), (4, .v (.int .u8 (x14.toNat : Int))), (5, .b x15)]) (fun (x15 : Bool) => []) 0 hm (fun x15 hm => ?_) (fun J16 hm hJ16 => ?_)
 refine C.nx (C.seq ?_)
 refine C.jn (fun (x18 : Bool) => [(0, .v (.string s_1)), (3, .i s7), (53, .b x18)]) (fun (x18 : Bool) => []) 0 hm (fun x18 hm => ?_) (fun J19 hm hJ19 => ?_)
 refine C.nx ?_
 refine C.ite rfl hm (fun hb53 hm => ?_) (fun hb53 hm => ?_)
 refine C.seq (U.start ?_)
 refine U.ps 1 T rfl ?_
 refine U.done (C.nx (C.ret (C.brt (C.rt (C.rt (C.brt (C.rt ?_)))))))
 exact C.f0 T (rs' := [.b false]) hβ ⟨false, hm, rfl, rfl, rfl⟩
 refine C.skip (C.bnx (C.nx (U.start ?_)))
 refine U.ps 3 T rfl ?_
 refine U.done (C.nx ?_)
 exact St.wk (C.next hm) (Wk.e)
 refine U.start ?_
 refine U.ps 3 T rfl ?_
 refine hm.cs (fun hb20 hm => ?_) (fun hb20 hm => ?_)
 refine U.pg 2 2 true 23 hb20 T rfl rfl rfl rfl ?_
 refine U.r rfl (.none rfl) rfl rfl (by exact Rd.pk rfl rfl hb20 rfl) ?_
 refine U.ps 1 T rfl ?_
 refine hm.cs (fun hb21 hm => ?_) (fun hb21 hm => ?_)
 refine U.sks 3 6 false 27 hb21 rfl rfl rfl ?_
 refine U.sku 2 9 true 30 rfl rfl rfl ?_
 refine U.sks 1 6 false 27 hb21 rfl rfl rfl ?_
 refine U.r rfl (.none rfl) rfl rfl (by exact Rd.pk rfl rfl hb21 rfl) ?_
 refine U.ps 1 T rfl ?_
 refine U.sks 1 14 false 35 rfl rfl rfl rfl ?_
 refine U.r rfl (.none rfl) rfl rfl (by exact Rd.pk rfl rfl rfl rfl) ?_
 refine U.ps 1 T rfl ?_
 refine U.sks 2 17 false 38 rfl rfl rfl rfl ?_
 refine U.r rfl (.none rfl) rfl rfl (by exact Rd.pk rfl rfl rfl rfl) ?_
 refine U.ps 1 T rfl ?_
 refine U.sks 2 21 false 42 rfl rfl rfl rfl ?_
 refine U.r rfl (.none rfl) rfl rfl (by exact Rd.pk rfl rfl rfl rfl) ?_
 refine U.ps 2 T rfl ?_
 refine U.pg 3 26 false 47 rfl T rfl rfl rfl rfl ?_
 refine hm.cs (fun hb22 hm => ?_) (fun hb22 hm => ?_)
 refine U.pg 1 29 true 50 hb22 T rfl rfl rfl rfl ?_
 refine U.r rfl (.take 26 false 47 _ rfl rfl rfl rfl) rfl rfl (by exact Rd.pk rfl rfl hb22 rfl) ?_
 refine U.r rfl (.none rfl) rfl rfl (by exact Rd.pk' rfl rfl rfl rfl) ?_
 refine U.done ?_
 exact St.wk (hJ19 _ hm) (Wk.e)
 refine U.sks 1 29 true 50 hb22 rfl rfl rfl ?_
 refine U.r rfl (.take 26 false 47 _ rfl rfl rfl rfl) rfl rfl (by exact Rd.pk' rfl rfl hb22 rfl) ?_
 refine U.r rfl (.none rfl) rfl rfl (by exact Rd.pk' rfl rfl rfl rfl) ?_
 refine U.done ?_
 exact St.wk (hJ19 _ hm) (Wk.e)
 refine U.pg 3 6 false 27 hb21 T rfl rfl rfl rfl ?_
 refine hm.cs (fun hb23 hm => ?_) (fun hb23 hm => ?_)
 refine U.pg 2 9 true 30 hb23 T rfl rfl rfl rfl ?_
 refine U.r rfl (.take 6 false 27 _ hb21 rfl rfl rfl) rfl rfl (by exact Rd.pk rfl rfl hb23 rfl) ?_
 refine U.r rfl (.none rfl) rfl rfl (by exact Rd.pk' rfl rfl hb21 rfl) ?_
 refine U.ps 1 T rfl ?_
 refine hm.cs (fun hb24 hm => ?_) (fun hb24 hm => ?_)
 refine U.sks 1 14 false 35 hb24 rfl rfl rfl ?_
 refine U.r rfl (.none rfl) rfl rfl (by exact Rd.pk rfl rfl hb24 rfl) ?_
 refine U.ps 1 T rfl ?_
 refine U.sks 2 17 false 38 rfl rfl rfl rfl ?_
 refine U.r rfl (.none rfl) rfl rfl (by exact Rd.pk rfl rfl rfl rfl) ?_
 refine U.ps 1 T rfl ?_
 refine U.sks 2 21 false 42 rfl rfl rfl rfl ?_
 refine U.r rfl (.none rfl) rfl rfl (by exact Rd.pk rfl rfl rfl rfl) ?_
 refine U.ps 2 T rfl ?_
 refine U.pg 3 26 false 47 rfl T rfl rfl rfl rfl ?_
 refine hm.cs (fun hb25 hm => ?_) (fun hb25 hm => ?_)
 refine U.pg 1 29 true 50 hb25 T rfl rfl rfl rfl ?_
 refine U.r rfl (.take 26 false 47 _ rfl rfl rfl rfl) rfl rfl (by exact Rd.pk rfl rfl hb25 rfl) ?_
 refine U.r rfl (.none rfl) rfl rfl (by exact Rd.pk' rfl rfl rfl rfl) ?_
 refine U.done ?_
 exact St.wk (hJ19 _ hm) (Wk.e)
 refine U.sks 1 29 true 50 hb25 rfl rfl rfl ?_
 refine U.r rfl (.take 26 false 47 _ rfl rfl rfl rfl) rfl rfl (by exact Rd.pk' rfl rfl hb25 rfl) ?_
 refine U.r rfl (.none rfl) rfl rfl (by exact Rd.pk' rfl rfl rfl rfl) ?_
 refine U.done ?_
 exact St.wk (hJ19 _ hm) (Wk.e)
 refine U.pg 1 14 false 35 hb24 T rfl rfl rfl rfl ?_
 refine U.r rfl (.none rfl) rfl rfl (by exact Rd.pk' rfl rfl hb24 rfl) ?_
 refine U.ps 1 T rfl ?_
 refine hm.cs (fun hb26 hm => ?_) (fun hb26 hm => ?_)
 refine U.sks 2 17 false 38 hb26 rfl rfl rfl ?_
 refine U.r rfl (.none rfl) rfl rfl (by exact Rd.pk rfl rfl hb26 rfl) ?_
 refine U.ps 1 T rfl ?_
 refine U.sks 2 21 false 42 rfl rfl rfl rfl ?_
 refine U.r rfl (.none rfl) rfl rfl (by exact Rd.pk rfl rfl rfl rfl) ?_
 refine U.ps 2 T rfl ?_
 refine U.pg 3 26 false 47 rfl T rfl rfl rfl rfl ?_
 refine hm.cs (fun hb27 hm => ?_) (fun hb27 hm => ?_)
 refine U.pg 1 29 true 50 hb27 T rfl rfl rfl rfl ?_
 refine U.r rfl (.take 26 false 47 _ rfl rfl rfl rfl) rfl rfl (by exact Rd.pk rfl rfl hb27 rfl) ?_
 refine U.r rfl (.none rfl) rfl rfl (by exact Rd.pk' rfl rfl rfl rfl) ?_
 refine U.done ?_
 exact St.wk (hJ19 _ hm) (Wk.e)
 refine U.sks 1 29 true 50 hb27 rfl rfl rfl ?_
 refine U.r rfl (.take 26 false 47 _ rfl rfl rfl rfl) rfl rfl (by exact Rd.pk' rfl rfl hb27 rfl) ?_
 refine U.r rfl (.none rfl) rfl rfl (by exact Rd.pk' rfl rfl rfl rfl) ?_
 refine U.done ?_
 exact St.wk (hJ19 _ hm) (Wk.e)
 refine U.pg 2 17 false 38 hb26 T rfl rfl rfl rfl ?_
 refine U.r rfl (.none rfl) rfl rfl (by exact Rd.pk' rfl rfl hb26 rfl) ?_
 refine U.ps 1 T rfl ?_
 refine hm.cs (fun hb28 hm => ?_) (fun hb28 hm => ?_)
 refine U.sks 2 21 false 42 hb28 rfl rfl rfl ?_
 refine U.r rfl (.none rfl) rfl rfl (by exact Rd.pk rfl rfl hb28 rfl) ?_
 refine U.ps 2 T rfl ?_
 refine U.pg 3 26 false 47 rfl T rfl rfl rfl rfl ?_
 refine hm.cs (fun hb29 hm => ?_) (fun hb29 hm => ?_)
 refine U.pg 1 29 true 50 hb29 T rfl rfl rfl rfl ?_
 refine U.r rfl (.take 26 false 47 _ rfl rfl rfl rfl) rfl rfl (by exact Rd.pk rfl rfl hb29 rfl) ?_
 refine U.r rfl (.none rfl) rfl rfl (by exact Rd.pk' rfl rfl rfl rfl) ?_
 refine U.done ?_
 exact St.wk (hJ19 _ hm) (Wk.e)
 refine U.sks 1 29 true 50 hb29 rfl rfl rfl ?_
 refine U.r rfl (.take 26 false 47 _ rfl rfl rfl rfl) rfl rfl (by exact Rd.pk' rfl rfl hb29 rfl) ?_
 refine U.r rfl (.none rfl) rfl rfl (by exact Rd.pk' rfl rfl rfl rfl) ?_
 refine U.done ?_
 exact St.wk (hJ19 _ hm) (Wk.e)
 refine U.pg 2 21 false 42 hb28 T rfl rfl rfl rfl ?_
 refine U.r rfl (.none rfl) rfl rfl (by exact Rd.pk' rfl rfl hb28 rfl) ?_
 refine U.ps 2 T rfl ?_
 refine hm.cs (fun hb30 hm => ?_) (fun hb30 hm => ?_)
 refine U.pg 3 26 false 47 (ntF hb30) T rfl rfl rfl rfl ?_
 refine hm.cs (fun hb31 hm => ?_) (fun hb31 hm => ?_)
 refine U.pg 1 29 true 50 hb31 T rfl rfl rfl rfl ?_
 refine U.r rfl (.take 26 false 47 _ (ntF hb30) rfl rfl rfl) rfl rfl (by exact Rd.pk rfl rfl hb31 rfl) ?_
 refine U.r rfl (.none rfl) rfl rfl (by exact Rd.pk' rfl rfl (ntF hb30) rfl) ?_
 refine U.done ?_
 exact St.wk (hJ19 _ hm) (Wk.e)
 refine U.sks 1 29 true 50 hb31 rfl rfl rfl ?_
 refine U.r rfl (.take 26 false 47 _ (ntF hb30) rfl rfl rfl) rfl rfl (by exact Rd.pk' rfl rfl hb31 rfl) ?_
 refine U.r rfl (.none rfl) rfl rfl (by exact Rd.pk' rfl rfl (ntF hb30) rfl) ?_
 refine U.done ?_
 exact St.wk (hJ19 _ hm) (Wk.e)
 refine U.sks 3 26 false 47 (ntT hb30) rfl rfl rfl ?_
 refine U.sku 1 29 true 50 rfl rfl rfl ?_
 refine U.sks 1 26 false 47 (ntT hb30) rfl rfl rfl ?_
 refine U.r rfl (.none rfl) rfl rfl (by exact Rd.pk rfl rfl (ntT hb30) rfl) ?_
 refine U.done ?_
 exact St.wk (hJ19 _ hm) (Wk.e)
 refine U.sks 2 9 true 30 hb23 rfl rfl rfl ?_
 refine U.r rfl (.take 6 false 27 _ hb21 rfl rfl rfl) rfl rfl (by exact Rd.pk' rfl rfl hb23 rfl) ?_
 refine U.r rfl (.none rfl) rfl rfl (by exact Rd.pk' rfl rfl hb21 rfl) ?_
 refine U.ps 1 T rfl ?_
 refine U.pg 1 14 false 35 rfl T rfl rfl rfl rfl ?_
 refine U.r rfl (.none rfl) rfl rfl (by exact Rd.pk' rfl rfl rfl rfl) ?_
 refine U.ps 1 T rfl ?_
 refine hm.cs (fun hb32 hm => ?_) (fun hb32 hm => ?_)
 refine U.sks 2 17 false 38 hb32 rfl rfl rfl ?_
 refine U.r rfl (.none rfl) rfl rfl (by exact Rd.pk rfl rfl hb32 rfl) ?_
 refine U.ps 1 T rfl ?_
 refine U.sks 2 21 false 42 rfl rfl rfl rfl ?_
 refine U.r rfl (.none rfl) rfl rfl (by exact Rd.pk rfl rfl rfl rfl) ?_
 refine U.ps 2 T rfl ?_
 refine U.pg 3 26 false 47 rfl T rfl rfl rfl rfl ?_
 refine hm.cs (fun hb33 hm => ?_) (fun hb33 hm => ?_)
 refine U.pg 1 29 true 50 hb33 T rfl rfl rfl rfl ?_
 refine U.r rfl (.take 26 false 47 _ rfl rfl rfl rfl) rfl rfl (by exact Rd.pk rfl rfl hb33 rfl) ?_
 refine U.r rfl (.none rfl) rfl rfl (by exact Rd.pk' rfl rfl rfl rfl) ?_
 refine U.done ?_
 exact St.wk (hJ19 _ hm) (Wk.e)
 refine U.sks 1 29 true 50 hb33 rfl rfl rfl ?_
 refine U.r rfl (.take 26 false 47 _ rfl rfl rfl rfl) rfl rfl (by exact Rd.pk' rfl rfl hb33 rfl) ?_
 refine U.r rfl (.none rfl) rfl rfl (by exact Rd.pk' rfl rfl rfl rfl) ?_
 refine U.done ?_
 exact St.wk (hJ19 _ hm) (Wk.e)
 refine U.pg 2 17 false 38 hb32 T rfl rfl rfl rfl ?_
 refine U.r rfl (.none rfl) rfl rfl (by exact Rd.pk' rfl rfl hb32 rfl) ?_
 refine U.ps 1 T rfl ?_
 refine hm.cs (fun hb34 hm => ?_) (fun hb34 hm => ?_)
 refine U.sks 2 21 false 42 hb34 rfl rfl rfl ?_
 refine U.r rfl (.none rfl) rfl rfl (by exact Rd.pk rfl rfl hb34 rfl) ?_
 refine U.ps 2 T rfl ?_
 refine U.pg 3 26 false 47 rfl T rfl rfl rfl rfl ?_
 refine hm.cs (fun hb35 hm => ?_) (fun hb35 hm => ?_)
 refine U.pg 1 29 true 50 hb35 T rfl rfl rfl rfl ?_
 refine U.r rfl (.take 26 false 47 _ rfl rfl rfl rfl) rfl rfl (by exact Rd.pk rfl rfl hb35 rfl) ?_
 refine U.r rfl (.none rfl) rfl rfl (by exact Rd.pk' rfl rfl rfl rfl) ?_
 refine U.done ?_
 exact St.wk (hJ19 _ hm) (Wk.e)
 refine U.sks 1 29 true 50 hb35 rfl rfl rfl ?_
 refine U.r rfl (.take 26 false 47 _ rfl rfl rfl rfl) rfl rfl (by exact Rd.pk' rfl rfl hb35 rfl) ?_
 refine U.r rfl (.none rfl) rfl rfl (by exact Rd.pk' rfl rfl rfl rfl) ?_
 refine U.done ?_
 exact St.wk (hJ19 _ hm) (Wk.e)
 refine U.pg 2 21 false 42 hb34 T rfl rfl rfl rfl ?_
 refine U.r rfl (.none rfl) rfl rfl (by exact Rd.pk' rfl rfl hb34 rfl) ?_
 refine U.ps 2 T rfl ?_
 refine hm.cs (fun hb36 hm => ?_) (fun hb36 hm => ?_)
 refine U.pg 3 26 false 47 (ntF hb36) T rfl rfl rfl rfl ?_
 refine hm.cs (fun hb37 hm => ?_) (fun hb37 hm => ?_)
 refine U.pg 1 29 true 50 hb37 T rfl rfl rfl rfl ?_
 refine U.r rfl (.take 26 false 47 _ (ntF hb36) rfl rfl rfl) rfl rfl (by exact Rd.pk rfl rfl hb37 rfl) ?_
 refine U.r rfl (.none rfl) rfl rfl (by exact Rd.pk' rfl rfl (ntF hb36) rfl) ?_
 refine U.done ?_
 exact St.wk (hJ19 _ hm) (Wk.e)
 refine U.sks 1 29 true 50 hb37 rfl rfl rfl ?_
 refine U.r rfl (.take 26 false 47 _ (ntF hb36) rfl rfl rfl) rfl rfl (by exact Rd.pk' rfl rfl hb37 rfl) ?_
 refine U.r rfl (.none rfl) rfl rfl (by exact Rd.pk' rfl rfl (ntF hb36) rfl) ?_
 refine U.done ?_
 exact St.wk (hJ19 _ hm) (Wk.e)
 refine U.sks 3 26 false 47 (ntT hb36) rfl rfl rfl ?_
 refine U.sku 1 29 true 50 rfl rfl rfl ?_
 refine U.sks 1 26 false 47 (ntT hb36) rfl rfl rfl ?_
 refine U.r rfl (.none rfl) rfl rfl (by exact Rd.pk rfl rfl (ntT hb36) rfl) ?_
 refine U.done ?_
 exact St.wk (hJ19 _ hm) (Wk.e)
 refine U.sks 2 2 true 23 hb20 rfl rfl rfl ?_
 refine U.r rfl (.none rfl) rfl rfl (by exact Rd.pk' rfl rfl hb20 rfl) ?_
 refine U.ps 1 T rfl ?_
 refine U.pg 3 6 false 27 rfl T rfl rfl rfl rfl ?_
 refine hm.cs (fun hb38 hm => ?_) (fun hb38 hm => ?_)
 refine U.pg 2 9 true 30 hb38 T rfl rfl rfl rfl ?_
 refine U.r rfl (.take 6 false 27 _ rfl rfl rfl rfl) rfl rfl (by exact Rd.pk rfl rfl hb38 rfl) ?_
 refine U.r rfl (.none rfl) rfl rfl (by exact Rd.pk' rfl rfl rfl rfl) ?_
 refine U.ps 1 T rfl ?_
 refine hm.cs (fun hb39 hm => ?_) (fun hb39 hm => ?_)
 refine U.sks 1 14 false 35 hb39 rfl rfl rfl ?_
 refine U.r rfl (.none rfl) rfl rfl (by exact Rd.pk rfl rfl hb39 rfl) ?_
 refine U.ps 1 T rfl ?_
 refine U.sks 2 17 false 38 rfl rfl rfl rfl ?_
 refine U.r rfl (.none rfl) rfl rfl (by exact Rd.pk rfl rfl rfl rfl) ?_
 refine U.ps 1 T rfl ?_
 refine U.sks 2 21 false 42 rfl rfl rfl rfl ?_
 refine U.r rfl (.none rfl) rfl rfl (by exact Rd.pk rfl rfl rfl rfl) ?_
 refine U.ps 2 T rfl ?_
 refine U.pg 3 26 false 47 rfl T rfl rfl rfl rfl ?_
 refine hm.cs (fun hb40 hm => ?_) (fun hb40 hm => ?_)
 refine U.pg 1 29 true 50 hb40 T rfl rfl rfl rfl ?_
 refine U.r rfl (.take 26 false 47 _ rfl rfl rfl rfl) rfl rfl (by exact Rd.pk rfl rfl hb40 rfl) ?_
 refine U.r rfl (.none rfl) rfl rfl (by exact Rd.pk' rfl rfl rfl rfl) ?_
 refine U.done ?_
 exact St.wk (hJ19 _ hm) (Wk.e)
 refine U.sks 1 29 true 50 hb40 rfl rfl rfl ?_
 refine U.r rfl (.take 26 false 47 _ rfl rfl rfl rfl) rfl rfl (by exact Rd.pk' rfl rfl hb40 rfl) ?_
 refine U.r rfl (.none rfl) rfl rfl (by exact Rd.pk' rfl rfl rfl rfl) ?_
 refine U.done ?_
 exact St.wk (hJ19 _ hm) (Wk.e)
 refine U.pg 1 14 false 35 hb39 T rfl rfl rfl rfl ?_
 refine U.r rfl (.none rfl) rfl rfl (by exact Rd.pk' rfl rfl hb39 rfl) ?_
 refine U.ps 1 T rfl ?_
 refine hm.cs (fun hb41 hm => ?_) (fun hb41 hm => ?_)
 refine U.sks 2 17 false 38 hb41 rfl rfl rfl ?_
 refine U.r rfl (.none rfl) rfl rfl (by exact Rd.pk rfl rfl hb41 rfl) ?_
 refine U.ps 1 T rfl ?_
 refine U.sks 2 21 false 42 rfl rfl rfl rfl ?_
 refine U.r rfl (.none rfl) rfl rfl (by exact Rd.pk rfl rfl rfl rfl) ?_
 refine U.ps 2 T rfl ?_
 refine U.pg 3 26 false 47 rfl T rfl rfl rfl rfl ?_
 refine hm.cs (fun hb42 hm => ?_) (fun hb42 hm => ?_)
 refine U.pg 1 29 true 50 hb42 T rfl rfl rfl rfl ?_
 refine U.r rfl (.take 26 false 47 _ rfl rfl rfl rfl) rfl rfl (by exact Rd.pk rfl rfl hb42 rfl) ?_
 refine U.r rfl (.none rfl) rfl rfl (by exact Rd.pk' rfl rfl rfl rfl) ?_
 refine U.done ?_
 exact St.wk (hJ19 _ hm) (Wk.e)
 refine U.sks 1 29 true 50 hb42 rfl rfl rfl ?_
 refine U.r rfl (.take 26 false 47 _ rfl rfl rfl rfl) rfl rfl (by exact Rd.pk' rfl rfl hb42 rfl) ?_
 refine U.r rfl (.none rfl) rfl rfl (by exact Rd.pk' rfl rfl rfl rfl) ?_
 refine U.done ?_
 exact St.wk (hJ19 _ hm) (Wk.e)
 refine U.pg 2 17 false 38 hb41 T rfl rfl rfl rfl ?_
 refine U.r rfl (.none rfl) rfl rfl (by exact Rd.pk' rfl rfl hb41 rfl) ?_
 refine U.ps 1 T rfl ?_
 refine hm.cs (fun hb43 hm => ?_) (fun hb43 hm => ?_)
 refine U.sks 2 21 false 42 hb43 rfl rfl rfl ?_
 refine U.r rfl (.none rfl) rfl rfl (by exact Rd.pk rfl rfl hb43 rfl) ?_
 refine U.ps 2 T rfl ?_
 refine U.pg 3 26 false 47 rfl T rfl rfl rfl rfl ?_
 refine hm.cs (fun hb44 hm => ?_) (fun hb44 hm => ?_)
 refine U.pg 1 29 true 50 hb44 T rfl rfl rfl rfl ?_
 refine U.r rfl (.take 26 false 47 _ rfl rfl rfl rfl) rfl rfl (by exact Rd.pk rfl rfl hb44 rfl) ?_
 refine U.r rfl (.none rfl) rfl rfl (by exact Rd.pk' rfl rfl rfl rfl) ?_
 refine U.done ?_
 exact St.wk (hJ19 _ hm) (Wk.e)
 refine U.sks 1 29 true 50 hb44 rfl rfl rfl ?_
 refine U.r rfl (.take 26 false 47 _ rfl rfl rfl rfl) rfl rfl (by exact Rd.pk' rfl rfl hb44 rfl) ?_
 refine U.r rfl (.none rfl) rfl rfl (by exact Rd.pk' rfl rfl rfl rfl) ?_
 refine U.done ?_
 exact St.wk (hJ19 _ hm) (Wk.e)
 refine U.pg 2 21 false 42 hb43 T rfl rfl rfl rfl ?_
 refine U.r rfl (.none rfl) rfl rfl (by exact Rd.pk' rfl rfl hb43 rfl) ?_
 refine U.ps 2 T rfl ?_
 refine hm.cs (fun hb45 hm => ?_) (fun hb45 hm => ?_)
 refine U.pg 3 26 false 47 (ntF hb45) T rfl rfl rfl rfl ?_
 refine hm.cs (fun hb46 hm => ?_) (fun hb46 hm => ?_)
 refine U.pg 1 29 true 50 hb46 T rfl rfl rfl rfl ?_
 refine U.r rfl (.take 26 false 47 _ (ntF hb45) rfl rfl rfl) rfl rfl (by exact Rd.pk rfl rfl hb46 rfl) ?_
 refine U.r rfl (.none rfl) rfl rfl (by exact Rd.pk' rfl rfl (ntF hb45) rfl) ?_
 refine U.done ?_
 exact St.wk (hJ19 _ hm) (Wk.e)
 refine U.sks 1 29 true 50 hb46 rfl rfl rfl ?_
 refine U.r rfl (.take 26 false 47 _ (ntF hb45) rfl rfl rfl) rfl rfl (by exact Rd.pk' rfl rfl hb46 rfl) ?_
 refine U.r rfl (.none rfl) rfl rfl (by exact Rd.pk' rfl rfl (ntF hb45) rfl) ?_
 refine U.done ?_
 exact St.wk (hJ19 _ hm) (Wk.e)
 refine U.sks 3 26 false 47 (ntT hb45) rfl rfl rfl ?_
 refine U.sku 1 29 true 50 rfl rfl rfl ?_
 refine U.sks 1 26 false 47 (ntT hb45) rfl rfl rfl ?_
 refine U.r rfl (.none rfl) rfl rfl (by exact Rd.pk rfl rfl (ntT hb45) rfl) ?_
 refine U.done ?_
 exact St.wk (hJ19 _ hm) (Wk.e)
 refine U.sks 2 9 true 30 hb38 rfl rfl rfl ?_
 refine U.r rfl (.take 6 false 27 _ rfl rfl rfl rfl) rfl rfl (by exact Rd.pk' rfl rfl hb38 rfl) ?_
 refine U.r rfl (.none rfl) rfl rfl (by exact Rd.pk' rfl rfl rfl rfl) ?_
 refine U.ps 1 T rfl ?_
 refine U.pg 1 14 false 35 rfl T rfl rfl rfl rfl ?_
 refine U.r rfl (.none rfl) rfl rfl (by exact Rd.pk' rfl rfl rfl rfl) ?_
 refine U.ps 1 T rfl ?_
 refine hm.cs (fun hb47 hm => ?_) (fun hb47 hm => ?_)
 refine U.sks 2 17 false 38 hb47 rfl rfl rfl ?_
 refine U.r rfl (.none rfl) rfl rfl (by exact Rd.pk rfl rfl hb47 rfl) ?_
 refine U.ps 1 T rfl ?_
 refine U.sks 2 21 false 42 rfl rfl rfl rfl ?_
 refine U.r rfl (.none rfl) rfl rfl (by exact Rd.pk rfl rfl rfl rfl) ?_
 refine U.ps 2 T rfl ?_
 refine U.pg 3 26 false 47 rfl T rfl rfl rfl rfl ?_
 refine hm.cs (fun hb48 hm => ?_) (fun hb48 hm => ?_)
 refine U.pg 1 29 true 50 hb48 T rfl rfl rfl rfl ?_
 refine U.r rfl (.take 26 false 47 _ rfl rfl rfl rfl) rfl rfl (by exact Rd.pk rfl rfl hb48 rfl) ?_
 refine U.r rfl (.none rfl) rfl rfl (by exact Rd.pk' rfl rfl rfl rfl) ?_
 refine U.done ?_
 exact St.wk (hJ19 _ hm) (Wk.e)
 refine U.sks 1 29 true 50 hb48 rfl rfl rfl ?_
 refine U.r rfl (.take 26 false 47 _ rfl rfl rfl rfl) rfl rfl (by exact Rd.pk' rfl rfl hb48 rfl) ?_
 refine U.r rfl (.none rfl) rfl rfl (by exact Rd.pk' rfl rfl rfl rfl) ?_
 refine U.done ?_
 exact St.wk (hJ19 _ hm) (Wk.e)
 refine U.pg 2 17 false 38 hb47 T rfl rfl rfl rfl ?_
 refine U.r rfl (.none rfl) rfl rfl (by exact Rd.pk' rfl rfl hb47 rfl) ?_
 refine U.ps 1 T rfl ?_
 refine hm.cs (fun hb49 hm => ?_) (fun hb49 hm => ?_)
 refine U.sks 2 21 false 42 hb49 rfl rfl rfl ?_
 refine U.r rfl (.none rfl) rfl rfl (by exact Rd.pk rfl rfl hb49 rfl) ?_
 refine U.ps 2 T rfl ?_
 refine U.pg 3 26 false 47 rfl T rfl rfl rfl rfl ?_
 refine hm.cs (fun hb50 hm => ?_) (fun hb50 hm => ?_)
 refine U.pg 1 29 true 50 hb50 T rfl rfl rfl rfl ?_
 refine U.r rfl (.take 26 false 47 _ rfl rfl rfl rfl) rfl rfl (by exact Rd.pk rfl rfl hb50 rfl) ?_
 refine U.r rfl (.none rfl) rfl rfl (by exact Rd.pk' rfl rfl rfl rfl) ?_
 refine U.done ?_
 exact St.wk (hJ19 _ hm) (Wk.e)
 refine U.sks 1 29 true 50 hb50 rfl rfl rfl ?_
 refine U.r rfl (.take 26 false 47 _ rfl rfl rfl rfl) rfl rfl (by exact Rd.pk' rfl rfl hb50 rfl) ?_
 refine U.r rfl (.none rfl) rfl rfl (by exact Rd.pk' rfl rfl rfl rfl) ?_
 refine U.done ?_
 exact St.wk (hJ19 _ hm) (Wk.e)
 refine U.pg 2 21 false 42 hb49 T rfl rfl rfl rfl ?_
 refine U.r rfl (.none rfl) rfl rfl (by exact Rd.pk' rfl rfl hb49 rfl) ?_
 refine U.ps 2 T rfl ?_
 refine hm.cs (fun hb51 hm => ?_) (fun hb51 hm => ?_)
 refine U.pg 3 26 false 47 (ntF hb51) T rfl rfl rfl rfl ?_
 refine hm.cs (fun hb52 hm => ?_) (fun hb52 hm => ?_)
 refine U.pg 1 29 true 50 hb52 T rfl rfl rfl rfl ?_
 refine U.r rfl (.take 26 false 47 _ (ntF hb51) rfl rfl rfl) rfl rfl (by exact Rd.pk rfl rfl hb52 rfl) ?_
 refine U.r rfl (.none rfl) rfl rfl (by exact Rd.pk' rfl rfl (ntF hb51) rfl) ?_
 refine U.done ?_
 exact St.wk (hJ19 _ hm) (Wk.e)
 refine U.sks 1 29 true 50 hb52 rfl rfl rfl ?_
 refine U.r rfl (.take 26 false 47 _ (ntF hb51) rfl rfl rfl) rfl rfl (by exact Rd.pk' rfl rfl hb52 rfl) ?_
 refine U.r rfl (.none rfl) rfl rfl (by exact Rd.pk' rfl rfl (ntF hb51) rfl) ?_
 refine U.done ?_
 exact St.wk (hJ19 _ hm) (Wk.e)
 refine U.sks 3 26 false 47 (ntT hb51) rfl rfl rfl ?_
 refine U.sku 1 29 true 50 rfl rfl rfl ?_
 refine U.sks 1 26 false 47 (ntT hb51) rfl rfl rfl ?_
 refine U.r rfl (.none rfl) rfl rfl (by exact Rd.pk rfl rfl (ntT hb51) rfl) ?_
 refine U.done ?_
 exact St.wk (hJ19 _ hm) (Wk.e)
 refine U.start ?_
 refine U.ps 3 T rfl ?_
 refine hm.cs (fun hb17 hm => ?_) (fun hb17 hm => ?_)
 refine U.pg 2 2 true 17 hb17 T rfl rfl rfl rfl ?_
 refine U.r rfl (.none rfl) rfl rfl (by exact Rd.pk rfl rfl hb17 rfl) ?_
 refine U.ps 1 T rfl ?_
 refine U.done ?_
 exact St.wk (hJ16 _ hm) (Wk.e)
 refine U.sks 2 2 true 17 hb17 rfl rfl rfl ?_
 refine U.r rfl (.none rfl) rfl rfl (by exact Rd.pk' rfl rfl hb17 rfl) ?_
 refine U.ps 1 T rfl ?_
 refine U.done ?_
 exact St.wk (hJ16 _ hm) (Wk.e)
 refine C.exit (C.ex (C.ex (C.bex ?_)))
 exact St.wk (hJ6 _ hm) (Wk.e)
theorem T_taquinref11_named (l : List ApiZone) (name : ByteArray) (post : Int → Prop) (hm : V_taquinref11_named l name post) :
    Tr Tryz.prog 133 [.sl 5 eApiZone l, .v (.string name)] [] 0 (fun A H' k => ∃ y, post y ∧ A = (.i y) ∧ H' = [] ∧ k = 0) := by
 refine Tr.intro (n := 20) Tryz.func133 rfl Tryz.ntmps133 rfl (fun w0 ok F β hβ => ?_)
 unfold V_taquinref11_named at hm
 refine C.seq (U.start ?_)
 refine U.ps 1 T rfl ?_
 refine U.done (C.nx (C.seq (C.seq (U.start ?_))))
 refine U.ps 1 T rfl ?_
 refine U.done (C.nx ?_)
 refine C.jn (fun (x5 : Unit) => []) (fun (x5 : Unit) => []) 0 hm (fun x5 hm => ?_) (fun J6 hm hJ6 => ?_)
 refine C.nx (C.seq (U.start ?_))
 refine U.ps 1 T rfl ?_
 refine U.done (C.nx (C.ret ?_))
 exact C.f0 T (rs' := [.i (-1)]) hβ ⟨(-1), hm, rfl, rfl, rfl⟩
 refine C.block ?_
 refine St.wk (C.loop (fun (s7 : Int) => [(0, .sl 5 eApiZone l), (1, .v (.string name)), (5, .i s7)]) (fun (s7 : Int) => []) hm (fun s7 Y8 hm => ?_)) (Wk.e)
 refine C.seq (C.seq (U.start ?_))
 refine U.ps 4 T rfl ?_
 refine U.done (C.nx ?_)
 refine C.ite rfl hm (fun hb11 hm => ?_) (fun hb11 hm => ?_)
 refine C.skip (C.nx (C.seq (C.block (C.seq (U.start ?_)))))
 refine U.ps 2 T rfl ?_
 obtain ⟨x14, hx14, hm⟩ := hm
 refine U.r rfl (.none rfl) rfl rfl (by exact Rd.ix T rfl rfl rfl rfl rfl rfl hx14) ?_
 refine U.ps 4 T rfl ?_
 refine U.done (C.nx ?_)
 refine C.ite rfl hm (fun hb15 hm => ?_) (fun hb15 hm => ?_)
 refine C.seq (U.start ?_)
 refine U.ps 2 T rfl ?_
 refine U.done (C.nx (C.ret (C.brt (C.rt (C.rt (C.brt (C.rt ?_)))))))
 exact C.f0 T (rs' := [.i s7]) hβ ⟨s7, hm, rfl, rfl, rfl⟩
 refine C.skip (C.bnx (C.nx (U.start ?_)))
 refine U.ps 3 T rfl ?_
 refine U.done (C.nx ?_)
 exact St.wk (C.next hm) (Wk.e)
 refine C.exit (C.ex (C.ex (C.bex ?_)))
 exact St.wk (hJ6 _ hm) (Wk.mk' [] rfl rfl trivial trivial rfl)
theorem T_taquinref11_spans (l : List ApiSpan) (post : Bool → Prop) (hm : V_taquinref11_spans l post) :
    Tr Tryz.prog 134 [.sl 2 eApiSpan l] [] 0 (fun A H' k => ∃ y, post y ∧ A = (.b y) ∧ H' = [] ∧ k = 0) := by
 refine Tr.intro (n := 44) Tryz.func134 rfl Tryz.ntmps134 rfl (fun w0 ok F β hβ => ?_)
 unfold V_taquinref11_spans at hm
 refine C.seq (U.start ?_)
 refine U.ps 1 T rfl ?_
 refine U.done (C.nx (C.seq (U.start ?_)))
 refine U.ps 1 T rfl ?_
 refine U.done (C.nx (C.seq (C.seq (U.start ?_))))
 refine U.ps 1 T rfl ?_
 refine U.done (C.nx ?_)
 refine C.jn (fun (x7 : Unit) => []) (fun (x7 : Unit) => []) 0 hm (fun x7 hm => ?_) (fun J8 hm hJ8 => ?_)
 refine C.nx (C.seq (U.start ?_))
 refine U.ps 1 T rfl ?_
 refine U.done (C.nx (C.ret ?_))
 exact C.f0 T (rs' := [.b true]) hβ ⟨true, hm, rfl, rfl, rfl⟩
 refine C.block ?_
 refine St.wk (C.loop (fun (s9 : Int × Int) => [(0, .sl 2 eApiSpan l), (3, .i s9.1), (4, .i s9.2)]) (fun (s9 : Int × Int) => []) hm (fun s9 Y10 hm => ?_)) (Wk.e)
 refine C.seq (C.seq (U.start ?_))
 refine U.ps 4 T rfl ?_
 refine U.done (C.nx ?_)
 refine C.ite rfl hm (fun hb13 hm => ?_) (fun hb13 hm => ?_)
 refine C.skip (C.nx (C.seq (C.block (C.seq (C.seq ?_)))))
 refine C.jn (fun (x14 : Bool) => [(0, .sl 2 eApiSpan l), (4, .i s9.2), (38, .b x14)]) (fun (x14 : Bool) => []) 0 hm (fun x14 hm => ?_) (fun J15 hm hJ15 => ?_)
 refine C.nx ?_
 refine C.ite rfl hm (fun hb19 hm => ?_) (fun hb19 hm => ?_)
 refine C.seq (U.start ?_)
 refine U.ps 1 T rfl ?_
 refine U.done (C.nx (C.ret (C.rt (C.brt (C.rt (C.rt (C.brt (C.rt ?_))))))))
 exact C.f0 T (rs' := [.b false]) hβ ⟨false, hm, rfl, rfl, rfl⟩
 refine C.skip (C.nx (U.start ?_))
 refine U.ps 2 T rfl ?_
 obtain ⟨x24, hx24, hm⟩ := hm
 refine U.r rfl (.none rfl) rfl rfl (by exact Rd.ix T rfl rfl rfl rfl rfl rfl hx24) ?_
 refine U.ps 3 T rfl ?_
 refine U.done (C.bnx (C.nx (U.start ?_)))
 refine U.ps 3 T rfl ?_
 refine U.done (C.nx ?_)
 exact St.wk (C.next hm) (Wk.e)
 refine D.beg 9999 [] [] mix rfl rfl (by kernel_rfl) (by repeat (first | exact NoPanicQ.body | exact NoPanicQ.rnd | refine NoPanicQ.th ?_ | refine NoPanicQ.blk ?_)) (fun hQ hS ws M' => ?_)
 refine D.ps 2 [(0, []), (1, [])] rfl hQ hS T rfl rfl (by kernel_rfl) ?_
 obtain ⟨x16, hx16, hm⟩ := hm
 refine D.q 2 [] hQ hS rfl (.none rfl) rfl rfl (by exact Rd.ix T rfl rfl rfl rfl rfl rfl hx16) rfl (by kernel_rfl) ?_
 refine D.ps 5 [(3, []), (4, []), (5, []), (6, []), (7, [])] rfl hQ hS T rfl rfl (by kernel_rfl) ?_
 refine hm.cs (fun hb17 hm => ?_) (fun hb17 hm => ?_)
 refine D.sq 8 [] hQ hS rfl (.skip 7 false 18 _ hb17 rfl rfl rfl) rfl rfl (by kernel_rfl) ?_
 refine D.sq 9 [] hQ hS rfl (.skip 7 false 18 _ hb17 rfl rfl rfl) rfl rfl (by kernel_rfl) ?_
 refine D.sq 10 [] hQ hS rfl (.skip 7 false 18 _ hb17 rfl rfl rfl) rfl rfl (by kernel_rfl) ?_
 refine D.sq 11 [] hQ hS rfl (.skip 7 false 18 _ hb17 rfl rfl rfl) rfl rfl (by kernel_rfl) ?_
 refine D.sq 12 [] hQ hS rfl (.skip 7 false 18 _ hb17 rfl rfl rfl) rfl rfl (by kernel_rfl) ?_
 refine D.sq 13 [] hQ hS rfl (.skip 7 false 18 _ hb17 rfl rfl rfl) rfl rfl (by kernel_rfl) ?_
 refine D.sq 14 [] hQ hS rfl (.skip 7 false 18 _ hb17 rfl rfl rfl) rfl rfl (by kernel_rfl) ?_
 refine D.sq 15 [] hQ hS rfl (.skip 7 false 18 _ hb17 rfl rfl rfl) rfl rfl (by kernel_rfl) ?_
 refine D.sq 16 [] hQ hS rfl (.skip 7 false 18 _ hb17 rfl rfl rfl) rfl rfl (by kernel_rfl) ?_
 refine D.sq 17 [] hQ hS rfl (.skip 7 false 18 _ hb17 rfl rfl rfl) rfl rfl (by kernel_rfl) ?_
 refine D.sq 18 [] hQ hS rfl (.skip 7 false 18 _ hb17 rfl rfl rfl) rfl rfl (by kernel_rfl) ?_
 refine D.q 19 [] hQ hS rfl (.none rfl) rfl rfl (by exact Rd.pk rfl rfl hb17 rfl) rfl (by kernel_rfl) ?_
 refine D.ps 1 [(20, [])] rfl hQ hS T rfl rfl (by kernel_rfl) ?_
 refine D.sq 21 [] hQ hS rfl (.skip 20 false 31 _ rfl rfl rfl rfl) rfl rfl (by kernel_rfl) ?_
 refine D.sq 22 [] hQ hS rfl (.skip 20 false 31 _ rfl rfl rfl rfl) rfl rfl (by kernel_rfl) ?_
 refine D.sq 23 [] hQ hS rfl (.skip 20 false 31 _ rfl rfl rfl rfl) rfl rfl (by kernel_rfl) ?_
 refine D.sq 24 [] hQ hS rfl (.skip 20 false 31 _ rfl rfl rfl rfl) rfl rfl (by kernel_rfl) ?_
 refine D.sq 25 [] hQ hS rfl (.skip 20 false 31 _ rfl rfl rfl rfl) rfl rfl (by kernel_rfl) ?_
 refine D.sq 26 [] hQ hS rfl (.skip 20 false 31 _ rfl rfl rfl rfl) rfl rfl (by kernel_rfl) ?_
 refine D.q 27 [] hQ hS rfl (.none rfl) rfl rfl (by exact Rd.pk rfl rfl rfl rfl) rfl (by kernel_rfl) ?_
 refine D.done (by kernel_rfl) ?_
 exact St.wk (hJ15 _ hm) (Wk.e)
 refine D.q 8 [] hQ hS rfl (.take 7 false 18 _ hb17 rfl rfl rfl) rfl rfl (by exact Rd.p T rfl) rfl (by kernel_rfl) ?_
 refine D.q 9 [] hQ hS rfl (.take 7 false 18 _ hb17 rfl rfl rfl) rfl rfl (by exact Rd.p T rfl) rfl (by kernel_rfl) ?_
 refine D.q 10 [] hQ hS rfl (.take 7 false 18 _ hb17 rfl rfl rfl) rfl rfl (by exact Rd.ix T rfl rfl rfl rfl rfl rfl hx16) rfl (by kernel_rfl) ?_
 refine D.q 11 [] hQ hS rfl (.take 7 false 18 _ hb17 rfl rfl rfl) rfl rfl (by exact Rd.p T rfl) rfl (by kernel_rfl) ?_
 refine D.q 12 [] hQ hS rfl (.take 7 false 18 _ hb17 rfl rfl rfl) rfl rfl (by exact Rd.l T rfl rfl rfl) rfl (by kernel_rfl) ?_
 refine D.q 13 [] hQ hS rfl (.take 7 false 18 _ hb17 rfl rfl rfl) rfl rfl (by exact Rd.p T rfl) rfl (by kernel_rfl) ?_
 refine D.q 14 [] hQ hS rfl (.take 7 false 18 _ hb17 rfl rfl rfl) rfl rfl (by exact Rd.p T rfl) rfl (by kernel_rfl) ?_
 refine D.q 15 [] hQ hS rfl (.take 7 false 18 _ hb17 rfl rfl rfl) rfl rfl (by exact Rd.ix T rfl rfl rfl rfl rfl rfl hx16) rfl (by kernel_rfl) ?_
 refine D.q 16 [] hQ hS rfl (.take 7 false 18 _ hb17 rfl rfl rfl) rfl rfl (by exact Rd.p T rfl) rfl (by kernel_rfl) ?_
 refine D.q 17 [] hQ hS rfl (.take 7 false 18 _ hb17 rfl rfl rfl) rfl rfl (by exact Rd.l T rfl rfl rfl) rfl (by kernel_rfl) ?_
 refine D.q 18 [] hQ hS rfl (.take 7 false 18 _ hb17 rfl rfl rfl) rfl rfl (by exact Rd.p T rfl) rfl (by kernel_rfl) ?_
 refine D.q 19 [] hQ hS rfl (.none rfl) rfl rfl (by exact Rd.pk' rfl rfl hb17 rfl) rfl (by kernel_rfl) ?_
 refine D.ps 1 [(20, [])] rfl hQ hS T rfl rfl (by kernel_rfl) ?_
 refine hm.cs (fun hb18 hm => ?_) (fun hb18 hm => ?_)
 refine D.sq 21 [] hQ hS rfl (.skip 20 false 31 _ hb18 rfl rfl rfl) rfl rfl (by kernel_rfl) ?_
 refine D.sq 22 [] hQ hS rfl (.skip 20 false 31 _ hb18 rfl rfl rfl) rfl rfl (by kernel_rfl) ?_
 refine D.sq 23 [] hQ hS rfl (.skip 20 false 31 _ hb18 rfl rfl rfl) rfl rfl (by kernel_rfl) ?_
 refine D.sq 24 [] hQ hS rfl (.skip 20 false 31 _ hb18 rfl rfl rfl) rfl rfl (by kernel_rfl) ?_
 refine D.sq 25 [] hQ hS rfl (.skip 20 false 31 _ hb18 rfl rfl rfl) rfl rfl (by kernel_rfl) ?_
 refine D.sq 26 [] hQ hS rfl (.skip 20 false 31 _ hb18 rfl rfl rfl) rfl rfl (by kernel_rfl) ?_
 refine D.q 27 [] hQ hS rfl (.none rfl) rfl rfl (by exact Rd.pk rfl rfl hb18 rfl) rfl (by kernel_rfl) ?_
 refine D.done (by kernel_rfl) ?_
 exact St.wk (hJ15 _ hm) (Wk.e)
 refine D.q 21 [] hQ hS rfl (.take 20 false 31 _ hb18 rfl rfl rfl) rfl rfl (by exact Rd.p T rfl) rfl (by kernel_rfl) ?_
 refine D.q 22 [] hQ hS rfl (.take 20 false 31 _ hb18 rfl rfl rfl) rfl rfl (by exact Rd.p T rfl) rfl (by kernel_rfl) ?_
 refine D.q 23 [] hQ hS rfl (.take 20 false 31 _ hb18 rfl rfl rfl) rfl rfl (by exact Rd.ix T rfl rfl rfl rfl rfl rfl hx16) rfl (by kernel_rfl) ?_
 refine D.q 24 [] hQ hS rfl (.take 20 false 31 _ hb18 rfl rfl rfl) rfl rfl (by exact Rd.p T rfl) rfl (by kernel_rfl) ?_
 refine D.q 25 [] hQ hS rfl (.take 20 false 31 _ hb18 rfl rfl rfl) rfl rfl (by exact Rd.l T rfl rfl rfl) rfl (by kernel_rfl) ?_
 refine D.q 26 [] hQ hS rfl (.take 20 false 31 _ hb18 rfl rfl rfl) rfl rfl (by exact Rd.p T rfl) rfl (by kernel_rfl) ?_
 refine D.q 27 [] hQ hS rfl (.none rfl) rfl rfl (by exact Rd.pk' rfl rfl hb18 rfl) rfl (by kernel_rfl) ?_
 refine D.done (by kernel_rfl) ?_
 exact St.wk (hJ15 _ hm) (Wk.e)
 refine C.exit (C.ex (C.ex (C.bex ?_)))
 exact St.wk (hJ8 _ hm) (Wk.mk' [] rfl rfl trivial trivial rfl)
theorem T_taquinref07_Size (f : ApiFloor) (post : Int → Prop) (hm : V_taquinref07_Size f post) :
    Tr Tryz.prog 137 [.agg (eApiFloor f)] [] 0 (fun A H' k => ∃ y, post y ∧ A = (.i y) ∧ H' = [] ∧ k = 0) := by
 refine Tr.intro (n := 11) Tryz.func137 rfl Tryz.ntmps137 rfl (fun w0 ok F β hβ => ?_)
 unfold V_taquinref07_Size at hm
 refine C.seq (U.start ?_)
 refine U.e1 rfl (.none rfl) (by exact Eff1.box rfl rfl rfl rfl rfl) ?_
 refine U.ps 1 T rfl ?_
 refine U.done (C.nx (C.seq (U.start ?_)))
 refine U.ps 9 T rfl ?_
 refine U.done (C.nx (C.ret ?_))
 exact C.f0 T (rs' := [.i (w64 ((w64 (f.W * f.H)) * f.D))]) hβ ⟨w64 ((w64 (f.W * f.H)) * f.D), hm, rfl, rfl, rfl⟩
theorem T_taquinref07_Is (f : ApiFloor) (c : Int) (post : Bool → Prop) (hm : V_taquinref07_Is f c post) :
    Tr Tryz.prog 82 [.agg (eApiFloor f), .i c] [] 0 (fun A H' k => ∃ y, post y ∧ A = (.b y) ∧ H' = [] ∧ k = 0) := by
 refine Tr.intro (n := 13) Tryz.func82 rfl Tryz.ntmps82 rfl (fun w0 ok F β hβ => ?_)
 unfold V_taquinref07_Is at hm
 refine C.seq (U.start ?_)
 refine U.e1 rfl (.none rfl) (by exact Eff1.box rfl rfl rfl rfl rfl) ?_
 refine U.ps 1 T rfl ?_
 refine U.done (C.nx (C.seq ?_))
 refine C.jn (fun (x3 : Bool) => [(4, .b x3)]) (fun (x3 : Bool) => []) 0 hm (fun x3 hm => ?_) (fun J4 hm hJ4 => ?_)
 refine C.nx (C.ret ?_)
 exact C.f0 T (rs' := [.b x3]) hβ ⟨x3, hm, rfl, rfl, rfl⟩
 refine U.start ?_
 refine U.ps 3 T rfl ?_
 refine hm.cs (fun hb5 hm => ?_) (fun hb5 hm => ?_)
 refine U.pg 2 2 true 7 hb5 T rfl rfl rfl rfl ?_
 refine U.e rfl (.take 2 true 7 _ hb5 rfl rfl rfl) (by exact Eff.k (T_taquinref07_Size f _ hm) en137 rfl rfl rfl (.eq rfl) (fun _ _ => ⟨(.v _), trivial⟩)) (fun x6' hm => ?_)
 obtain ⟨x6⟩ := x6'
 refine U.pg 1 2 true 7 hb5 T rfl rfl rfl rfl ?_
 refine U.r rfl (.none rfl) rfl rfl (by exact Rd.pk rfl rfl hb5 rfl) ?_
 refine U.ps 1 T rfl ?_
 refine U.done ?_
 exact St.wk (hJ4 _ hm) (Wk.e)
 refine U.sks 4 2 true 7 hb5 rfl rfl rfl ?_
 refine U.r rfl (.none rfl) rfl rfl (by exact Rd.pk' rfl rfl hb5 rfl) ?_
 refine U.ps 1 T rfl ?_
 refine U.done ?_
 exact St.wk (hJ4 _ hm) (Wk.e)
theorem T_taquinref11_zoned (kind : Int) (post : Bool → Prop) (hm : V_taquinref11_zoned kind post) :
    Tr Tryz.prog 135 [.i kind] [] 0 (fun A H' k => ∃ y, post y ∧ A = (.b y) ∧ H' = [] ∧ k = 0) := by
 refine Tr.intro (n := 13) Tryz.func135 rfl Tryz.ntmps135 rfl (fun w0 ok F β hβ => ?_)
 unfold V_taquinref11_zoned at hm
 refine C.seq (U.start ?_)
 refine U.ps 1 T rfl ?_
 refine U.done (C.nx (C.seq ?_))
 refine C.jn (fun (x3 : Bool) => [(2, .b x3)]) (fun (x3 : Bool) => []) 0 hm (fun x3 hm => ?_) (fun J4 hm hJ4 => ?_)
 refine C.nx (C.ret ?_)
 exact C.f0 T (rs' := [.b x3]) hβ ⟨x3, hm, rfl, rfl, rfl⟩
 refine U.start ?_
 refine U.ps 3 T rfl ?_
 refine hm.cs (fun hb5 hm => ?_) (fun hb5 hm => ?_)
 refine U.pg 2 2 true 5 hb5 T rfl rfl rfl rfl ?_
 refine U.r rfl (.none rfl) rfl rfl (by exact Rd.pk rfl rfl hb5 rfl) ?_
 refine U.ps 1 T rfl ?_
 refine hm.cs (fun hb6 hm => ?_) (fun hb6 hm => ?_)
 refine U.pg 2 6 true 9 hb6 T rfl rfl rfl rfl ?_
 refine U.r rfl (.none rfl) rfl rfl (by exact Rd.pk rfl rfl hb6 rfl) ?_
 refine U.ps 1 T rfl ?_
 refine U.done ?_
 exact St.wk (hJ4 _ hm) (Wk.e)
 refine U.sks 2 6 true 9 hb6 rfl rfl rfl ?_
 refine U.r rfl (.none rfl) rfl rfl (by exact Rd.pk' rfl rfl hb6 rfl) ?_
 refine U.ps 1 T rfl ?_
 refine U.done ?_
 exact St.wk (hJ4 _ hm) (Wk.e)
 refine U.sks 2 2 true 5 hb5 rfl rfl rfl ?_
 refine U.r rfl (.none rfl) rfl rfl (by exact Rd.pk' rfl rfl hb5 rfl) ?_
 refine U.ps 1 T rfl ?_
 refine U.sks 2 6 true 9 rfl rfl rfl rfl ?_
 refine U.r rfl (.none rfl) rfl rfl (by exact Rd.pk' rfl rfl rfl rfl) ?_
 refine U.ps 1 T rfl ?_
 refine U.done ?_
 exact St.wk (hJ4 _ hm) (Wk.e)
theorem T_taquinref07_Has (l : List Int) (n : Int) (post : Bool → Prop) (hm : V_taquinref07_Has l n post) :
    Tr Tryz.prog 22 [.sl 1 eI l, .i n] [] 0 (fun A H' k => ∃ y, post y ∧ A = (.b y) ∧ H' = [] ∧ k = 0) := by
 refine Tr.intro (n := 18) Tryz.func22 rfl Tryz.ntmps22 rfl (fun w0 ok F β hβ => ?_)
 unfold V_taquinref07_Has at hm
 refine C.seq (U.start ?_)
 refine U.ps 1 T rfl ?_
 refine U.done (C.nx (C.seq (C.seq (U.start ?_))))
 refine U.ps 1 T rfl ?_
 refine U.done (C.nx ?_)
 refine C.jn (fun (x5 : Unit) => []) (fun (x5 : Unit) => []) 0 hm (fun x5 hm => ?_) (fun J6 hm hJ6 => ?_)
 refine C.nx (C.seq (U.start ?_))
 refine U.ps 1 T rfl ?_
 refine U.done (C.nx (C.ret ?_))
 exact C.f0 T (rs' := [.b false]) hβ ⟨false, hm, rfl, rfl, rfl⟩
 refine C.block ?_
 refine St.wk (C.loop (fun (s7 : Int) => [(0, .sl 1 eI l), (1, .i n), (5, .i s7)]) (fun (s7 : Int) => []) hm (fun s7 Y8 hm => ?_)) (Wk.e)
 refine C.seq (C.seq (U.start ?_))
 refine U.ps 4 T rfl ?_
 refine U.done (C.nx ?_)
 refine C.ite rfl hm (fun hb11 hm => ?_) (fun hb11 hm => ?_)
 refine C.skip (C.nx (C.seq (C.block (C.seq (U.start ?_)))))
 refine U.ps 2 T rfl ?_
 obtain ⟨x14, hx14, hm⟩ := hm
 refine U.r rfl (.none rfl) rfl rfl (by exact Rd.ix T rfl rfl rfl rfl rfl rfl hx14) ?_
 refine U.ps 3 T rfl ?_
 refine U.done (C.nx ?_)
 refine C.ite rfl hm (fun hb15 hm => ?_) (fun hb15 hm => ?_)
 refine C.seq (U.start ?_)
 refine U.ps 1 T rfl ?_
 refine U.done (C.nx (C.ret (C.brt (C.rt (C.rt (C.brt (C.rt ?_)))))))
 exact C.f0 T (rs' := [.b true]) hβ ⟨true, hm, rfl, rfl, rfl⟩
 refine C.skip (C.bnx (C.nx (U.start ?_)))
 refine U.ps 3 T rfl ?_
 refine U.done (C.nx ?_)
 exact St.wk (C.next hm) (Wk.e)
 refine C.exit (C.ex (C.ex (C.bex ?_)))
 exact St.wk (hJ6 _ hm) (Wk.mk' [] rfl rfl trivial trivial rfl)
theorem T_taquinref11_zoneAt (l : List ApiZone) (c : Int) (post : Bool → Prop) (hm : V_taquinref11_zoneAt l c post) :
    Tr Tryz.prog 136 [.sl 5 eApiZone l, .i c] [] 0 (fun A H' k => ∃ y, post y ∧ A = (.b y) ∧ H' = [] ∧ k = 0) := by
 refine Tr.intro (n := 19) Tryz.func136 rfl Tryz.ntmps136 rfl (fun w0 ok F β hβ => ?_)
 unfold V_taquinref11_zoneAt at hm
 refine C.seq (U.start ?_)
 refine U.ps 1 T rfl ?_
 refine U.done (C.nx (C.seq (C.seq (U.start ?_))))
 refine U.ps 1 T rfl ?_
 refine U.done (C.nx ?_)
 refine C.jn (fun (x5 : Unit) => []) (fun (x5 : Unit) => []) 0 hm (fun x5 hm => ?_) (fun J6 hm hJ6 => ?_)
 refine C.nx (C.seq (U.start ?_))
 refine U.ps 1 T rfl ?_
 refine U.done (C.nx (C.ret ?_))
 exact C.f0 T (rs' := [.b false]) hβ ⟨false, hm, rfl, rfl, rfl⟩
 refine C.block ?_
 refine St.wk (C.loop (fun (s7 : Int) => [(0, .sl 5 eApiZone l), (1, .i c), (5, .i s7)]) (fun (s7 : Int) => []) hm (fun s7 Y8 hm => ?_)) (Wk.e)
 refine C.seq (C.seq (U.start ?_))
 refine U.ps 4 T rfl ?_
 refine U.done (C.nx ?_)
 refine C.ite rfl hm (fun hb11 hm => ?_) (fun hb11 hm => ?_)
 refine C.skip (C.nx (C.seq (C.block (C.seq (U.start ?_)))))
 refine U.ps 2 T rfl ?_
 obtain ⟨x14, hx14, hm⟩ := hm
 refine U.r rfl (.none rfl) rfl rfl (by exact Rd.ix T rfl rfl rfl rfl rfl rfl hx14) ?_
 refine U.ps 3 T rfl ?_
 refine U.e rfl (.none rfl) (by exact Eff.k (T_taquinref07_Has x14.Cells c _ hm) en22 rfl rfl rfl (.eq rfl) (fun _ _ => ⟨(.v _), trivial⟩)) (fun x15' hm => ?_)
 obtain ⟨x15⟩ := x15'
 refine U.done (C.nx ?_)
 refine C.ite rfl hm (fun hb16 hm => ?_) (fun hb16 hm => ?_)
 refine C.seq (U.start ?_)
 refine U.ps 1 T rfl ?_
 refine U.done (C.nx (C.ret (C.brt (C.rt (C.rt (C.brt (C.rt ?_)))))))
 exact C.f0 T (rs' := [.b true]) hβ ⟨true, hm, rfl, rfl, rfl⟩
 refine C.skip (C.bnx (C.nx (U.start ?_)))
 refine U.ps 3 T rfl ?_
 refine U.done (C.nx ?_)
 exact St.wk (C.next hm) (Wk.e)
 refine C.exit (C.ex (C.ex (C.bex ?_)))
 exact St.wk (hJ6 _ hm) (Wk.mk' [] rfl rfl trivial trivial rfl)
theorem T_taquinref11_rightZones (s_1 : ApiSite) (post : Bool → Prop) (hm : V_taquinref11_rightZones s_1 post) :
    Tr Tryz.prog 79 [.agg (eApiSite s_1)] [] 0 (fun A H' k => ∃ y, post y ∧ A = (.b y) ∧ H' = [] ∧ k = 0) := by
 refine Tr.intro (n := 112) Tryz.func79 rfl Tryz.ntmps79 rfl (fun w0 ok F β hβ => ?_)
 unfold V_taquinref11_rightZones at hm
 refine C.seq (U.start ?_)
 refine U.e1 rfl (.none rfl) (by exact Eff1.box rfl rfl rfl rfl rfl) ?_
 refine U.ps 1 T rfl ?_
 refine U.done (C.nx (C.seq (C.seq (U.start ?_))))
 refine U.ps 1 T rfl ?_
 refine U.done (C.nx ?_)
 refine C.jn (fun (x5 : Unit) => [(1, .p 0 0)]) (fun (x5 : Unit) => [(0, .box (eApiSite s_1))]) 1 hm (fun x5 hm => ?_) (fun J6 hm hJ6 => ?_)
 refine C.nx (C.seq (U.start ?_))
 refine U.ps 5 T rfl ?_
 refine U.done (C.nx (C.ret ?_))
 exact C.f0 T (rs' := [.b (decide ((s_1.Zones.length : Int) ≤ 64))]) hβ ⟨decide ((s_1.Zones.length : Int) ≤ 64), hm, rfl, rfl, rfl⟩
 refine C.block ?_
 refine St.wk (C.loop (fun (s7 : Int) => [(1, .p 0 0), (3, .i s7)]) (fun (s7 : Int) => [(0, .box (eApiSite s_1))]) hm (fun s7 Y8 hm => ?_)) (Wk.f [some 0] ⟨bX, trivial⟩)
 refine C.seq (C.seq (U.start ?_))
 refine U.ps 5 T rfl ?_
 refine U.done (C.nx ?_)
 refine C.ite rfl hm (fun hb11 hm => ?_) (fun hb11 hm => ?_)
 refine C.skip (C.nx (C.seq ?_))
 refine C.jn (fun (x12 : Unit) => [(1, .p 0 0), (3, .i s7)]) (fun (x12 : Unit) => [(0, .box (eApiSite s_1))]) 1 hm (fun x12 hm => ?_) (fun J13 hm hJ13 => ?_)
 refine C.nx (U.start ?_)
 refine U.ps 3 T rfl ?_
 refine U.done (C.nx ?_)
 exact St.wk (C.next hm) (Wk.f [some 0] ⟨bX, trivial⟩)
 refine C.block (C.seq (U.start ?_))
 refine U.ps 3 T rfl ?_
 obtain ⟨x16, hx16, hm⟩ := hm
 refine U.r rfl (.none rfl) rfl rfl (by exact Rd.ix T rfl rfl rfl rfl rfl rfl hx16) ?_
 refine U.ps 1 T rfl ?_
 refine U.e1 rfl (.none rfl) (by exact Eff1.al T rfl rfl rfl rfl) ?_
 refine U.e1 rfl (.none rfl) (by exact Eff1.st T rfl rfl rfl rfl rfl rfl rfl rfl rfl rfl) ?_
 refine U.done (C.nx (C.seq (C.seq ?_)))
 refine C.jn (fun (x17 : Bool) => [(1, .p 0 0), (3, .i s7), (4, .p 1 0), (59, .b x17)]) (fun (x17 : Bool) => [(0, .box (eApiSite s_1)), (1, .box (eApiZone x16))]) 2 hm (fun x17 hm => ?_) (fun J18 hm hJ18 => ?_)
 refine C.nx ?_
 refine C.ite rfl hm (fun hb29 hm => ?_) (fun hb29 hm => ?_)
 refine C.seq (U.start ?_)
 refine U.ps 1 T rfl ?_
 refine U.done (C.nx (C.ret (C.rt (C.brt (C.rt (C.rt (C.brt (C.rt ?_))))))))
 exact C.f0 T (rs' := [.b false]) hβ ⟨false, hm, rfl, rfl, rfl⟩
 refine C.skip (C.nx (C.seq (U.start ?_)))
 refine U.ps 1 T rfl ?_
 refine U.done (C.nx ?_)
 refine C.jn (fun (x34 : Unit) => [(1, .p 0 0), (3, .i s7)]) (fun (x34 : Unit) => [(0, .box (eApiSite s_1))]) 1 hm (fun x34 hm => ?_) (fun J35 hm hJ35 => ?_)
 refine C.bnx ?_
 exact St.wk (hJ13 _ hm) (Wk.f [some 0] ⟨bX, trivial⟩)
 refine C.block ?_
 refine St.wk (C.loop (fun (s36 : Int) => [(1, .p 0 0), (3, .i s7), (4, .p 1 0), (5, .i s36)]) (fun (s36 : Int) => [(0, .box (eApiSite s_1)), (1, .box (eApiZone x16))]) hm (fun s36 Y37 hm => ?_)) (Wk.f [some 0, some 1] ⟨bX, bX, trivial⟩)
 refine C.seq (C.seq (U.start ?_))
 refine U.ps 5 T rfl ?_
 refine U.done (C.nx ?_)
 refine C.ite rfl hm (fun hb40 hm => ?_) (fun hb40 hm => ?_)
 refine C.skip (C.nx (C.seq (C.block (C.seq (U.start ?_)))))
 refine U.ps 3 T rfl ?_
 obtain ⟨x43, hx43, hm⟩ := hm
 refine U.r rfl (.none rfl) rfl rfl (by exact Rd.ix T rfl rfl rfl rfl rfl rfl hx43) ?_
 refine U.ps 2 T rfl ?_
 refine U.done (C.nx (C.seq (C.seq ?_)))
 refine C.jn (fun (x44 : Bool) => [(1, .p 0 0), (3, .i s7), (4, .p 1 0), (5, .i s36), (6, .i x43), (91, .b x44)]) (fun (x44 : Bool) => [(0, .box (eApiSite s_1)), (1, .box (eApiZone x16))]) 2 hm (fun x44 hm => ?_) (fun J45 hm hJ45 => ?_)
 refine C.nx ?_
 refine C.ite rfl hm (fun hb50 hm => ?_) (fun hb50 hm => ?_)
 refine C.seq (U.start ?_)
 refine U.ps 1 T rfl ?_
 refine U.done (C.nx (C.ret (C.rt (C.brt (C.rt (C.rt (C.brt (C.brt (C.rt (C.rt (C.brt (C.rt ?_))))))))))))
 exact C.f0 T (rs' := [.b false]) hβ ⟨false, hm, rfl, rfl, rfl⟩
 refine C.skip (C.nx (C.seq ?_))
 refine C.jn (fun (x53 : Bool) => [(1, .p 0 0), (3, .i s7), (4, .p 1 0), (5, .i s36), (107, .b x53)]) (fun (x53 : Bool) => [(0, .box (eApiSite s_1)), (1, .box (eApiZone x16))]) 2 hm (fun x53 hm => ?_) (fun J54 hm hJ54 => ?_)
 refine C.nx ?_
 refine C.ite rfl hm (fun hb60 hm => ?_) (fun hb60 hm => ?_)
 refine C.seq (U.start ?_)
 refine U.ps 1 T rfl ?_
 refine U.done (C.nx (C.ret (C.brt (C.rt (C.rt (C.brt (C.brt (C.rt (C.rt (C.brt (C.rt ?_)))))))))))
 exact C.f0 T (rs' := [.b false]) hβ ⟨false, hm, rfl, rfl, rfl⟩
 refine C.skip (C.bnx (C.nx (U.start ?_)))
 refine U.ps 3 T rfl ?_
 refine U.done (C.nx ?_)
 exact St.wk (C.next hm) (Wk.f [some 0, some 1] ⟨bX, bX, trivial⟩)
 refine U.start ?_
 refine U.ps 4 T rfl ?_
 obtain ⟨x55, hx55, hm⟩ := hm
 refine U.r rfl (.none rfl) rfl rfl (by exact Rd.ix T rfl rfl rfl rfl rfl rfl hx55) ?_
 refine U.ps 1 T rfl ?_
 refine U.e rfl (.none rfl) (by exact Eff.k (T_taquinref11_zoned x55 _ hm) en135 rfl rfl rfl (.eq rfl) (fun _ _ => ⟨(.v _), trivial⟩)) (fun x56' hm => ?_)
 obtain ⟨x56⟩ := x56'
 refine U.ps 2 T rfl ?_
 refine hm.cs (fun hb57 hm => ?_) (fun hb57 hm => ?_)
 refine U.pg 3 8 false 100 (ntF hb57) T rfl rfl rfl rfl ?_
 obtain ⟨hx58, hm⟩ := hm
 refine U.r rfl (.take 8 false 100 _ (ntF hb57) rfl rfl rfl) rfl rfl (by exact Rd.so T rfl rfl rfl rfl rfl (.none _) (.some _ rfl) hx58) ?_
 refine U.pg 1 8 false 100 (ntF hb57) T rfl rfl rfl rfl ?_
 refine U.e rfl (.take 8 false 100 _ (ntF hb57) rfl rfl rfl) (by exact Eff.k (T_taquinref11_zoneAt (sub s_1.Zones 0 s7) x43 _ hm) en136 rfl rfl rfl (.eq rfl) (fun _ _ => ⟨(.v _), trivial⟩)) (fun x59' hm => ?_)
 obtain ⟨x59⟩ := x59'
 refine U.r rfl (.none rfl) rfl rfl (by exact Rd.pk' rfl rfl (ntF hb57) rfl) ?_
 refine U.done ?_
 exact St.wk (hJ54 _ hm) (Wk.f [some 0, some 1] ⟨bX, bX, trivial⟩)
 refine U.sks 6 8 false 100 (ntT hb57) rfl rfl rfl ?_
 refine U.r rfl (.none rfl) rfl rfl (by exact Rd.pk rfl rfl (ntT hb57) rfl) ?_
 refine U.done ?_
 exact St.wk (hJ54 _ hm) (Wk.f [some 0, some 1] ⟨bX, bX, trivial⟩)
 refine U.start ?_
 refine U.ps 3 T rfl ?_
 refine U.e rfl (.none rfl) (by exact Eff.k (T_taquinref07_Is s_1.Floor x43 _ hm) en82 rfl rfl rfl (.eq rfl) (fun _ _ => ⟨(.v _), trivial⟩)) (fun x46' hm => ?_)
 obtain ⟨x46⟩ := x46'
 refine U.ps 2 T rfl ?_
 refine hm.cs (fun hb47 hm => ?_) (fun hb47 hm => ?_)
 refine U.pg 3 5 false 77 (ntF hb47) T rfl rfl rfl rfl ?_
 refine hm.cs (fun hb48 hm => ?_) (fun hb48 hm => ?_)
 refine U.pg 5 8 true 80 hb48 T rfl rfl rfl rfl ?_
 obtain ⟨x49, hx49, hm⟩ := hm
 refine U.r rfl (.take 8 true 80 _ hb48 rfl rfl rfl) rfl rfl (by exact Rd.ix T rfl rfl rfl rfl rfl rfl hx49) ?_
 refine U.pg 3 8 true 80 hb48 T rfl rfl rfl rfl ?_
 refine U.r rfl (.take 5 false 77 _ (ntF hb47) rfl rfl rfl) rfl rfl (by exact Rd.pk rfl rfl hb48 rfl) ?_
 refine U.r rfl (.none rfl) rfl rfl (by exact Rd.pk' rfl rfl (ntF hb47) rfl) ?_
 refine U.done ?_
 exact St.wk (hJ45 _ hm) (Wk.f [some 0, some 1] ⟨bX, bX, trivial⟩)
 refine U.sks 9 8 true 80 hb48 rfl rfl rfl ?_
 refine U.r rfl (.take 5 false 77 _ (ntF hb47) rfl rfl rfl) rfl rfl (by exact Rd.pk' rfl rfl hb48 rfl) ?_
 refine U.r rfl (.none rfl) rfl rfl (by exact Rd.pk' rfl rfl (ntF hb47) rfl) ?_
 refine U.done ?_
 exact St.wk (hJ45 _ hm) (Wk.f [some 0, some 1] ⟨bX, bX, trivial⟩)
 refine U.sks 3 5 false 77 (ntT hb47) rfl rfl rfl ?_
 refine U.sku 9 8 true 80 rfl rfl rfl ?_
 refine U.sks 1 5 false 77 (ntT hb47) rfl rfl rfl ?_
 refine U.r rfl (.none rfl) rfl rfl (by exact Rd.pk rfl rfl (ntT hb47) rfl) ?_
 refine U.done ?_
 exact St.wk (hJ45 _ hm) (Wk.f [some 0, some 1] ⟨bX, bX, trivial⟩)
 refine C.exit (C.ex (C.ex (C.bex ?_)))
 exact St.wk (hJ35 _ hm) (Wk.f [some 0] ⟨bX, trivial⟩)
 refine D.beg 9999 [0, 1] [] mix rfl rfl (by kernel_rfl) (by repeat (first | exact NoPanicQ.body | exact NoPanicQ.rnd | refine NoPanicQ.th ?_ | refine NoPanicQ.blk ?_)) (fun hQ hS ws M' => ?_)
 refine D.ps 2 [(0, []), (1, [])] rfl hQ hS T rfl rfl (by kernel_rfl) ?_
 refine D.e 2 rfl (.none rfl) (by exact Eff.k (T_taquinref11_Name x16.Name _ hm) en80 rfl rfl rfl (.eq rfl) (fun _ _ => ⟨(.v _), trivial⟩)) (by kernel_rfl) rfl rfl (fun x19' hm => ?_)
 obtain ⟨x19⟩ := x19'
 refine D.ps 2 [(3, []), (4, [])] rfl hQ hS T rfl rfl (by kernel_rfl) ?_
 refine hm.cs (fun hb20 hm => ?_) (fun hb20 hm => ?_)
 refine D.q 5 [] hQ hS rfl (.take 4 false 23 _ (ntF hb20) rfl rfl rfl) rfl rfl (by exact Rd.p T rfl) rfl (by kernel_rfl) ?_
 refine D.q 6 [] hQ hS rfl (.take 4 false 23 _ (ntF hb20) rfl rfl rfl) rfl rfl (by exact Rd.l T rfl rfl rfl) rfl (by kernel_rfl) ?_
 refine D.q 7 [] hQ hS rfl (.take 4 false 23 _ (ntF hb20) rfl rfl rfl) rfl rfl (by exact Rd.p T rfl) rfl (by kernel_rfl) ?_
 obtain ⟨hx21, hm⟩ := hm
 refine D.q 8 [] hQ hS rfl (.take 4 false 23 _ (ntF hb20) rfl rfl rfl) rfl rfl (by exact Rd.so T rfl rfl rfl rfl rfl (.none _) (.some _ rfl) hx21) rfl (by kernel_rfl) ?_
 refine D.q 9 [] hQ hS rfl (.take 4 false 23 _ (ntF hb20) rfl rfl rfl) rfl rfl (by exact Rd.p T rfl) rfl (by kernel_rfl) ?_
 refine D.q 10 [] hQ hS rfl (.take 4 false 23 _ (ntF hb20) rfl rfl rfl) rfl rfl (by exact Rd.l T rfl rfl rfl) rfl (by kernel_rfl) ?_
 refine D.e 11 rfl (.take 4 false 23 _ (ntF hb20) rfl rfl rfl) (by exact Eff.k (T_taquinref11_named (sub s_1.Zones 0 s7) x16.Name _ hm) en133 rfl rfl rfl (.eq rfl) (fun _ _ => ⟨(.v _), trivial⟩)) (by kernel_rfl) rfl rfl (fun x22' hm => ?_)
 obtain ⟨x22⟩ := x22'
 refine D.q 12 [] hQ hS rfl (.take 4 false 23 _ (ntF hb20) rfl rfl rfl) rfl rfl (by exact Rd.p T rfl) rfl (by kernel_rfl) ?_
 refine D.q 13 [] hQ hS rfl (.none rfl) rfl rfl (by exact Rd.pk' rfl rfl (ntF hb20) rfl) rfl (by kernel_rfl) ?_
 refine D.ps 1 [(14, [])] rfl hQ hS T rfl rfl (by kernel_rfl) ?_
 refine hm.cs (fun hb23 hm => ?_) (fun hb23 hm => ?_)
 refine D.sq 15 [] hQ hS rfl (.skip 14 false 33 _ hb23 rfl rfl rfl) rfl rfl (by kernel_rfl) ?_
 refine D.sq 16 [] hQ hS rfl (.skip 14 false 33 _ hb23 rfl rfl rfl) rfl rfl (by kernel_rfl) ?_
 refine D.sq 17 [] hQ hS rfl (.skip 14 false 33 _ hb23 rfl rfl rfl) rfl rfl (by kernel_rfl) ?_
 refine D.sq 18 [] hQ hS rfl (.skip 14 false 33 _ hb23 rfl rfl rfl) rfl rfl (by kernel_rfl) ?_
 refine D.q 19 [] hQ hS rfl (.none rfl) rfl rfl (by exact Rd.pk rfl rfl hb23 rfl) rfl (by kernel_rfl) ?_
 refine D.ps 1 [(20, [])] rfl hQ hS T rfl rfl (by kernel_rfl) ?_
 refine D.sq 21 [] hQ hS rfl (.skip 20 false 39 _ rfl rfl rfl rfl) rfl rfl (by kernel_rfl) ?_
 refine D.sq 22 [] hQ hS rfl (.skip 20 false 39 _ rfl rfl rfl rfl) rfl rfl (by kernel_rfl) ?_
 refine D.sq 23 [] hQ hS rfl (.skip 20 false 39 _ rfl rfl rfl rfl) rfl rfl (by kernel_rfl) ?_
 refine D.q 24 [] hQ hS rfl (.none rfl) rfl rfl (by exact Rd.pk rfl rfl rfl rfl) rfl (by kernel_rfl) ?_
 refine D.ps 1 [(25, [])] rfl hQ hS T rfl rfl (by kernel_rfl) ?_
 refine D.sq 26 [] hQ hS rfl (.skip 25 false 44 _ rfl rfl rfl rfl) rfl rfl (by kernel_rfl) ?_
 refine D.sq 27 [] hQ hS rfl (.skip 25 false 44 _ rfl rfl rfl rfl) rfl rfl (by kernel_rfl) ?_
 refine D.sq 28 [] hQ hS rfl (.skip 25 false 44 _ rfl rfl rfl rfl) rfl rfl (by kernel_rfl) ?_
 refine D.q 29 [] hQ hS rfl (.none rfl) rfl rfl (by exact Rd.pk rfl rfl rfl rfl) rfl (by kernel_rfl) ?_
 refine D.ps 1 [(30, [])] rfl hQ hS T rfl rfl (by kernel_rfl) ?_
 refine D.sq 31 [] hQ hS rfl (.skip 30 false 49 _ rfl rfl rfl rfl) rfl rfl (by kernel_rfl) ?_
 refine D.sq 32 [] hQ hS rfl (.skip 30 false 49 _ rfl rfl rfl rfl) rfl rfl (by kernel_rfl) ?_
 refine D.sq 33 [] hQ hS rfl (.skip 30 false 49 _ rfl rfl rfl rfl) rfl rfl (by kernel_rfl) ?_
 refine D.q 34 [] hQ hS rfl (.none rfl) rfl rfl (by exact Rd.pk rfl rfl rfl rfl) rfl (by kernel_rfl) ?_
 refine D.ps 1 [(35, [])] rfl hQ hS T rfl rfl (by kernel_rfl) ?_
 refine D.sq 36 [] hQ hS rfl (.skip 35 false 54 _ rfl rfl rfl rfl) rfl rfl (by kernel_rfl) ?_
 refine D.sq 37 [] hQ hS rfl (.skip 35 false 54 _ rfl rfl rfl rfl) rfl rfl (by kernel_rfl) ?_
 refine D.sq 38 [] hQ hS rfl (.skip 35 false 54 _ rfl rfl rfl rfl) rfl rfl (by kernel_rfl) ?_
 refine D.sq 39 [] hQ hS rfl (.skip 35 false 54 _ rfl rfl rfl rfl) rfl rfl (by kernel_rfl) ?_
 refine D.q 40 [] hQ hS rfl (.none rfl) rfl rfl (by exact Rd.pk rfl rfl rfl rfl) rfl (by kernel_rfl) ?_
 refine D.done (by kernel_rfl) ?_
 exact St.wk (hJ18 _ hm) (Wk.f [some 0, some 1] ⟨bX, bX, trivial⟩)
 refine D.q 15 [] hQ hS rfl (.take 14 false 33 _ hb23 rfl rfl rfl) rfl rfl (by exact Rd.p T rfl) rfl (by kernel_rfl) ?_
 refine D.q 16 [] hQ hS rfl (.take 14 false 33 _ hb23 rfl rfl rfl) rfl rfl (by exact Rd.l T rfl rfl rfl) rfl (by kernel_rfl) ?_
 refine D.q 17 [] hQ hS rfl (.take 14 false 33 _ hb23 rfl rfl rfl) rfl rfl (by exact Rd.p T rfl) rfl (by kernel_rfl) ?_
 refine D.q 18 [] hQ hS rfl (.take 14 false 33 _ hb23 rfl rfl rfl) rfl rfl (by exact Rd.p T rfl) rfl (by kernel_rfl) ?_
 refine D.q 19 [] hQ hS rfl (.none rfl) rfl rfl (by exact Rd.pk' rfl rfl hb23 rfl) rfl (by kernel_rfl) ?_
 refine D.ps 1 [(20, [])] rfl hQ hS T rfl rfl (by kernel_rfl) ?_
 refine hm.cs (fun hb24 hm => ?_) (fun hb24 hm => ?_)
 refine D.sq 21 [] hQ hS rfl (.skip 20 false 39 _ hb24 rfl rfl rfl) rfl rfl (by kernel_rfl) ?_
 refine D.sq 22 [] hQ hS rfl (.skip 20 false 39 _ hb24 rfl rfl rfl) rfl rfl (by kernel_rfl) ?_
 refine D.sq 23 [] hQ hS rfl (.skip 20 false 39 _ hb24 rfl rfl rfl) rfl rfl (by kernel_rfl) ?_
 refine D.q 24 [] hQ hS rfl (.none rfl) rfl rfl (by exact Rd.pk rfl rfl hb24 rfl) rfl (by kernel_rfl) ?_
 refine D.ps 1 [(25, [])] rfl hQ hS T rfl rfl (by kernel_rfl) ?_
 refine D.sq 26 [] hQ hS rfl (.skip 25 false 44 _ rfl rfl rfl rfl) rfl rfl (by kernel_rfl) ?_
 refine D.sq 27 [] hQ hS rfl (.skip 25 false 44 _ rfl rfl rfl rfl) rfl rfl (by kernel_rfl) ?_
 refine D.sq 28 [] hQ hS rfl (.skip 25 false 44 _ rfl rfl rfl rfl) rfl rfl (by kernel_rfl) ?_
 refine D.q 29 [] hQ hS rfl (.none rfl) rfl rfl (by exact Rd.pk rfl rfl rfl rfl) rfl (by kernel_rfl) ?_
 refine D.ps 1 [(30, [])] rfl hQ hS T rfl rfl (by kernel_rfl) ?_
 refine D.sq 31 [] hQ hS rfl (.skip 30 false 49 _ rfl rfl rfl rfl) rfl rfl (by kernel_rfl) ?_
 refine D.sq 32 [] hQ hS rfl (.skip 30 false 49 _ rfl rfl rfl rfl) rfl rfl (by kernel_rfl) ?_
 refine D.sq 33 [] hQ hS rfl (.skip 30 false 49 _ rfl rfl rfl rfl) rfl rfl (by kernel_rfl) ?_
 refine D.q 34 [] hQ hS rfl (.none rfl) rfl rfl (by exact Rd.pk rfl rfl rfl rfl) rfl (by kernel_rfl) ?_
 refine D.ps 1 [(35, [])] rfl hQ hS T rfl rfl (by kernel_rfl) ?_
 refine D.sq 36 [] hQ hS rfl (.skip 35 false 54 _ rfl rfl rfl rfl) rfl rfl (by kernel_rfl) ?_
 refine D.sq 37 [] hQ hS rfl (.skip 35 false 54 _ rfl rfl rfl rfl) rfl rfl (by kernel_rfl) ?_
 refine D.sq 38 [] hQ hS rfl (.skip 35 false 54 _ rfl rfl rfl rfl) rfl rfl (by kernel_rfl) ?_
 refine D.sq 39 [] hQ hS rfl (.skip 35 false 54 _ rfl rfl rfl rfl) rfl rfl (by kernel_rfl) ?_
 refine D.q 40 [] hQ hS rfl (.none rfl) rfl rfl (by exact Rd.pk rfl rfl rfl rfl) rfl (by kernel_rfl) ?_
 refine D.done (by kernel_rfl) ?_
 exact St.wk (hJ18 _ hm) (Wk.f [some 0, some 1] ⟨bX, bX, trivial⟩)
 refine D.q 21 [] hQ hS rfl (.take 20 false 39 _ hb24 rfl rfl rfl) rfl rfl (by exact Rd.p T rfl) rfl (by kernel_rfl) ?_
 refine D.q 22 [] hQ hS rfl (.take 20 false 39 _ hb24 rfl rfl rfl) rfl rfl (by exact Rd.l T rfl rfl rfl) rfl (by kernel_rfl) ?_
 refine D.q 23 [] hQ hS rfl (.take 20 false 39 _ hb24 rfl rfl rfl) rfl rfl (by exact Rd.p T rfl) rfl (by kernel_rfl) ?_
 refine D.q 24 [] hQ hS rfl (.none rfl) rfl rfl (by exact Rd.pk' rfl rfl hb24 rfl) rfl (by kernel_rfl) ?_
 refine D.ps 1 [(25, [])] rfl hQ hS T rfl rfl (by kernel_rfl) ?_
 refine hm.cs (fun hb25 hm => ?_) (fun hb25 hm => ?_)
 refine D.sq 26 [] hQ hS rfl (.skip 25 false 44 _ hb25 rfl rfl rfl) rfl rfl (by kernel_rfl) ?_
 refine D.sq 27 [] hQ hS rfl (.skip 25 false 44 _ hb25 rfl rfl rfl) rfl rfl (by kernel_rfl) ?_
 refine D.sq 28 [] hQ hS rfl (.skip 25 false 44 _ hb25 rfl rfl rfl) rfl rfl (by kernel_rfl) ?_
 refine D.q 29 [] hQ hS rfl (.none rfl) rfl rfl (by exact Rd.pk rfl rfl hb25 rfl) rfl (by kernel_rfl) ?_
 refine D.ps 1 [(30, [])] rfl hQ hS T rfl rfl (by kernel_rfl) ?_
 refine D.sq 31 [] hQ hS rfl (.skip 30 false 49 _ rfl rfl rfl rfl) rfl rfl (by kernel_rfl) ?_
 refine D.sq 32 [] hQ hS rfl (.skip 30 false 49 _ rfl rfl rfl rfl) rfl rfl (by kernel_rfl) ?_
 refine D.sq 33 [] hQ hS rfl (.skip 30 false 49 _ rfl rfl rfl rfl) rfl rfl (by kernel_rfl) ?_
 refine D.q 34 [] hQ hS rfl (.none rfl) rfl rfl (by exact Rd.pk rfl rfl rfl rfl) rfl (by kernel_rfl) ?_
 refine D.ps 1 [(35, [])] rfl hQ hS T rfl rfl (by kernel_rfl) ?_
 refine D.sq 36 [] hQ hS rfl (.skip 35 false 54 _ rfl rfl rfl rfl) rfl rfl (by kernel_rfl) ?_
 refine D.sq 37 [] hQ hS rfl (.skip 35 false 54 _ rfl rfl rfl rfl) rfl rfl (by kernel_rfl) ?_
 refine D.sq 38 [] hQ hS rfl (.skip 35 false 54 _ rfl rfl rfl rfl) rfl rfl (by kernel_rfl) ?_
 refine D.sq 39 [] hQ hS rfl (.skip 35 false 54 _ rfl rfl rfl rfl) rfl rfl (by kernel_rfl) ?_
 refine D.q 40 [] hQ hS rfl (.none rfl) rfl rfl (by exact Rd.pk rfl rfl rfl rfl) rfl (by kernel_rfl) ?_
 refine D.done (by kernel_rfl) ?_
 exact St.wk (hJ18 _ hm) (Wk.f [some 0, some 1] ⟨bX, bX, trivial⟩)
 refine D.q 26 [] hQ hS rfl (.take 25 false 44 _ hb25 rfl rfl rfl) rfl rfl (by exact Rd.p T rfl) rfl (by kernel_rfl) ?_
 refine D.q 27 [] hQ hS rfl (.take 25 false 44 _ hb25 rfl rfl rfl) rfl rfl (by exact Rd.l T rfl rfl rfl) rfl (by kernel_rfl) ?_
 refine D.q 28 [] hQ hS rfl (.take 25 false 44 _ hb25 rfl rfl rfl) rfl rfl (by exact Rd.p T rfl) rfl (by kernel_rfl) ?_
 refine D.q 29 [] hQ hS rfl (.none rfl) rfl rfl (by exact Rd.pk' rfl rfl hb25 rfl) rfl (by kernel_rfl) ?_
 refine D.ps 1 [(30, [])] rfl hQ hS T rfl rfl (by kernel_rfl) ?_
 refine hm.cs (fun hb26 hm => ?_) (fun hb26 hm => ?_)
 refine D.sq 31 [] hQ hS rfl (.skip 30 false 49 _ hb26 rfl rfl rfl) rfl rfl (by kernel_rfl) ?_
 refine D.sq 32 [] hQ hS rfl (.skip 30 false 49 _ hb26 rfl rfl rfl) rfl rfl (by kernel_rfl) ?_
 refine D.sq 33 [] hQ hS rfl (.skip 30 false 49 _ hb26 rfl rfl rfl) rfl rfl (by kernel_rfl) ?_
 refine D.q 34 [] hQ hS rfl (.none rfl) rfl rfl (by exact Rd.pk rfl rfl hb26 rfl) rfl (by kernel_rfl) ?_
 refine D.ps 1 [(35, [])] rfl hQ hS T rfl rfl (by kernel_rfl) ?_
 refine D.sq 36 [] hQ hS rfl (.skip 35 false 54 _ rfl rfl rfl rfl) rfl rfl (by kernel_rfl) ?_
 refine D.sq 37 [] hQ hS rfl (.skip 35 false 54 _ rfl rfl rfl rfl) rfl rfl (by kernel_rfl) ?_
 refine D.sq 38 [] hQ hS rfl (.skip 35 false 54 _ rfl rfl rfl rfl) rfl rfl (by kernel_rfl) ?_
 refine D.sq 39 [] hQ hS rfl (.skip 35 false 54 _ rfl rfl rfl rfl) rfl rfl (by kernel_rfl) ?_
 refine D.q 40 [] hQ hS rfl (.none rfl) rfl rfl (by exact Rd.pk rfl rfl rfl rfl) rfl (by kernel_rfl) ?_
 refine D.done (by kernel_rfl) ?_
 exact St.wk (hJ18 _ hm) (Wk.f [some 0, some 1] ⟨bX, bX, trivial⟩)
 refine D.q 31 [] hQ hS rfl (.take 30 false 49 _ hb26 rfl rfl rfl) rfl rfl (by exact Rd.p T rfl) rfl (by kernel_rfl) ?_
 refine D.q 32 [] hQ hS rfl (.take 30 false 49 _ hb26 rfl rfl rfl) rfl rfl (by exact Rd.l T rfl rfl rfl) rfl (by kernel_rfl) ?_
 refine D.q 33 [] hQ hS rfl (.take 30 false 49 _ hb26 rfl rfl rfl) rfl rfl (by exact Rd.p T rfl) rfl (by kernel_rfl) ?_
 refine D.q 34 [] hQ hS rfl (.none rfl) rfl rfl (by exact Rd.pk' rfl rfl hb26 rfl) rfl (by kernel_rfl) ?_
 refine D.ps 1 [(35, [])] rfl hQ hS T rfl rfl (by kernel_rfl) ?_
 refine hm.cs (fun hb27 hm => ?_) (fun hb27 hm => ?_)
 refine D.sq 36 [] hQ hS rfl (.skip 35 false 54 _ hb27 rfl rfl rfl) rfl rfl (by kernel_rfl) ?_
 refine D.sq 37 [] hQ hS rfl (.skip 35 false 54 _ hb27 rfl rfl rfl) rfl rfl (by kernel_rfl) ?_
 refine D.sq 38 [] hQ hS rfl (.skip 35 false 54 _ hb27 rfl rfl rfl) rfl rfl (by kernel_rfl) ?_
 refine D.sq 39 [] hQ hS rfl (.skip 35 false 54 _ hb27 rfl rfl rfl) rfl rfl (by kernel_rfl) ?_
 refine D.q 40 [] hQ hS rfl (.none rfl) rfl rfl (by exact Rd.pk rfl rfl hb27 rfl) rfl (by kernel_rfl) ?_
 refine D.done (by kernel_rfl) ?_
 exact St.wk (hJ18 _ hm) (Wk.f [some 0, some 1] ⟨bX, bX, trivial⟩)
 refine D.q 36 [] hQ hS rfl (.take 35 false 54 _ hb27 rfl rfl rfl) rfl rfl (by exact Rd.p T rfl) rfl (by kernel_rfl) ?_
 refine D.q 37 [] hQ hS rfl (.take 35 false 54 _ hb27 rfl rfl rfl) rfl rfl (by exact Rd.l T rfl rfl rfl) rfl (by kernel_rfl) ?_
 refine D.e 38 rfl (.take 35 false 54 _ hb27 rfl rfl rfl) (by exact Eff.k (T_taquinref11_spans x16.Shut _ hm) en134 rfl rfl rfl (.eq rfl) (fun _ _ => ⟨(.v _), trivial⟩)) (by kernel_rfl) rfl rfl (fun x28' hm => ?_)
 obtain ⟨x28⟩ := x28'
 refine D.q 39 [] hQ hS rfl (.take 35 false 54 _ hb27 rfl rfl rfl) rfl rfl (by exact Rd.p T rfl) rfl (by kernel_rfl) ?_
 refine D.q 40 [] hQ hS rfl (.none rfl) rfl rfl (by exact Rd.pk' rfl rfl hb27 rfl) rfl (by kernel_rfl) ?_
 refine D.done (by kernel_rfl) ?_
 exact St.wk (hJ18 _ hm) (Wk.f [some 0, some 1] ⟨bX, bX, trivial⟩)
 refine D.sq 5 [] hQ hS rfl (.skip 4 false 23 _ (ntT hb20) rfl rfl rfl) rfl rfl (by kernel_rfl) ?_
 refine D.sq 6 [] hQ hS rfl (.skip 4 false 23 _ (ntT hb20) rfl rfl rfl) rfl rfl (by kernel_rfl) ?_
 refine D.sq 7 [] hQ hS rfl (.skip 4 false 23 _ (ntT hb20) rfl rfl rfl) rfl rfl (by kernel_rfl) ?_
 refine D.sq 8 [] hQ hS rfl (.skip 4 false 23 _ (ntT hb20) rfl rfl rfl) rfl rfl (by kernel_rfl) ?_
 refine D.sq 9 [] hQ hS rfl (.skip 4 false 23 _ (ntT hb20) rfl rfl rfl) rfl rfl (by kernel_rfl) ?_
 refine D.sq 10 [] hQ hS rfl (.skip 4 false 23 _ (ntT hb20) rfl rfl rfl) rfl rfl (by kernel_rfl) ?_
 refine D.sq 11 [] hQ hS rfl (.skip 4 false 23 _ (ntT hb20) rfl rfl rfl) rfl rfl (by kernel_rfl) ?_
 refine D.sq 12 [] hQ hS rfl (.skip 4 false 23 _ (ntT hb20) rfl rfl rfl) rfl rfl (by kernel_rfl) ?_
 refine D.q 13 [] hQ hS rfl (.none rfl) rfl rfl (by exact Rd.pk rfl rfl (ntT hb20) rfl) rfl (by kernel_rfl) ?_
 refine D.ps 1 [(14, [])] rfl hQ hS T rfl rfl (by kernel_rfl) ?_
 refine D.sq 15 [] hQ hS rfl (.skip 14 false 33 _ rfl rfl rfl rfl) rfl rfl (by kernel_rfl) ?_
 refine D.sq 16 [] hQ hS rfl (.skip 14 false 33 _ rfl rfl rfl rfl) rfl rfl (by kernel_rfl) ?_
 refine D.sq 17 [] hQ hS rfl (.skip 14 false 33 _ rfl rfl rfl rfl) rfl rfl (by kernel_rfl) ?_
 refine D.sq 18 [] hQ hS rfl (.skip 14 false 33 _ rfl rfl rfl rfl) rfl rfl (by kernel_rfl) ?_
 refine D.q 19 [] hQ hS rfl (.none rfl) rfl rfl (by exact Rd.pk rfl rfl rfl rfl) rfl (by kernel_rfl) ?_
 refine D.ps 1 [(20, [])] rfl hQ hS T rfl rfl (by kernel_rfl) ?_
 refine D.sq 21 [] hQ hS rfl (.skip 20 false 39 _ rfl rfl rfl rfl) rfl rfl (by kernel_rfl) ?_
 refine D.sq 22 [] hQ hS rfl (.skip 20 false 39 _ rfl rfl rfl rfl) rfl rfl (by kernel_rfl) ?_
 refine D.sq 23 [] hQ hS rfl (.skip 20 false 39 _ rfl rfl rfl rfl) rfl rfl (by kernel_rfl) ?_
 refine D.q 24 [] hQ hS rfl (.none rfl) rfl rfl (by exact Rd.pk rfl rfl rfl rfl) rfl (by kernel_rfl) ?_
 refine D.ps 1 [(25, [])] rfl hQ hS T rfl rfl (by kernel_rfl) ?_
 refine D.sq 26 [] hQ hS rfl (.skip 25 false 44 _ rfl rfl rfl rfl) rfl rfl (by kernel_rfl) ?_
 refine D.sq 27 [] hQ hS rfl (.skip 25 false 44 _ rfl rfl rfl rfl) rfl rfl (by kernel_rfl) ?_
 refine D.sq 28 [] hQ hS rfl (.skip 25 false 44 _ rfl rfl rfl rfl) rfl rfl (by kernel_rfl) ?_
 refine D.q 29 [] hQ hS rfl (.none rfl) rfl rfl (by exact Rd.pk rfl rfl rfl rfl) rfl (by kernel_rfl) ?_
 refine D.ps 1 [(30, [])] rfl hQ hS T rfl rfl (by kernel_rfl) ?_
 refine D.sq 31 [] hQ hS rfl (.skip 30 false 49 _ rfl rfl rfl rfl) rfl rfl (by kernel_rfl) ?_
 refine D.sq 32 [] hQ hS rfl (.skip 30 false 49 _ rfl rfl rfl rfl) rfl rfl (by kernel_rfl) ?_
 refine D.sq 33 [] hQ hS rfl (.skip 30 false 49 _ rfl rfl rfl rfl) rfl rfl (by kernel_rfl) ?_
 refine D.q 34 [] hQ hS rfl (.none rfl) rfl rfl (by exact Rd.pk rfl rfl rfl rfl) rfl (by kernel_rfl) ?_
 refine D.ps 1 [(35, [])] rfl hQ hS T rfl rfl (by kernel_rfl) ?_
 refine D.sq 36 [] hQ hS rfl (.skip 35 false 54 _ rfl rfl rfl rfl) rfl rfl (by kernel_rfl) ?_
 refine D.sq 37 [] hQ hS rfl (.skip 35 false 54 _ rfl rfl rfl rfl) rfl rfl (by kernel_rfl) ?_
 refine D.sq 38 [] hQ hS rfl (.skip 35 false 54 _ rfl rfl rfl rfl) rfl rfl (by kernel_rfl) ?_
 refine D.sq 39 [] hQ hS rfl (.skip 35 false 54 _ rfl rfl rfl rfl) rfl rfl (by kernel_rfl) ?_
 refine D.q 40 [] hQ hS rfl (.none rfl) rfl rfl (by exact Rd.pk rfl rfl rfl rfl) rfl (by kernel_rfl) ?_
 refine D.done (by kernel_rfl) ?_
 exact St.wk (hJ18 _ hm) (Wk.f [some 0, some 1] ⟨bX, bX, trivial⟩)
 refine C.exit (C.ex (C.ex (C.bex ?_)))
 exact St.wk (hJ6 _ hm) (Wk.f [some 0] ⟨bX, trivial⟩)
theorem T_taquinref11_Apart (l : List ApiApart) (a : ByteArray) (b : ByteArray) (post : Bool → Prop) (hm : V_taquinref11_Apart l a b post) :
    Tr Tryz.prog 81 [.sl 2 eApiApart l, .v (.string a), .v (.string b)] [] 0 (fun A H' k => ∃ y, post y ∧ A = (.b y) ∧ H' = [] ∧ k = 0) := by
 refine Tr.intro (n := 56) Tryz.func81 rfl Tryz.ntmps81 rfl (fun w0 ok F β hβ => ?_)
 unfold V_taquinref11_Apart at hm
 refine C.seq (U.start ?_)
 refine U.ps 1 T rfl ?_
 refine U.done (C.nx (C.seq (C.seq (U.start ?_))))
 refine U.ps 1 T rfl ?_
 refine U.done (C.nx ?_)
 refine C.jn (fun (x5 : Unit) => []) (fun (x5 : Unit) => []) 0 hm (fun x5 hm => ?_) (fun J6 hm hJ6 => ?_)
 refine C.nx (C.seq (U.start ?_))
 refine U.ps 1 T rfl ?_
 refine U.done (C.nx (C.ret ?_))
 exact C.f0 T (rs' := [.b false]) hβ ⟨false, hm, rfl, rfl, rfl⟩
 refine C.block ?_
 refine St.wk (C.loop (fun (s7 : Int) => [(0, .sl 2 eApiApart l), (1, .v (.string a)), (2, .v (.string b)), (7, .i s7)]) (fun (s7 : Int) => []) hm (fun s7 Y8 hm => ?_)) (Wk.e)
 refine C.seq (C.seq ?_)
 refine C.jn (fun (x9 : Bool) => [(0, .sl 2 eApiApart l), (1, .v (.string a)), (2, .v (.string b)), (7, .i s7), (19, .b x9)]) (fun (x9 : Bool) => []) 0 hm (fun x9 hm => ?_) (fun J10 hm hJ10 => ?_)
 refine C.nx ?_
 refine C.ite rfl hm (fun hb13 hm => ?_) (fun hb13 hm => ?_)
 refine C.skip (C.nx (C.seq (C.block (C.seq ?_))))
 refine C.jn (fun (x14 : Bool) => [(0, .sl 2 eApiApart l), (1, .v (.string a)), (2, .v (.string b)), (7, .i s7), (55, .b x14)]) (fun (x14 : Bool) => []) 0 hm (fun x14 hm => ?_) (fun J15 hm hJ15 => ?_)
 refine C.nx ?_
 refine C.ite rfl hm (fun hb21 hm => ?_) (fun hb21 hm => ?_)
 refine C.seq (U.start ?_)
 refine U.ps 1 T rfl ?_
 refine U.done (C.nx (C.ret (C.brt (C.rt (C.rt (C.brt (C.rt ?_)))))))
 exact C.f0 T (rs' := [.b true]) hβ ⟨true, hm, rfl, rfl, rfl⟩
 refine C.skip (C.bnx (C.nx (U.start ?_)))
 refine U.ps 3 T rfl ?_
 refine U.done (C.nx ?_)
 exact St.wk (C.next hm) (Wk.e)
 refine U.start ?_
 refine U.ps 2 T rfl ?_
 obtain ⟨x16, hx16, hm⟩ := hm
 refine U.r rfl (.none rfl) rfl rfl (by exact Rd.ix T rfl rfl rfl rfl rfl rfl hx16) ?_
 refine U.ps 5 T rfl ?_
 refine hm.cs (fun hb17 hm => ?_) (fun hb17 hm => ?_)
 refine U.pg 2 7 true 29 hb17 T rfl rfl rfl rfl ?_
 refine U.r rfl (.take 7 true 29 _ hb17 rfl rfl rfl) rfl rfl (by exact Rd.ix T rfl rfl rfl rfl rfl rfl hx16) ?_
 refine U.pg 4 7 true 29 hb17 T rfl rfl rfl rfl ?_
 refine U.r rfl (.none rfl) rfl rfl (by exact Rd.pk rfl rfl hb17 rfl) ?_
 refine U.ps 1 T rfl ?_
 refine hm.cs (fun hb18 hm => ?_) (fun hb18 hm => ?_)
 refine U.sks 8 16 false 38 hb18 rfl rfl rfl ?_
 refine U.sku 7 24 true 46 rfl rfl rfl ?_
 refine U.sks 1 16 false 38 hb18 rfl rfl rfl ?_
 refine U.r rfl (.none rfl) rfl rfl (by exact Rd.pk rfl rfl hb18 rfl) ?_
 refine U.done ?_
 exact St.wk (hJ15 _ hm) (Wk.e)
 refine U.pg 2 16 false 38 hb18 T rfl rfl rfl rfl ?_
 refine U.r rfl (.take 16 false 38 _ hb18 rfl rfl rfl) rfl rfl (by exact Rd.ix T rfl rfl rfl rfl rfl rfl hx16) ?_
 refine U.pg 5 16 false 38 hb18 T rfl rfl rfl rfl ?_
 refine hm.cs (fun hb19 hm => ?_) (fun hb19 hm => ?_)
 refine U.pg 2 24 true 46 hb19 T rfl rfl rfl rfl ?_
 refine U.r rfl (.take 24 true 46 _ hb19 rfl rfl rfl) rfl rfl (by exact Rd.ix T rfl rfl rfl rfl rfl rfl hx16) ?_
 refine U.pg 4 24 true 46 hb19 T rfl rfl rfl rfl ?_
 refine U.r rfl (.take 16 false 38 _ hb18 rfl rfl rfl) rfl rfl (by exact Rd.pk rfl rfl hb19 rfl) ?_
 refine U.r rfl (.none rfl) rfl rfl (by exact Rd.pk' rfl rfl hb18 rfl) ?_
 refine U.done ?_
 exact St.wk (hJ15 _ hm) (Wk.e)
 refine U.sks 7 24 true 46 hb19 rfl rfl rfl ?_
 refine U.r rfl (.take 16 false 38 _ hb18 rfl rfl rfl) rfl rfl (by exact Rd.pk' rfl rfl hb19 rfl) ?_
 refine U.r rfl (.none rfl) rfl rfl (by exact Rd.pk' rfl rfl hb18 rfl) ?_
 refine U.done ?_
 exact St.wk (hJ15 _ hm) (Wk.e)
 refine U.sks 7 7 true 29 hb17 rfl rfl rfl ?_
 refine U.r rfl (.none rfl) rfl rfl (by exact Rd.pk' rfl rfl hb17 rfl) ?_
 refine U.ps 1 T rfl ?_
 refine U.pg 2 16 false 38 rfl T rfl rfl rfl rfl ?_
 refine U.r rfl (.take 16 false 38 _ rfl rfl rfl rfl) rfl rfl (by exact Rd.ix T rfl rfl rfl rfl rfl rfl hx16) ?_
 refine U.pg 5 16 false 38 rfl T rfl rfl rfl rfl ?_
 refine hm.cs (fun hb20 hm => ?_) (fun hb20 hm => ?_)
 refine U.pg 2 24 true 46 hb20 T rfl rfl rfl rfl ?_
 refine U.r rfl (.take 24 true 46 _ hb20 rfl rfl rfl) rfl rfl (by exact Rd.ix T rfl rfl rfl rfl rfl rfl hx16) ?_
 refine U.pg 4 24 true 46 hb20 T rfl rfl rfl rfl ?_
 refine U.r rfl (.take 16 false 38 _ rfl rfl rfl rfl) rfl rfl (by exact Rd.pk rfl rfl hb20 rfl) ?_
 refine U.r rfl (.none rfl) rfl rfl (by exact Rd.pk' rfl rfl rfl rfl) ?_
 refine U.done ?_
 exact St.wk (hJ15 _ hm) (Wk.e)
 refine U.sks 7 24 true 46 hb20 rfl rfl rfl ?_
 refine U.r rfl (.take 16 false 38 _ rfl rfl rfl rfl) rfl rfl (by exact Rd.pk' rfl rfl hb20 rfl) ?_
 refine U.r rfl (.none rfl) rfl rfl (by exact Rd.pk' rfl rfl rfl rfl) ?_
 refine U.done ?_
 exact St.wk (hJ15 _ hm) (Wk.e)
 refine C.exit (C.ex (C.ex (C.bex ?_)))
 exact St.wk (hJ6 _ hm) (Wk.mk' [] rfl rfl trivial trivial rfl)
 refine U.start ?_
 refine U.ps 5 T rfl ?_
 refine hm.cs (fun hb11 hm => ?_) (fun hb11 hm => ?_)
 refine U.pg 2 4 true 12 hb11 T rfl rfl rfl rfl ?_
 refine U.r rfl (.none rfl) rfl rfl (by exact Rd.pk rfl rfl hb11 rfl) ?_
 refine U.ps 1 T rfl ?_
 refine hm.cs (fun hb12 hm => ?_) (fun hb12 hm => ?_)
 refine U.sks 2 8 true 16 (ntF hb12) rfl rfl rfl ?_
 refine U.r rfl (.none rfl) rfl rfl (by exact Rd.pk' rfl rfl (ntF hb12) rfl) ?_
 refine U.done ?_
 exact St.wk (hJ10 _ hm) (Wk.e)
 refine U.pg 2 8 true 16 (ntT hb12) T rfl rfl rfl rfl ?_
 refine U.r rfl (.none rfl) rfl rfl (by exact Rd.pk rfl rfl (ntT hb12) rfl) ?_
 refine U.done ?_
 exact St.wk (hJ10 _ hm) (Wk.e)
 refine U.sks 2 4 true 12 hb11 rfl rfl rfl ?_
 refine U.r rfl (.none rfl) rfl rfl (by exact Rd.pk' rfl rfl hb11 rfl) ?_
 refine U.ps 1 T rfl ?_
 refine U.sks 2 8 true 16 rfl rfl rfl rfl ?_
 refine U.r rfl (.none rfl) rfl rfl (by exact Rd.pk' rfl rfl rfl rfl) ?_
 refine U.done ?_
 exact St.wk (hJ10 _ hm) (Wk.e)
theorem T_taquinref11_stands (kind : Int) (post : Bool → Prop) (hm : V_taquinref11_stands kind post) :
    Tr Tryz.prog 83 [.i kind] [] 0 (fun A H' k => ∃ y, post y ∧ A = (.b y) ∧ H' = [] ∧ k = 0) := by
 refine Tr.intro (n := 9) Tryz.func83 rfl Tryz.ntmps83 rfl (fun w0 ok F β hβ => ?_)
 unfold V_taquinref11_stands at hm
 refine C.seq (U.start ?_)
 refine U.ps 1 T rfl ?_
 refine U.done (C.nx (C.seq ?_))
 refine C.jn (fun (x3 : Bool) => [(2, .b x3)]) (fun (x3 : Bool) => []) 0 hm (fun x3 hm => ?_) (fun J4 hm hJ4 => ?_)
 refine C.nx (C.ret ?_)
 exact C.f0 T (rs' := [.b x3]) hβ ⟨x3, hm, rfl, rfl, rfl⟩
 refine U.start ?_
 refine U.ps 3 T rfl ?_
 refine hm.cs (fun hb5 hm => ?_) (fun hb5 hm => ?_)
 refine U.sks 2 2 false 5 hb5 rfl rfl rfl ?_
 refine U.r rfl (.none rfl) rfl rfl (by exact Rd.pk rfl rfl hb5 rfl) ?_
 refine U.ps 1 T rfl ?_
 refine U.done ?_
 exact St.wk (hJ4 _ hm) (Wk.e)
 refine U.pg 2 2 false 5 hb5 T rfl rfl rfl rfl ?_
 refine U.r rfl (.none rfl) rfl rfl (by exact Rd.pk' rfl rfl hb5 rfl) ?_
 refine U.ps 1 T rfl ?_
 refine U.done ?_
 exact St.wk (hJ4 _ hm) (Wk.e)
theorem T_taquinref11_shelfAt (l : List ApiShelf) (c : Int) (post : Int → Prop) (hm : V_taquinref11_shelfAt l c post) :
    Tr Tryz.prog 84 [.sl 2 eApiShelf l, .i c] [] 0 (fun A H' k => ∃ y, post y ∧ A = (.i y) ∧ H' = [] ∧ k = 0) := by
 refine Tr.intro (n := 20) Tryz.func84 rfl Tryz.ntmps84 rfl (fun w0 ok F β hβ => ?_)
 unfold V_taquinref11_shelfAt at hm
 refine C.seq (U.start ?_)
 refine U.ps 1 T rfl ?_
 refine U.done (C.nx (C.seq (C.seq (U.start ?_))))
 refine U.ps 1 T rfl ?_
 refine U.done (C.nx ?_)
 refine C.jn (fun (x5 : Unit) => []) (fun (x5 : Unit) => []) 0 hm (fun x5 hm => ?_) (fun J6 hm hJ6 => ?_)
 refine C.nx (C.seq (U.start ?_))
 refine U.ps 1 T rfl ?_
 refine U.done (C.nx (C.ret ?_))
 exact C.f0 T (rs' := [.i (-1)]) hβ ⟨(-1), hm, rfl, rfl, rfl⟩
 refine C.block ?_
 refine St.wk (C.loop (fun (s7 : Int) => [(0, .sl 2 eApiShelf l), (1, .i c), (5, .i s7)]) (fun (s7 : Int) => []) hm (fun s7 Y8 hm => ?_)) (Wk.e)
 refine C.seq (C.seq (U.start ?_))
 refine U.ps 4 T rfl ?_
 refine U.done (C.nx ?_)
 refine C.ite rfl hm (fun hb11 hm => ?_) (fun hb11 hm => ?_)
 refine C.skip (C.nx (C.seq (C.block (C.seq (U.start ?_)))))
 refine U.ps 2 T rfl ?_
 obtain ⟨x14, hx14, hm⟩ := hm
 refine U.r rfl (.none rfl) rfl rfl (by exact Rd.ix T rfl rfl rfl rfl rfl rfl hx14) ?_
 refine U.ps 4 T rfl ?_
 refine U.done (C.nx ?_)
 refine C.ite rfl hm (fun hb15 hm => ?_) (fun hb15 hm => ?_)
 refine C.seq (U.start ?_)
 refine U.ps 2 T rfl ?_
 refine U.done (C.nx (C.ret (C.brt (C.rt (C.rt (C.brt (C.rt ?_)))))))
 exact C.f0 T (rs' := [.i s7]) hβ ⟨s7, hm, rfl, rfl, rfl⟩
 refine C.skip (C.bnx (C.nx (U.start ?_)))
 refine U.ps 3 T rfl ?_
 refine U.done (C.nx ?_)
 exact St.wk (C.next hm) (Wk.e)
 refine C.exit (C.ex (C.ex (C.bex ?_)))
 exact St.wk (hJ6 _ hm) (Wk.mk' [] rfl rfl trivial trivial rfl)
theorem T_taquinref11_robotAt (l : List ApiStart) (c : Int) (post : Bool → Prop) (hm : V_taquinref11_robotAt l c post) :
    Tr Tryz.prog 85 [.sl 2 eApiStart l, .i c] [] 0 (fun A H' k => ∃ y, post y ∧ A = (.b y) ∧ H' = [] ∧ k = 0) := by
 refine Tr.intro (n := 19) Tryz.func85 rfl Tryz.ntmps85 rfl (fun w0 ok F β hβ => ?_)
 unfold V_taquinref11_robotAt at hm
 refine C.seq (U.start ?_)
 refine U.ps 1 T rfl ?_
 refine U.done (C.nx (C.seq (C.seq (U.start ?_))))
 refine U.ps 1 T rfl ?_
 refine U.done (C.nx ?_)
 refine C.jn (fun (x5 : Unit) => []) (fun (x5 : Unit) => []) 0 hm (fun x5 hm => ?_) (fun J6 hm hJ6 => ?_)
 refine C.nx (C.seq (U.start ?_))
 refine U.ps 1 T rfl ?_
 refine U.done (C.nx (C.ret ?_))
 exact C.f0 T (rs' := [.b false]) hβ ⟨false, hm, rfl, rfl, rfl⟩
 refine C.block ?_
 refine St.wk (C.loop (fun (s7 : Int) => [(0, .sl 2 eApiStart l), (1, .i c), (5, .i s7)]) (fun (s7 : Int) => []) hm (fun s7 Y8 hm => ?_)) (Wk.e)
 refine C.seq (C.seq (U.start ?_))
 refine U.ps 4 T rfl ?_
 refine U.done (C.nx ?_)
 refine C.ite rfl hm (fun hb11 hm => ?_) (fun hb11 hm => ?_)
 refine C.skip (C.nx (C.seq (C.block (C.seq (U.start ?_)))))
 refine U.ps 2 T rfl ?_
 obtain ⟨x14, hx14, hm⟩ := hm
 refine U.r rfl (.none rfl) rfl rfl (by exact Rd.ix T rfl rfl rfl rfl rfl rfl hx14) ?_
 refine U.ps 4 T rfl ?_
 refine U.done (C.nx ?_)
 refine C.ite rfl hm (fun hb15 hm => ?_) (fun hb15 hm => ?_)
 refine C.seq (U.start ?_)
 refine U.ps 1 T rfl ?_
 refine U.done (C.nx (C.ret (C.brt (C.rt (C.rt (C.brt (C.rt ?_)))))))
 exact C.f0 T (rs' := [.b true]) hβ ⟨true, hm, rfl, rfl, rfl⟩
 refine C.skip (C.bnx (C.nx (U.start ?_)))
 refine U.ps 3 T rfl ?_
 refine U.done (C.nx ?_)
 exact St.wk (C.next hm) (Wk.e)
 refine C.exit (C.ex (C.ex (C.bex ?_)))
 exact St.wk (hJ6 _ hm) (Wk.mk' [] rfl rfl trivial trivial rfl)
theorem T_taquinref11_blanks (s_1 : ApiSite) (z : ApiZone) (post : Int → Prop) (hm : V_taquinref11_blanks s_1 z post) :
    Tr Tryz.prog 86 [.agg (eApiSite s_1), .agg (eApiZone z)] [] 0 (fun A H' k => ∃ y, post y ∧ A = (.i y) ∧ H' = [] ∧ k = 0) := by
 refine Tr.intro (n := 39) Tryz.func86 rfl Tryz.ntmps86 rfl (fun w0 ok F β hβ => ?_)
 unfold V_taquinref11_blanks at hm
 refine C.seq (U.start ?_)
 refine U.e1 rfl (.none rfl) (by exact Eff1.box rfl rfl rfl rfl rfl) ?_
 refine U.e1 rfl (.none rfl) (by exact Eff1.box rfl rfl rfl rfl rfl) ?_
 refine U.ps 1 T rfl ?_
 refine U.done (C.nx (C.seq (U.start ?_)))
 refine U.ps 1 T rfl ?_
 refine U.done (C.nx (C.seq (C.seq (U.start ?_))))
 refine U.ps 1 T rfl ?_
 refine U.done (C.nx ?_)
 refine C.jn (fun (x7 : Int) => [(5, .i x7)]) (fun (x7 : Int) => []) 0 hm (fun x7 hm => ?_) (fun J8 hm hJ8 => ?_)
 refine C.nx (C.seq (U.start ?_))
 refine U.ps 2 T rfl ?_
 refine U.done (C.nx (C.ret ?_))
 exact C.f0 T (rs' := [.i x7]) hβ ⟨x7, hm, rfl, rfl, rfl⟩
 refine C.block ?_
 refine St.wk (C.loop (fun (s9 : Int × Int) => [(2, .p 0 0), (3, .p 1 0), (5, .i s9.1), (6, .i s9.2)]) (fun (s9 : Int × Int) => [(0, .box (eApiSite s_1)), (1, .box (eApiZone z))]) hm (fun s9 Y10 hm => ?_)) (Wk.f [some 0, some 1] ⟨bX, bX, trivial⟩)
 refine C.seq (C.seq (U.start ?_))
 refine U.ps 5 T rfl ?_
 refine U.done (C.nx ?_)
 refine C.ite rfl hm (fun hb13 hm => ?_) (fun hb13 hm => ?_)
 refine C.skip (C.nx (C.seq (C.block (C.seq ?_))))
 refine C.jn (fun (x14 : Bool) => [(2, .p 0 0), (3, .p 1 0), (5, .i s9.1), (6, .i s9.2), (35, .b x14)]) (fun (x14 : Bool) => [(0, .box (eApiSite s_1)), (1, .box (eApiZone z))]) 2 hm (fun x14 hm => ?_) (fun J15 hm hJ15 => ?_)
 refine C.nx ?_
 refine C.jn (fun (x21 : Int) => [(2, .p 0 0), (3, .p 1 0), (5, .i x21), (6, .i s9.2)]) (fun (x21 : Int) => [(0, .box (eApiSite s_1)), (1, .box (eApiZone z))]) 2 hm (fun x21 hm => ?_) (fun J22 hm hJ22 => ?_)
 refine C.bnx (C.nx (U.start ?_))
 refine U.ps 3 T rfl ?_
 refine U.done (C.nx ?_)
 exact St.wk (C.next hm) (Wk.f [some 0, some 1] ⟨bX, bX, trivial⟩)
 refine C.ite rfl hm (fun hb23 hm => ?_) (fun hb23 hm => ?_)
 refine U.start ?_
 refine U.ps 3 T rfl ?_
 refine U.done ?_
 exact St.wk (hJ22 _ hm) (Wk.f [some 0, some 1] ⟨bX, bX, trivial⟩)
 refine C.skip ?_
 exact St.wk (hJ22 _ hm) (Wk.f [some 0, some 1] ⟨bX, bX, trivial⟩)
 refine D.beg 9999 [0, 1] [] mix rfl rfl (by kernel_rfl) (by repeat (first | exact NoPanicQ.body | exact NoPanicQ.rnd | refine NoPanicQ.th ?_ | refine NoPanicQ.blk ?_)) (fun hQ hS ws M' => ?_)
 refine D.ps 6 [(0, []), (1, []), (2, []), (3, []), (4, []), (5, [])] rfl hQ hS T rfl rfl (by kernel_rfl) ?_
 obtain ⟨x16, hx16, hm⟩ := hm
 refine D.q 6 [] hQ hS rfl (.none rfl) rfl rfl (by exact Rd.ix T rfl rfl rfl rfl rfl rfl hx16) rfl (by kernel_rfl) ?_
 refine D.ps 1 [(7, [])] rfl hQ hS T rfl rfl (by kernel_rfl) ?_
 obtain ⟨x17, hx17, hm⟩ := hm
 refine D.q 8 [] hQ hS rfl (.none rfl) rfl rfl (by exact Rd.ix T rfl rfl rfl rfl rfl rfl hx17) rfl (by kernel_rfl) ?_
 refine D.ps 1 [(9, [])] rfl hQ hS T rfl rfl (by kernel_rfl) ?_
 refine D.e 10 rfl (.none rfl) (by exact Eff.k (T_taquinref11_stands x17 _ hm) en83 rfl rfl rfl (.eq rfl) (fun _ _ => ⟨(.v _), trivial⟩)) (by kernel_rfl) rfl rfl (fun x18' hm => ?_)
 obtain ⟨x18⟩ := x18'
 refine D.ps 1 [(11, [])] rfl hQ hS T rfl rfl (by kernel_rfl) ?_
 refine hm.cs (fun hb19 hm => ?_) (fun hb19 hm => ?_)
 refine D.q 12 [] hQ hS rfl (.take 11 true 25 _ hb19 rfl rfl rfl) rfl rfl (by exact Rd.p T rfl) rfl (by kernel_rfl) ?_
 refine D.q 13 [] hQ hS rfl (.take 11 true 25 _ hb19 rfl rfl rfl) rfl rfl (by exact Rd.l T rfl rfl rfl) rfl (by kernel_rfl) ?_
 refine D.q 14 [] hQ hS rfl (.take 11 true 25 _ hb19 rfl rfl rfl) rfl rfl (by exact Rd.p T rfl) rfl (by kernel_rfl) ?_
 refine D.q 15 [] hQ hS rfl (.take 11 true 25 _ hb19 rfl rfl rfl) rfl rfl (by exact Rd.l T rfl rfl rfl) rfl (by kernel_rfl) ?_
 refine D.q 16 [] hQ hS rfl (.take 11 true 25 _ hb19 rfl rfl rfl) rfl rfl (by exact Rd.p T rfl) rfl (by kernel_rfl) ?_
 refine D.q 17 [] hQ hS rfl (.take 11 true 25 _ hb19 rfl rfl rfl) rfl rfl (by exact Rd.ix T rfl rfl rfl rfl rfl rfl hx16) rfl (by kernel_rfl) ?_
 refine D.q 18 [] hQ hS rfl (.take 11 true 25 _ hb19 rfl rfl rfl) rfl rfl (by exact Rd.l T rfl rfl rfl) rfl (by kernel_rfl) ?_
 refine D.e 19 rfl (.take 11 true 25 _ hb19 rfl rfl rfl) (by exact Eff.k (T_taquinref11_shelfAt s_1.Shelves x16 _ hm) en84 rfl rfl rfl (.eq rfl) (fun _ _ => ⟨(.v _), trivial⟩)) (by kernel_rfl) rfl rfl (fun x20' hm => ?_)
 obtain ⟨x20⟩ := x20'
 refine D.q 20 [] hQ hS rfl (.take 11 true 25 _ hb19 rfl rfl rfl) rfl rfl (by exact Rd.p T rfl) rfl (by kernel_rfl) ?_
 refine D.q 21 [] hQ hS rfl (.none rfl) rfl rfl (by exact Rd.pk rfl rfl hb19 rfl) rfl (by kernel_rfl) ?_
 refine D.done (by kernel_rfl) ?_
 exact St.wk (hJ15 _ hm) (Wk.f [some 0, some 1] ⟨bX, bX, trivial⟩)
 refine D.sq 12 [] hQ hS rfl (.skip 11 true 25 _ hb19 rfl rfl rfl) rfl rfl (by kernel_rfl) ?_
 refine D.sq 13 [] hQ hS rfl (.skip 11 true 25 _ hb19 rfl rfl rfl) rfl rfl (by kernel_rfl) ?_
 refine D.sq 14 [] hQ hS rfl (.skip 11 true 25 _ hb19 rfl rfl rfl) rfl rfl (by kernel_rfl) ?_
 refine D.sq 15 [] hQ hS rfl (.skip 11 true 25 _ hb19 rfl rfl rfl) rfl rfl (by kernel_rfl) ?_
 refine D.sq 16 [] hQ hS rfl (.skip 11 true 25 _ hb19 rfl rfl rfl) rfl rfl (by kernel_rfl) ?_
 refine D.sq 17 [] hQ hS rfl (.skip 11 true 25 _ hb19 rfl rfl rfl) rfl rfl (by kernel_rfl) ?_
 refine D.sq 18 [] hQ hS rfl (.skip 11 true 25 _ hb19 rfl rfl rfl) rfl rfl (by kernel_rfl) ?_
 refine D.sq 19 [] hQ hS rfl (.skip 11 true 25 _ hb19 rfl rfl rfl) rfl rfl (by kernel_rfl) ?_
 refine D.sq 20 [] hQ hS rfl (.skip 11 true 25 _ hb19 rfl rfl rfl) rfl rfl (by kernel_rfl) ?_
 refine D.q 21 [] hQ hS rfl (.none rfl) rfl rfl (by exact Rd.pk' rfl rfl hb19 rfl) rfl (by kernel_rfl) ?_
 refine D.done (by kernel_rfl) ?_
 exact St.wk (hJ15 _ hm) (Wk.f [some 0, some 1] ⟨bX, bX, trivial⟩)
 refine C.exit (C.ex (C.ex (C.bex ?_)))
 exact St.wk (hJ8 _ hm) (Wk.e)
theorem T_taquinref07_At (f : ApiFloor) (c : Int) (post : (Int × Int × Int) → Prop) (hm : V_taquinref07_At f c post) :
    Tr Tryz.prog 166 [.agg (eApiFloor f), .i c] [] 0 (fun A H' k => ∃ y, post y ∧ A = (.tup [.i y.1, .i y.2.1, .i y.2.2]) ∧ H' = [] ∧ k = 0) := by
 refine Tr.intro (n := 29) Tryz.func166 rfl Tryz.ntmps166 rfl (fun w0 ok F β hβ => ?_)
 unfold V_taquinref07_At at hm
 refine C.seq (U.start ?_)
 refine U.e1 rfl (.none rfl) (by exact Eff1.box rfl rfl rfl rfl rfl) ?_
 refine U.ps 3 T rfl ?_
 refine U.done (C.nx (C.seq (C.seq (U.start ?_))))
 refine U.ps 2 T rfl ?_
 refine U.e rfl (.none rfl) (by exact Eff.k (T_taquinref07_Is f c _ hm) en82 rfl rfl rfl (.eq rfl) (fun _ _ => ⟨(.v _), trivial⟩)) (fun x5' hm => ?_)
 obtain ⟨x5⟩ := x5'
 refine U.ps 1 T rfl ?_
 refine U.done (C.nx ?_)
 refine C.ite rfl hm (fun hb6 hm => ?_) (fun hb6 hm => ?_)
 refine C.seq (U.start ?_)
 refine U.ps 3 T rfl ?_
 refine U.done (C.nx (C.ret (C.rt ?_)))
 exact C.f0 T (rs' := [.i ((0, 0, 0).1), .i ((0, 0, 0).2.1), .i ((0, 0, 0).2.2)]) hβ ⟨(0, 0, 0), hm, rfl, rfl, rfl⟩
 refine C.skip (C.nx (C.seq ?_))
 refine D.beg 9999 [0] [] mix rfl rfl (by kernel_rfl) (by repeat (first | exact NoPanicQ.body | exact NoPanicQ.rnd | refine NoPanicQ.th ?_ | refine NoPanicQ.blk ?_)) (fun hQ hS ws M' => ?_)
 refine D.ps 3 [(0, []), (1, []), (2, [])] rfl hQ hS T rfl rfl (by kernel_rfl) ?_
 obtain ⟨hx11, hm⟩ := hm
 refine D.q 3 [] hQ hS rfl (.none rfl) rfl rfl (by exact Rd.rm rfl rfl rfl rfl hx11) rfl (by kernel_rfl) ?_
 refine D.ps 3 [(4, []), (5, []), (6, [])] rfl hQ hS T rfl rfl (by kernel_rfl) ?_
 obtain ⟨hx12, hm⟩ := hm
 refine D.q 7 [] hQ hS rfl (.none rfl) rfl rfl (by exact Rd.dv rfl rfl rfl rfl hx12) rfl (by kernel_rfl) ?_
 refine D.ps 2 [(8, []), (9, [])] rfl hQ hS T rfl rfl (by kernel_rfl) ?_
 obtain ⟨hx13, hm⟩ := hm
 refine D.q 10 [] hQ hS rfl (.none rfl) rfl rfl (by exact Rd.rm rfl rfl rfl rfl hx13) rfl (by kernel_rfl) ?_
 refine D.ps 3 [(11, []), (12, []), (13, [])] rfl hQ hS T rfl rfl (by kernel_rfl) ?_
 obtain ⟨hx14, hm⟩ := hm
 refine D.q 14 [] hQ hS rfl (.none rfl) rfl rfl (by exact Rd.dv rfl rfl rfl rfl hx14) rfl (by kernel_rfl) ?_
 refine D.ps 2 [(15, []), (16, [])] rfl hQ hS T rfl rfl (by kernel_rfl) ?_
 obtain ⟨hx15, hm⟩ := hm
 refine D.q 17 [] hQ hS rfl (.none rfl) rfl rfl (by exact Rd.dv rfl rfl rfl rfl hx15) rfl (by kernel_rfl) ?_
 refine D.ps 3 [(18, []), (19, []), (20, [])] rfl hQ hS T rfl rfl (by kernel_rfl) ?_
 refine D.done (by kernel_rfl) ?_
 refine C.nx (C.ret ?_)
 exact C.f0 T (rs' := [.i ((c.tmod f.W, (w64 (c.tdiv f.W)).tmod f.H, w64 ((w64 (c.tdiv f.W)).tdiv f.H)).1), .i ((c.tmod f.W, (w64 (c.tdiv f.W)).tmod f.H, w64 ((w64 (c.tdiv f.W)).tdiv f.H)).2.1), .i ((c.tmod f.W, (w64 (c.tdiv f.W)).tmod f.H, w64 ((w64 (c.tdiv f.W)).tdiv f.H)).2.2)]) hβ ⟨(c.tmod f.W, (w64 (c.tdiv f.W)).tmod f.H, w64 ((w64 (c.tdiv f.W)).tdiv f.H)), hm, rfl, rfl, rfl⟩
theorem T_taquinref07_Cell (f : ApiFloor) (x_1 : Int) (y_1 : Int) (z : Int) (post : Int → Prop) (hm : V_taquinref07_Cell f x_1 y_1 z post) :
    Tr Tryz.prog 167 [.agg (eApiFloor f), .i x_1, .i y_1, .i z] [] 0 (fun A H' k => ∃ y, post y ∧ A = (.i y) ∧ H' = [] ∧ k = 0) := by
 refine Tr.intro (n := 48) Tryz.func167 rfl Tryz.ntmps167 rfl (fun w0 ok F β hβ => ?_)
 unfold V_taquinref07_Cell at hm
 refine C.seq (U.start ?_)
 refine U.e1 rfl (.none rfl) (by exact Eff1.box rfl rfl rfl rfl rfl) ?_
 refine U.ps 1 T rfl ?_
 refine U.done (C.nx (C.seq (C.seq ?_)))
 refine C.jn (fun (x3 : Bool) => [(1, .i x_1), (2, .i y_1), (3, .i z), (4, .p 0 0), (36, .b x3)]) (fun (x3 : Bool) => [(0, .box (eApiFloor f))]) 1 hm (fun x3 hm => ?_) (fun J4 hm hJ4 => ?_)
 refine C.nx ?_
 refine C.ite rfl hm (fun hb10 hm => ?_) (fun hb10 hm => ?_)
 refine C.seq (U.start ?_)
 refine U.ps 1 T rfl ?_
 refine U.done (C.nx (C.ret (C.rt ?_)))
 exact C.f0 T (rs' := [.i (-1)]) hβ ⟨(-1), hm, rfl, rfl, rfl⟩
 refine C.skip (C.nx (C.seq (U.start ?_)))
 refine U.ps 12 T rfl ?_
 refine U.done (C.nx (C.ret ?_))
 exact C.f0 T (rs' := [.i (w64 ((w64 ((w64 ((w64 (z * f.H)) + y_1)) * f.W)) + x_1))]) hβ ⟨w64 ((w64 ((w64 ((w64 (z * f.H)) + y_1)) * f.W)) + x_1), hm, rfl, rfl, rfl⟩
 refine U.start ?_
 refine U.ps 3 T rfl ?_
 refine hm.cs (fun hb5 hm => ?_) (fun hb5 hm => ?_)
 refine U.sks 4 2 false 11 hb5 rfl rfl rfl ?_
 refine U.r rfl (.none rfl) rfl rfl (by exact Rd.pk rfl rfl hb5 rfl) ?_
 refine U.ps 1 T rfl ?_
 refine U.sks 2 8 false 17 rfl rfl rfl rfl ?_
 refine U.r rfl (.none rfl) rfl rfl (by exact Rd.pk rfl rfl rfl rfl) ?_
 refine U.ps 1 T rfl ?_
 refine U.sks 4 12 false 21 rfl rfl rfl rfl ?_
 refine U.r rfl (.none rfl) rfl rfl (by exact Rd.pk rfl rfl rfl rfl) ?_
 refine U.ps 1 T rfl ?_
 refine U.sks 2 18 false 27 rfl rfl rfl rfl ?_
 refine U.r rfl (.none rfl) rfl rfl (by exact Rd.pk rfl rfl rfl rfl) ?_
 refine U.ps 1 T rfl ?_
 refine U.sks 4 22 false 31 rfl rfl rfl rfl ?_
 refine U.r rfl (.none rfl) rfl rfl (by exact Rd.pk rfl rfl rfl rfl) ?_
 refine U.done ?_
 exact St.wk (hJ4 _ hm) (Wk.f [some 0] ⟨bX, trivial⟩)
 refine U.pg 4 2 false 11 hb5 T rfl rfl rfl rfl ?_
 refine U.r rfl (.none rfl) rfl rfl (by exact Rd.pk' rfl rfl hb5 rfl) ?_
 refine U.ps 1 T rfl ?_
 refine hm.cs (fun hb6 hm => ?_) (fun hb6 hm => ?_)
 refine U.sks 2 8 false 17 hb6 rfl rfl rfl ?_
 refine U.r rfl (.none rfl) rfl rfl (by exact Rd.pk rfl rfl hb6 rfl) ?_
 refine U.ps 1 T rfl ?_
 refine U.sks 4 12 false 21 rfl rfl rfl rfl ?_
 refine U.r rfl (.none rfl) rfl rfl (by exact Rd.pk rfl rfl rfl rfl) ?_
 refine U.ps 1 T rfl ?_
 refine U.sks 2 18 false 27 rfl rfl rfl rfl ?_
 refine U.r rfl (.none rfl) rfl rfl (by exact Rd.pk rfl rfl rfl rfl) ?_
 refine U.ps 1 T rfl ?_
 refine U.sks 4 22 false 31 rfl rfl rfl rfl ?_
 refine U.r rfl (.none rfl) rfl rfl (by exact Rd.pk rfl rfl rfl rfl) ?_
 refine U.done ?_
 exact St.wk (hJ4 _ hm) (Wk.f [some 0] ⟨bX, trivial⟩)
 refine U.pg 2 8 false 17 hb6 T rfl rfl rfl rfl ?_
 refine U.r rfl (.none rfl) rfl rfl (by exact Rd.pk' rfl rfl hb6 rfl) ?_
 refine U.ps 1 T rfl ?_
 refine hm.cs (fun hb7 hm => ?_) (fun hb7 hm => ?_)
 refine U.sks 4 12 false 21 hb7 rfl rfl rfl ?_
 refine U.r rfl (.none rfl) rfl rfl (by exact Rd.pk rfl rfl hb7 rfl) ?_
 refine U.ps 1 T rfl ?_
 refine U.sks 2 18 false 27 rfl rfl rfl rfl ?_
 refine U.r rfl (.none rfl) rfl rfl (by exact Rd.pk rfl rfl rfl rfl) ?_
 refine U.ps 1 T rfl ?_
 refine U.sks 4 22 false 31 rfl rfl rfl rfl ?_
 refine U.r rfl (.none rfl) rfl rfl (by exact Rd.pk rfl rfl rfl rfl) ?_
 refine U.done ?_
 exact St.wk (hJ4 _ hm) (Wk.f [some 0] ⟨bX, trivial⟩)
 refine U.pg 4 12 false 21 hb7 T rfl rfl rfl rfl ?_
 refine U.r rfl (.none rfl) rfl rfl (by exact Rd.pk' rfl rfl hb7 rfl) ?_
 refine U.ps 1 T rfl ?_
 refine hm.cs (fun hb8 hm => ?_) (fun hb8 hm => ?_)
 refine U.sks 2 18 false 27 hb8 rfl rfl rfl ?_
 refine U.r rfl (.none rfl) rfl rfl (by exact Rd.pk rfl rfl hb8 rfl) ?_
 refine U.ps 1 T rfl ?_
 refine U.sks 4 22 false 31 rfl rfl rfl rfl ?_
 refine U.r rfl (.none rfl) rfl rfl (by exact Rd.pk rfl rfl rfl rfl) ?_
 refine U.done ?_
 exact St.wk (hJ4 _ hm) (Wk.f [some 0] ⟨bX, trivial⟩)
 refine U.pg 2 18 false 27 hb8 T rfl rfl rfl rfl ?_
 refine U.r rfl (.none rfl) rfl rfl (by exact Rd.pk' rfl rfl hb8 rfl) ?_
 refine U.ps 1 T rfl ?_
 refine hm.cs (fun hb9 hm => ?_) (fun hb9 hm => ?_)
 refine U.sks 4 22 false 31 hb9 rfl rfl rfl ?_
 refine U.r rfl (.none rfl) rfl rfl (by exact Rd.pk rfl rfl hb9 rfl) ?_
 refine U.done ?_
 exact St.wk (hJ4 _ hm) (Wk.f [some 0] ⟨bX, trivial⟩)
 refine U.pg 4 22 false 31 hb9 T rfl rfl rfl rfl ?_
 refine U.r rfl (.none rfl) rfl rfl (by exact Rd.pk' rfl rfl hb9 rfl) ?_
 refine U.done ?_
 exact St.wk (hJ4 _ hm) (Wk.f [some 0] ⟨bX, trivial⟩)
theorem T_taquinref07_Beside (f : ApiFloor) (c : Int) (d : Int) (post : Int → Prop) (hm : V_taquinref07_Beside f c d post) :
    Tr Tryz.prog 138 [.agg (eApiFloor f), .i c, .i d] [] 0 (fun A H' k => ∃ y, post y ∧ A = (.i y) ∧ H' = [] ∧ k = 0) := by
 refine Tr.intro (n := 70) Tryz.func138 rfl Tryz.ntmps138 rfl (fun w0 ok F β hβ => ?_)
 unfold V_taquinref07_Beside at hm
 refine C.seq (U.start ?_)
 refine U.e1 rfl (.none rfl) (by exact Eff1.box rfl rfl rfl rfl rfl) ?_
 refine U.ps 1 T rfl ?_
 refine U.done (C.nx (C.seq (C.seq (U.start ?_))))
 refine U.ps 2 T rfl ?_
 refine U.e rfl (.none rfl) (by exact Eff.k (T_taquinref07_Is f c _ hm) en82 rfl rfl rfl (.eq rfl) (fun _ _ => ⟨(.v _), trivial⟩)) (fun x5' hm => ?_)
 obtain ⟨x5⟩ := x5'
 refine U.ps 1 T rfl ?_
 refine U.done (C.nx ?_)
 refine C.ite rfl hm (fun hb6 hm => ?_) (fun hb6 hm => ?_)
 refine C.seq (U.start ?_)
 refine U.ps 1 T rfl ?_
 refine U.done (C.nx (C.ret (C.rt ?_)))
 exact C.f0 T (rs' := [.i (-1)]) hβ ⟨(-1), hm, rfl, rfl, rfl⟩
 refine C.skip (C.nx (C.seq (U.start ?_)))
 refine U.ps 2 T rfl ?_
 refine U.e rfl (.none rfl) (by exact Eff.k (T_taquinref07_At f c _ hm) en166 rfl rfl rfl (.eq rfl) (fun _ _ => ⟨(.tup (.cons (.v _) (.cons (.v _) (.cons (.v _) .nil)))), trivial⟩)) (fun x11' hm => ?_)
 obtain ⟨x11⟩ := x11'
 refine U.ps 7 T rfl ?_
 refine U.done (C.nx (C.seq (C.seq (U.start ?_))))
 refine U.ps 1 T rfl ?_
 refine U.done (C.nx (C.block (C.seq (U.start ?_))))
 refine U.ps 2 T rfl ?_
 refine U.done (C.nx ?_)
 refine C.ite rfl hm (fun hb16 hm => ?_) (fun hb16 hm => ?_)
 refine C.seq (U.start ?_)
 refine U.ps 5 T rfl ?_
 refine U.e rfl (.none rfl) (by exact Eff.k (T_taquinref07_Cell f (w64 (x11.1 + 1)) x11.2.1 x11.2.2 _ hm) en167 rfl rfl rfl (.eq rfl) (fun _ _ => ⟨(.v _), trivial⟩)) (fun x19' hm => ?_)
 obtain ⟨x19⟩ := x19'
 refine U.ps 1 T rfl ?_
 refine U.done (C.nx (C.ret (C.brt (C.rt ?_))))
 exact C.f0 T (rs' := [.i x19]) hβ ⟨x19, hm, rfl, rfl, rfl⟩
 refine C.seq (U.start ?_)
 refine U.ps 2 T rfl ?_
 refine U.done (C.nx ?_)
 refine C.ite rfl hm (fun hb22 hm => ?_) (fun hb22 hm => ?_)
 refine C.seq (U.start ?_)
 refine U.ps 5 T rfl ?_
 refine U.e rfl (.none rfl) (by exact Eff.k (T_taquinref07_Cell f x11.1 (w64 (x11.2.1 + 1)) x11.2.2 _ hm) en167 rfl rfl rfl (.eq rfl) (fun _ _ => ⟨(.v _), trivial⟩)) (fun x25' hm => ?_)
 obtain ⟨x25⟩ := x25'
 refine U.ps 1 T rfl ?_
 refine U.done (C.nx (C.ret (C.brt (C.rt ?_))))
 exact C.f0 T (rs' := [.i x25]) hβ ⟨x25, hm, rfl, rfl, rfl⟩
 refine C.seq (U.start ?_)
 refine U.ps 2 T rfl ?_
 refine U.done (C.nx ?_)
 refine C.ite rfl hm (fun hb28 hm => ?_) (fun hb28 hm => ?_)
 refine C.seq (U.start ?_)
 refine U.ps 5 T rfl ?_
 refine U.e rfl (.none rfl) (by exact Eff.k (T_taquinref07_Cell f (w64 (x11.1 - 1)) x11.2.1 x11.2.2 _ hm) en167 rfl rfl rfl (.eq rfl) (fun _ _ => ⟨(.v _), trivial⟩)) (fun x31' hm => ?_)
 obtain ⟨x31⟩ := x31'
 refine U.ps 1 T rfl ?_
 refine U.done (C.nx (C.ret (C.brt (C.rt ?_))))
 exact C.f0 T (rs' := [.i x31]) hβ ⟨x31, hm, rfl, rfl, rfl⟩
 refine C.seq (U.start ?_)
 refine U.ps 2 T rfl ?_
 refine U.done (C.nx ?_)
 refine C.ite rfl hm (fun hb34 hm => ?_) (fun hb34 hm => ?_)
 refine C.seq (U.start ?_)
 refine U.ps 5 T rfl ?_
 refine U.e rfl (.none rfl) (by exact Eff.k (T_taquinref07_Cell f x11.1 (w64 (x11.2.1 - 1)) x11.2.2 _ hm) en167 rfl rfl rfl (.eq rfl) (fun _ _ => ⟨(.v _), trivial⟩)) (fun x37' hm => ?_)
 obtain ⟨x37⟩ := x37'
 refine U.ps 1 T rfl ?_
 refine U.done (C.nx (C.ret (C.brt (C.rt ?_))))
 exact C.f0 T (rs' := [.i x37]) hβ ⟨x37, hm, rfl, rfl, rfl⟩
 refine C.seq (U.start ?_)
 refine U.ps 2 T rfl ?_
 refine U.done (C.nx ?_)
 refine C.ite rfl hm (fun hb40 hm => ?_) (fun hb40 hm => ?_)
 refine C.seq (U.start ?_)
 refine U.ps 5 T rfl ?_
 refine U.e rfl (.none rfl) (by exact Eff.k (T_taquinref07_Cell f x11.1 x11.2.1 (w64 (x11.2.2 + 1)) _ hm) en167 rfl rfl rfl (.eq rfl) (fun _ _ => ⟨(.v _), trivial⟩)) (fun x43' hm => ?_)
 obtain ⟨x43⟩ := x43'
 refine U.ps 1 T rfl ?_
 refine U.done (C.nx (C.ret (C.brt (C.rt ?_))))
 exact C.f0 T (rs' := [.i x43]) hβ ⟨x43, hm, rfl, rfl, rfl⟩
 refine C.seq (U.start ?_)
 refine U.ps 2 T rfl ?_
 refine U.done (C.nx ?_)
 refine C.ite rfl hm (fun hb46 hm => ?_) (fun hb46 hm => ?_)
 refine C.seq (U.start ?_)
 refine U.ps 5 T rfl ?_
 refine U.e rfl (.none rfl) (by exact Eff.k (T_taquinref07_Cell f x11.1 x11.2.1 (w64 (x11.2.2 - 1)) _ hm) en167 rfl rfl rfl (.eq rfl) (fun _ _ => ⟨(.v _), trivial⟩)) (fun x49' hm => ?_)
 obtain ⟨x49⟩ := x49'
 refine U.ps 1 T rfl ?_
 refine U.done (C.nx (C.ret (C.brt (C.rt ?_))))
 exact C.f0 T (rs' := [.i x49]) hβ ⟨x49, hm, rfl, rfl, rfl⟩
 refine C.skip (C.bnx (C.nx (C.seq (U.start ?_))))
 refine U.ps 1 T rfl ?_
 refine U.done (C.nx (C.ret ?_))
 exact C.f0 T (rs' := [.i (-1)]) hβ ⟨(-1), hm, rfl, rfl, rfl⟩
theorem T_taquinref11_Beside (s_1 : ApiSite) (post : Int → Prop) (hm : V_taquinref11_Beside s_1 post) :
    Tr Tryz.prog 87 [.agg (eApiSite s_1)] [] 0 (fun A H' k => ∃ y, post y ∧ A = (.i y) ∧ H' = [] ∧ k = 0) := by
 refine Tr.intro (n := 62) Tryz.func87 rfl Tryz.ntmps87 rfl (fun w0 ok F β hβ => ?_)
 unfold V_taquinref11_Beside at hm
 refine C.seq (U.start ?_)
 refine U.e1 rfl (.none rfl) (by exact Eff1.box rfl rfl rfl rfl rfl) ?_
 refine U.ps 1 T rfl ?_
 refine U.done (C.nx (C.seq (C.seq (U.start ?_))))
 refine U.ps 1 T rfl ?_
 refine U.done (C.nx ?_)
 refine C.jn (fun (x5 : Unit) => []) (fun (x5 : Unit) => []) 0 hm (fun x5 hm => ?_) (fun J6 hm hJ6 => ?_)
 refine C.nx (C.seq (U.start ?_))
 refine U.ps 1 T rfl ?_
 refine U.done (C.nx (C.ret ?_))
 exact C.f0 T (rs' := [.i (-1)]) hβ ⟨(-1), hm, rfl, rfl, rfl⟩
 refine C.block ?_
 refine St.wk (C.loop (fun (s7 : Int) => [(1, .p 0 0), (3, .i s7)]) (fun (s7 : Int) => [(0, .box (eApiSite s_1))]) hm (fun s7 Y8 hm => ?_)) (Wk.f [some 0] ⟨bX, trivial⟩)
 refine C.seq (C.seq (U.start ?_))
 refine U.ps 5 T rfl ?_
 refine U.done (C.nx ?_)
 refine C.ite rfl hm (fun hb11 hm => ?_) (fun hb11 hm => ?_)
 refine C.skip (C.nx (C.seq ?_))
 refine C.jn (fun (x12 : Unit) => [(1, .p 0 0), (3, .i s7)]) (fun (x12 : Unit) => [(0, .box (eApiSite s_1))]) 1 hm (fun x12 hm => ?_) (fun J13 hm hJ13 => ?_)
 refine C.nx (U.start ?_)
 refine U.ps 3 T rfl ?_
 refine U.done (C.nx ?_)
 exact St.wk (C.next hm) (Wk.f [some 0] ⟨bX, trivial⟩)
 refine C.block (C.seq (U.start ?_))
 refine U.ps 1 T rfl ?_
 refine U.done (C.nx ?_)
 refine C.jn (fun (x16 : Unit) => [(1, .p 0 0), (3, .i s7)]) (fun (x16 : Unit) => [(0, .box (eApiSite s_1))]) 1 hm (fun x16 hm => ?_) (fun J17 hm hJ17 => ?_)
 refine C.bnx ?_
 exact St.wk (hJ13 _ hm) (Wk.f [some 0] ⟨bX, trivial⟩)
 refine C.block ?_
 refine St.wk (C.loop (fun (s18 : Int) => [(1, .p 0 0), (3, .i s7), (4, .i s18)]) (fun (s18 : Int) => [(0, .box (eApiSite s_1))]) hm (fun s18 Y19 hm => ?_)) (Wk.f [some 0] ⟨bX, trivial⟩)
 refine C.seq (C.seq (U.start ?_))
 refine U.ps 2 T rfl ?_
 refine U.done (C.nx ?_)
 refine C.ite rfl hm (fun hb22 hm => ?_) (fun hb22 hm => ?_)
 refine C.skip (C.nx (C.seq (C.block (C.seq ?_))))
 refine D.beg 9999 [0] [] mix rfl rfl (by kernel_rfl) (by repeat (first | exact NoPanicQ.body | exact NoPanicQ.rnd | refine NoPanicQ.th ?_ | refine NoPanicQ.blk ?_)) (fun hQ hS ws M' => ?_)
 refine D.ps 5 [(0, []), (1, []), (2, []), (3, []), (4, [])] rfl hQ hS T rfl rfl (by kernel_rfl) ?_
 obtain ⟨x25, hx25, hm⟩ := hm
 refine D.q 5 [] hQ hS rfl (.none rfl) rfl rfl (by exact Rd.ix T rfl rfl rfl rfl rfl rfl hx25) rfl (by kernel_rfl) ?_
 refine D.ps 3 [(6, []), (7, []), (8, [])] rfl hQ hS T rfl rfl (by kernel_rfl) ?_
 refine D.e 9 rfl (.none rfl) (by exact Eff.k (T_taquinref07_Beside s_1.Floor x25.Cell s18 _ hm) en138 rfl rfl rfl (.eq rfl) (fun _ _ => ⟨(.v _), trivial⟩)) (by kernel_rfl) rfl rfl (fun x26' hm => ?_)
 obtain ⟨x26⟩ := x26'
 refine D.ps 1 [(10, [])] rfl hQ hS T rfl rfl (by kernel_rfl) ?_
 refine D.done (by kernel_rfl) ?_
 refine C.nx (C.seq (U.start ?_))
 refine U.ps 3 T rfl ?_
 refine U.e rfl (.none rfl) (by exact Eff.k (T_taquinref11_shelfAt s_1.Shelves x26 _ hm) en84 rfl rfl rfl (.eq rfl) (fun _ _ => ⟨(.v _), trivial⟩)) (fun x29' hm => ?_)
 obtain ⟨x29⟩ := x29'
 refine U.ps 1 T rfl ?_
 refine U.done (C.nx (C.seq ?_))
 refine C.jn (fun (x30 : Bool) => [(1, .p 0 0), (3, .i s7), (4, .i s18), (60, .b x30)]) (fun (x30 : Bool) => [(0, .box (eApiSite s_1))]) 1 hm (fun x30 hm => ?_) (fun J31 hm hJ31 => ?_)
 refine C.nx ?_
 refine C.ite rfl hm (fun hb37 hm => ?_) (fun hb37 hm => ?_)
 refine C.seq (U.start ?_)
 refine U.ps 2 T rfl ?_
 refine U.done (C.nx (C.ret (C.brt (C.rt (C.rt (C.brt (C.brt (C.rt (C.rt (C.brt (C.rt ?_)))))))))))
 exact C.f0 T (rs' := [.i s7]) hβ ⟨s7, hm, rfl, rfl, rfl⟩
 refine C.skip (C.bnx (C.nx (U.start ?_)))
 refine U.ps 3 T rfl ?_
 refine U.done (C.nx ?_)
 exact St.wk (C.next hm) (Wk.f [some 0] ⟨bX, trivial⟩)
 refine D.beg 9999 [0] [] mix rfl rfl (by kernel_rfl) (by repeat (first | exact NoPanicQ.body | exact NoPanicQ.rnd | refine NoPanicQ.th ?_ | refine NoPanicQ.blk ?_)) (fun hQ hS ws M' => ?_)
 refine D.ps 3 [(0, []), (1, []), (2, [])] rfl hQ hS T rfl rfl (by kernel_rfl) ?_
 refine hm.cs (fun hb32 hm => ?_) (fun hb32 hm => ?_)
 refine D.q 3 [] hQ hS rfl (.take 2 true 34 _ hb32 rfl rfl rfl) rfl rfl (by exact Rd.p T rfl) rfl (by kernel_rfl) ?_
 refine D.q 4 [] hQ hS rfl (.take 2 true 34 _ hb32 rfl rfl rfl) rfl rfl (by exact Rd.p T rfl) rfl (by kernel_rfl) ?_
 refine D.q 5 [] hQ hS rfl (.none rfl) rfl rfl (by exact Rd.pk rfl rfl hb32 rfl) rfl (by kernel_rfl) ?_
 refine D.ps 1 [(6, [])] rfl hQ hS T rfl rfl (by kernel_rfl) ?_
 refine hm.cs (fun hb33 hm => ?_) (fun hb33 hm => ?_)
 refine D.q 7 [] hQ hS rfl (.take 6 true 38 _ hb33 rfl rfl rfl) rfl rfl (by exact Rd.p T rfl) rfl (by kernel_rfl) ?_
 refine D.q 8 [] hQ hS rfl (.take 6 true 38 _ hb33 rfl rfl rfl) rfl rfl (by exact Rd.p T rfl) rfl (by kernel_rfl) ?_
 refine D.q 9 [] hQ hS rfl (.take 6 true 38 _ hb33 rfl rfl rfl) rfl rfl (by exact Rd.p T rfl) rfl (by kernel_rfl) ?_
 refine D.q 10 [] hQ hS rfl (.none rfl) rfl rfl (by exact Rd.pk rfl rfl hb33 rfl) rfl (by kernel_rfl) ?_
 refine D.ps 1 [(11, [])] rfl hQ hS T rfl rfl (by kernel_rfl) ?_
 refine hm.cs (fun hb34 hm => ?_) (fun hb34 hm => ?_)
 refine D.q 12 [] hQ hS rfl (.take 11 true 43 _ hb34 rfl rfl rfl) rfl rfl (by exact Rd.p T rfl) rfl (by kernel_rfl) ?_
 refine D.q 13 [] hQ hS rfl (.take 11 true 43 _ hb34 rfl rfl rfl) rfl rfl (by exact Rd.l T rfl rfl rfl) rfl (by kernel_rfl) ?_
 refine D.q 14 [] hQ hS rfl (.take 11 true 43 _ hb34 rfl rfl rfl) rfl rfl (by exact Rd.p T rfl) rfl (by kernel_rfl) ?_
 refine D.q 15 [] hQ hS rfl (.take 11 true 43 _ hb34 rfl rfl rfl) rfl rfl (by exact Rd.l T rfl rfl rfl) rfl (by kernel_rfl) ?_
 refine D.q 16 [] hQ hS rfl (.take 11 true 43 _ hb34 rfl rfl rfl) rfl rfl (by exact Rd.p T rfl) rfl (by kernel_rfl) ?_
 refine D.q 17 [] hQ hS rfl (.take 11 true 43 _ hb34 rfl rfl rfl) rfl rfl (by exact Rd.ix T rfl rfl rfl rfl rfl rfl hx25) rfl (by kernel_rfl) ?_
 refine D.q 18 [] hQ hS rfl (.take 11 true 43 _ hb34 rfl rfl rfl) rfl rfl (by exact Rd.p T rfl) rfl (by kernel_rfl) ?_
 refine D.q 19 [] hQ hS rfl (.take 11 true 43 _ hb34 rfl rfl rfl) rfl rfl (by exact Rd.l T rfl rfl rfl) rfl (by kernel_rfl) ?_
 refine D.q 20 [] hQ hS rfl (.take 11 true 43 _ hb34 rfl rfl rfl) rfl rfl (by exact Rd.p T rfl) rfl (by kernel_rfl) ?_
 refine D.q 21 [] hQ hS rfl (.take 11 true 43 _ hb34 rfl rfl rfl) rfl rfl (by exact Rd.l T rfl rfl rfl) rfl (by kernel_rfl) ?_
 refine D.q 22 [] hQ hS rfl (.take 11 true 43 _ hb34 rfl rfl rfl) rfl rfl (by exact Rd.p T rfl) rfl (by kernel_rfl) ?_
 refine D.q 23 [] hQ hS rfl (.take 11 true 43 _ hb34 rfl rfl rfl) rfl rfl (by exact Rd.p T rfl) rfl (by kernel_rfl) ?_
 obtain ⟨x35, hx35, hm⟩ := hm
 refine D.q 24 [] hQ hS rfl (.take 11 true 43 _ hb34 rfl rfl rfl) rfl rfl (by exact Rd.ix T rfl rfl rfl rfl rfl rfl hx35) rfl (by kernel_rfl) ?_
 refine D.q 25 [] hQ hS rfl (.take 11 true 43 _ hb34 rfl rfl rfl) rfl rfl (by exact Rd.p T rfl) rfl (by kernel_rfl) ?_
 refine D.q 26 [] hQ hS rfl (.take 11 true 43 _ hb34 rfl rfl rfl) rfl rfl (by exact Rd.l T rfl rfl rfl) rfl (by kernel_rfl) ?_
 refine D.e 27 rfl (.take 11 true 43 _ hb34 rfl rfl rfl) (by exact Eff.k (T_taquinref11_Apart s_1.Aparts x25.Class x35.Class _ hm) en81 rfl rfl rfl (.eq rfl) (fun _ _ => ⟨(.v _), trivial⟩)) (by kernel_rfl) rfl rfl (fun x36' hm => ?_)
 obtain ⟨x36⟩ := x36'
 refine D.q 28 [] hQ hS rfl (.none rfl) rfl rfl (by exact Rd.pk rfl rfl hb34 rfl) rfl (by kernel_rfl) ?_
 refine D.done (by kernel_rfl) ?_
 exact St.wk (hJ31 _ hm) (Wk.f [some 0] ⟨bX, trivial⟩)
 refine D.sq 12 [] hQ hS rfl (.skip 11 true 43 _ hb34 rfl rfl rfl) rfl rfl (by kernel_rfl) ?_
 refine D.sq 13 [] hQ hS rfl (.skip 11 true 43 _ hb34 rfl rfl rfl) rfl rfl (by kernel_rfl) ?_
 refine D.sq 14 [] hQ hS rfl (.skip 11 true 43 _ hb34 rfl rfl rfl) rfl rfl (by kernel_rfl) ?_
 refine D.sq 15 [] hQ hS rfl (.skip 11 true 43 _ hb34 rfl rfl rfl) rfl rfl (by kernel_rfl) ?_
 refine D.sq 16 [] hQ hS rfl (.skip 11 true 43 _ hb34 rfl rfl rfl) rfl rfl (by kernel_rfl) ?_
 refine D.sq 17 [] hQ hS rfl (.skip 11 true 43 _ hb34 rfl rfl rfl) rfl rfl (by kernel_rfl) ?_
 refine D.sq 18 [] hQ hS rfl (.skip 11 true 43 _ hb34 rfl rfl rfl) rfl rfl (by kernel_rfl) ?_
 refine D.sq 19 [] hQ hS rfl (.skip 11 true 43 _ hb34 rfl rfl rfl) rfl rfl (by kernel_rfl) ?_
 refine D.sq 20 [] hQ hS rfl (.skip 11 true 43 _ hb34 rfl rfl rfl) rfl rfl (by kernel_rfl) ?_
 refine D.sq 21 [] hQ hS rfl (.skip 11 true 43 _ hb34 rfl rfl rfl) rfl rfl (by kernel_rfl) ?_
 refine D.sq 22 [] hQ hS rfl (.skip 11 true 43 _ hb34 rfl rfl rfl) rfl rfl (by kernel_rfl) ?_
 refine D.sq 23 [] hQ hS rfl (.skip 11 true 43 _ hb34 rfl rfl rfl) rfl rfl (by kernel_rfl) ?_
 refine D.sq 24 [] hQ hS rfl (.skip 11 true 43 _ hb34 rfl rfl rfl) rfl rfl (by kernel_rfl) ?_
 refine D.sq 25 [] hQ hS rfl (.skip 11 true 43 _ hb34 rfl rfl rfl) rfl rfl (by kernel_rfl) ?_
 refine D.sq 26 [] hQ hS rfl (.skip 11 true 43 _ hb34 rfl rfl rfl) rfl rfl (by kernel_rfl) ?_
 refine D.sq 27 [] hQ hS rfl (.skip 11 true 43 _ hb34 rfl rfl rfl) rfl rfl (by kernel_rfl) ?_
 refine D.q 28 [] hQ hS rfl (.none rfl) rfl rfl (by exact Rd.pk' rfl rfl hb34 rfl) rfl (by kernel_rfl) ?_
 refine D.done (by kernel_rfl) ?_
 exact St.wk (hJ31 _ hm) (Wk.f [some 0] ⟨bX, trivial⟩)
 refine D.sq 7 [] hQ hS rfl (.skip 6 true 38 _ hb33 rfl rfl rfl) rfl rfl (by kernel_rfl) ?_
 refine D.sq 8 [] hQ hS rfl (.skip 6 true 38 _ hb33 rfl rfl rfl) rfl rfl (by kernel_rfl) ?_
 refine D.sq 9 [] hQ hS rfl (.skip 6 true 38 _ hb33 rfl rfl rfl) rfl rfl (by kernel_rfl) ?_
 refine D.q 10 [] hQ hS rfl (.none rfl) rfl rfl (by exact Rd.pk' rfl rfl hb33 rfl) rfl (by kernel_rfl) ?_
 refine D.ps 1 [(11, [])] rfl hQ hS T rfl rfl (by kernel_rfl) ?_
 refine D.sq 12 [] hQ hS rfl (.skip 11 true 43 _ rfl rfl rfl rfl) rfl rfl (by kernel_rfl) ?_
 refine D.sq 13 [] hQ hS rfl (.skip 11 true 43 _ rfl rfl rfl rfl) rfl rfl (by kernel_rfl) ?_
 refine D.sq 14 [] hQ hS rfl (.skip 11 true 43 _ rfl rfl rfl rfl) rfl rfl (by kernel_rfl) ?_
 refine D.sq 15 [] hQ hS rfl (.skip 11 true 43 _ rfl rfl rfl rfl) rfl rfl (by kernel_rfl) ?_
 refine D.sq 16 [] hQ hS rfl (.skip 11 true 43 _ rfl rfl rfl rfl) rfl rfl (by kernel_rfl) ?_
 refine D.sq 17 [] hQ hS rfl (.skip 11 true 43 _ rfl rfl rfl rfl) rfl rfl (by kernel_rfl) ?_
 refine D.sq 18 [] hQ hS rfl (.skip 11 true 43 _ rfl rfl rfl rfl) rfl rfl (by kernel_rfl) ?_
 refine D.sq 19 [] hQ hS rfl (.skip 11 true 43 _ rfl rfl rfl rfl) rfl rfl (by kernel_rfl) ?_
 refine D.sq 20 [] hQ hS rfl (.skip 11 true 43 _ rfl rfl rfl rfl) rfl rfl (by kernel_rfl) ?_
 refine D.sq 21 [] hQ hS rfl (.skip 11 true 43 _ rfl rfl rfl rfl) rfl rfl (by kernel_rfl) ?_
 refine D.sq 22 [] hQ hS rfl (.skip 11 true 43 _ rfl rfl rfl rfl) rfl rfl (by kernel_rfl) ?_
 refine D.sq 23 [] hQ hS rfl (.skip 11 true 43 _ rfl rfl rfl rfl) rfl rfl (by kernel_rfl) ?_
 refine D.sq 24 [] hQ hS rfl (.skip 11 true 43 _ rfl rfl rfl rfl) rfl rfl (by kernel_rfl) ?_
 refine D.sq 25 [] hQ hS rfl (.skip 11 true 43 _ rfl rfl rfl rfl) rfl rfl (by kernel_rfl) ?_
 refine D.sq 26 [] hQ hS rfl (.skip 11 true 43 _ rfl rfl rfl rfl) rfl rfl (by kernel_rfl) ?_
 refine D.sq 27 [] hQ hS rfl (.skip 11 true 43 _ rfl rfl rfl rfl) rfl rfl (by kernel_rfl) ?_
 refine D.q 28 [] hQ hS rfl (.none rfl) rfl rfl (by exact Rd.pk' rfl rfl rfl rfl) rfl (by kernel_rfl) ?_
 refine D.done (by kernel_rfl) ?_
 exact St.wk (hJ31 _ hm) (Wk.f [some 0] ⟨bX, trivial⟩)
 refine D.sq 3 [] hQ hS rfl (.skip 2 true 34 _ hb32 rfl rfl rfl) rfl rfl (by kernel_rfl) ?_
 refine D.sq 4 [] hQ hS rfl (.skip 2 true 34 _ hb32 rfl rfl rfl) rfl rfl (by kernel_rfl) ?_
 refine D.q 5 [] hQ hS rfl (.none rfl) rfl rfl (by exact Rd.pk' rfl rfl hb32 rfl) rfl (by kernel_rfl) ?_
 refine D.ps 1 [(6, [])] rfl hQ hS T rfl rfl (by kernel_rfl) ?_
 refine D.sq 7 [] hQ hS rfl (.skip 6 true 38 _ rfl rfl rfl rfl) rfl rfl (by kernel_rfl) ?_
 refine D.sq 8 [] hQ hS rfl (.skip 6 true 38 _ rfl rfl rfl rfl) rfl rfl (by kernel_rfl) ?_
 refine D.sq 9 [] hQ hS rfl (.skip 6 true 38 _ rfl rfl rfl rfl) rfl rfl (by kernel_rfl) ?_
 refine D.q 10 [] hQ hS rfl (.none rfl) rfl rfl (by exact Rd.pk' rfl rfl rfl rfl) rfl (by kernel_rfl) ?_
 refine D.ps 1 [(11, [])] rfl hQ hS T rfl rfl (by kernel_rfl) ?_
 refine D.sq 12 [] hQ hS rfl (.skip 11 true 43 _ rfl rfl rfl rfl) rfl rfl (by kernel_rfl) ?_
 refine D.sq 13 [] hQ hS rfl (.skip 11 true 43 _ rfl rfl rfl rfl) rfl rfl (by kernel_rfl) ?_
 refine D.sq 14 [] hQ hS rfl (.skip 11 true 43 _ rfl rfl rfl rfl) rfl rfl (by kernel_rfl) ?_
 refine D.sq 15 [] hQ hS rfl (.skip 11 true 43 _ rfl rfl rfl rfl) rfl rfl (by kernel_rfl) ?_
 refine D.sq 16 [] hQ hS rfl (.skip 11 true 43 _ rfl rfl rfl rfl) rfl rfl (by kernel_rfl) ?_
 refine D.sq 17 [] hQ hS rfl (.skip 11 true 43 _ rfl rfl rfl rfl) rfl rfl (by kernel_rfl) ?_
 refine D.sq 18 [] hQ hS rfl (.skip 11 true 43 _ rfl rfl rfl rfl) rfl rfl (by kernel_rfl) ?_
 refine D.sq 19 [] hQ hS rfl (.skip 11 true 43 _ rfl rfl rfl rfl) rfl rfl (by kernel_rfl) ?_
 refine D.sq 20 [] hQ hS rfl (.skip 11 true 43 _ rfl rfl rfl rfl) rfl rfl (by kernel_rfl) ?_
 refine D.sq 21 [] hQ hS rfl (.skip 11 true 43 _ rfl rfl rfl rfl) rfl rfl (by kernel_rfl) ?_
 refine D.sq 22 [] hQ hS rfl (.skip 11 true 43 _ rfl rfl rfl rfl) rfl rfl (by kernel_rfl) ?_
 refine D.sq 23 [] hQ hS rfl (.skip 11 true 43 _ rfl rfl rfl rfl) rfl rfl (by kernel_rfl) ?_
 refine D.sq 24 [] hQ hS rfl (.skip 11 true 43 _ rfl rfl rfl rfl) rfl rfl (by kernel_rfl) ?_
 refine D.sq 25 [] hQ hS rfl (.skip 11 true 43 _ rfl rfl rfl rfl) rfl rfl (by kernel_rfl) ?_
 refine D.sq 26 [] hQ hS rfl (.skip 11 true 43 _ rfl rfl rfl rfl) rfl rfl (by kernel_rfl) ?_
 refine D.sq 27 [] hQ hS rfl (.skip 11 true 43 _ rfl rfl rfl rfl) rfl rfl (by kernel_rfl) ?_
 refine D.q 28 [] hQ hS rfl (.none rfl) rfl rfl (by exact Rd.pk' rfl rfl rfl rfl) rfl (by kernel_rfl) ?_
 refine D.done (by kernel_rfl) ?_
 exact St.wk (hJ31 _ hm) (Wk.f [some 0] ⟨bX, trivial⟩)
 refine C.exit (C.ex (C.ex (C.bex ?_)))
 exact St.wk (hJ17 _ hm) (Wk.f [some 0] ⟨bX, trivial⟩)
 refine C.exit (C.ex (C.ex (C.bex ?_)))
 exact St.wk (hJ6 _ hm) (Wk.mk' [] rfl rfl trivial trivial rfl)
theorem T_taquinref11_charger (f : ApiFloor) (post : Bool → Prop) (hm : V_taquinref11_charger f post) :
    Tr Tryz.prog 88 [.agg (eApiFloor f)] [] 0 (fun A H' k => ∃ y, post y ∧ A = (.b y) ∧ H' = [] ∧ k = 0) := by
 refine Tr.intro (n := 6) Tryz.func88 rfl Tryz.ntmps88 rfl (fun w0 ok F β hβ => ?_)
 unfold V_taquinref11_charger at hm
 refine C.seq (U.start ?_)
 refine U.e1 rfl (.none rfl) (by exact Eff1.box rfl rfl rfl rfl rfl) ?_
 refine U.ps 1 T rfl ?_
 refine U.done (C.nx (C.seq (U.start ?_)))
 refine U.ps 2 T rfl ?_
 refine U.e rfl (.none rfl) (by exact Eff.k (T_taquinref07_Has f.Kind 3 _ hm) en22 rfl rfl rfl (.eq rfl) (fun _ _ => ⟨(.v _), trivial⟩)) (fun x5' hm => ?_)
 obtain ⟨x5⟩ := x5'
 refine U.ps 1 T rfl ?_
 refine U.done (C.nx (C.ret ?_))
 exact C.f0 T (rs' := [.b x5]) hβ ⟨x5, hm, rfl, rfl, rfl⟩
theorem T_taquinref11_Right (s_1 : ApiSite) (post : Bool → Prop) (hm : V_taquinref11_Right s_1 post) :
    Tr Tryz.prog 35 [.agg (eApiSite s_1)] [] 0 (fun A H' k => ∃ y, post y ∧ A = (.b y) ∧ H' = [] ∧ k = 0) := by
 refine Tr.intro (n := 186) Tryz.func35 rfl Tryz.ntmps35 rfl (fun w0 ok F β hβ => ?_)
 unfold V_taquinref11_Right at hm
 refine C.seq (U.start ?_)
 refine U.e1 rfl (.none rfl) (by exact Eff1.box rfl rfl rfl rfl rfl) ?_
 refine U.ps 1 T rfl ?_
 refine U.done (C.nx (C.seq (C.seq ?_)))
 refine C.jn (fun (x3 : Bool) => [(1, .p 0 0), (30, .b x3)]) (fun (x3 : Bool) => [(0, .box (eApiSite s_1))]) 1 hm (fun x3 hm => ?_) (fun J4 hm hJ4 => ?_)
 refine C.nx ?_
 refine C.ite rfl hm (fun hb10 hm => ?_) (fun hb10 hm => ?_)
 refine C.seq (U.start ?_)
 refine U.ps 1 T rfl ?_
 refine U.done (C.nx (C.ret (C.rt ?_)))
 exact C.f0 T (rs' := [.b false]) hβ ⟨false, hm, rfl, rfl, rfl⟩
 refine C.skip (C.nx (C.seq (C.seq (U.start ?_))))
 refine U.ps 1 T rfl ?_
 refine U.done (C.nx ?_)
 refine C.jn (fun (x15 : Unit) => [(1, .p 0 0)]) (fun (x15 : Unit) => [(0, .box (eApiSite s_1))]) 1 hm (fun x15 hm => ?_) (fun J16 hm hJ16 => ?_)
 refine C.nx (C.seq (C.seq (U.start ?_)))
 refine U.ps 1 T rfl ?_
 refine U.done (C.nx ?_)
 refine C.jn (fun (x40 : Unit) => [(1, .p 0 0)]) (fun (x40 : Unit) => [(0, .box (eApiSite s_1))]) 1 hm (fun x40 hm => ?_) (fun J41 hm hJ41 => ?_)
 refine C.nx (C.seq (C.seq (U.start ?_)))
 refine U.ps 1 T rfl ?_
 refine U.done (C.nx ?_)
 refine C.jn (fun (x73 : Unit) => [(1, .p 0 0)]) (fun (x73 : Unit) => [(0, .box (eApiSite s_1))]) 1 hm (fun x73 hm => ?_) (fun J74 hm hJ74 => ?_)
 refine C.nx (C.seq (C.seq (U.start ?_)))
 refine U.ps 1 T rfl ?_
 refine U.done (C.nx ?_)
 refine C.jn (fun (x104 : Unit) => [(1, .p 0 0)]) (fun (x104 : Unit) => [(0, .box (eApiSite s_1))]) 1 hm (fun x104 hm => ?_) (fun J105 hm hJ105 => ?_)
 refine C.nx (C.seq ?_)
 refine C.jn (fun (x120 : Bool) => [(2, .b x120)]) (fun (x120 : Bool) => []) 0 hm (fun x120 hm => ?_) (fun J121 hm hJ121 => ?_)
 refine C.nx (C.ret ?_)
 exact C.f0 T (rs' := [.b x120]) hβ ⟨x120, hm, rfl, rfl, rfl⟩
 refine U.start ?_
 refine U.ps 1 T rfl ?_
 refine U.e rfl (.none rfl) (by exact Eff.k (T_taquinref11_Beside s_1 _ hm) en87 rfl rfl rfl (.eq rfl) (fun _ _ => ⟨(.v _), trivial⟩)) (fun x122' hm => ?_)
 obtain ⟨x122⟩ := x122'
 refine U.ps 2 T rfl ?_
 refine hm.cs (fun hb123 hm => ?_) (fun hb123 hm => ?_)
 refine U.pg 2 3 true 181 hb123 T rfl rfl rfl rfl ?_
 refine U.e rfl (.take 3 true 181 _ hb123 rfl rfl rfl) (by exact Eff.k (T_taquinref11_charger s_1.Floor _ hm) en88 rfl rfl rfl (.eq rfl) (fun _ _ => ⟨(.v _), trivial⟩)) (fun x124' hm => ?_)
 obtain ⟨x124⟩ := x124'
 refine U.r rfl (.none rfl) rfl rfl (by exact Rd.pk rfl rfl hb123 rfl) ?_
 refine U.ps 1 T rfl ?_
 refine U.done ?_
 exact St.wk (hJ121 _ hm) (Wk.e)
 refine U.sks 3 3 true 181 hb123 rfl rfl rfl ?_
 refine U.r rfl (.none rfl) rfl rfl (by exact Rd.pk' rfl rfl hb123 rfl) ?_
 refine U.ps 1 T rfl ?_
 refine U.done ?_
 exact St.wk (hJ121 _ hm) (Wk.e)
 refine C.block ?_
 refine St.wk (C.loop (fun (s106 : Int) => [(1, .p 0 0), (9, .i s106)]) (fun (s106 : Int) => [(0, .box (eApiSite s_1))]) hm (fun s106 Y107 hm => ?_)) (Wk.f [some 0] ⟨bX, trivial⟩)
 refine C.seq (C.seq (U.start ?_))
 refine U.ps 5 T rfl ?_
 refine U.done (C.nx ?_)
 refine C.ite rfl hm (fun hb110 hm => ?_) (fun hb110 hm => ?_)
 refine C.skip (C.nx (C.seq (C.block (C.seq ?_))))
 refine D.beg 9999 [0] [] mix rfl rfl (by kernel_rfl) (by repeat (first | exact NoPanicQ.body | exact NoPanicQ.rnd | refine NoPanicQ.th ?_ | refine NoPanicQ.blk ?_)) (fun hQ hS ws M' => ?_)
 refine D.ps 4 [(0, []), (1, []), (2, []), (3, [])] rfl hQ hS T rfl rfl (by kernel_rfl) ?_
 obtain ⟨x113, hx113, hm⟩ := hm
 refine D.q 4 [] hQ hS rfl (.none rfl) rfl rfl (by exact Rd.ix T rfl rfl rfl rfl rfl rfl hx113) rfl (by kernel_rfl) ?_
 refine D.ps 4 [(5, []), (7, []), (8, []), (9, [])] rfl hQ hS T rfl rfl (by kernel_rfl) ?_
 refine D.q 10 [] hQ hS rfl (.none rfl) rfl rfl (by exact Rd.ix T rfl rfl rfl rfl rfl rfl hx113) rfl (by kernel_rfl) ?_
 refine D.ps 2 [(11, []), (12, [])] rfl hQ hS T rfl rfl (by kernel_rfl) ?_
 refine D.e 6 rfl (.none rfl) (by exact Eff.k (T_taquinref11_blanks s_1 x113 _ hm) en86 rfl rfl rfl (.eq rfl) (fun _ _ => ⟨(.v _), trivial⟩)) (by kernel_rfl) rfl rfl (fun x114' hm => ?_)
 obtain ⟨x114⟩ := x114'
 refine D.ps 1 [(13, [])] rfl hQ hS T rfl rfl (by kernel_rfl) ?_
 refine D.done (by kernel_rfl) ?_
 refine C.nx ?_
 refine C.ite rfl hm (fun hb115 hm => ?_) (fun hb115 hm => ?_)
 refine C.seq (U.start ?_)
 refine U.ps 1 T rfl ?_
 refine U.done (C.nx (C.ret (C.brt (C.rt (C.rt (C.brt (C.rt ?_)))))))
 exact C.f0 T (rs' := [.b false]) hβ ⟨false, hm, rfl, rfl, rfl⟩
 refine C.skip (C.bnx (C.nx (U.start ?_)))
 refine U.ps 3 T rfl ?_
 refine U.done (C.nx ?_)
 exact St.wk (C.next hm) (Wk.f [some 0] ⟨bX, trivial⟩)
 refine C.exit (C.ex (C.ex (C.bex ?_)))
 exact St.wk (hJ105 _ hm) (Wk.f [some 0] ⟨bX, trivial⟩)
 refine C.block ?_
 refine St.wk (C.loop (fun (s75 : Int) => [(1, .p 0 0), (7, .i s75)]) (fun (s75 : Int) => [(0, .box (eApiSite s_1))]) hm (fun s75 Y76 hm => ?_)) (Wk.f [some 0] ⟨bX, trivial⟩)
 refine C.seq (C.seq (U.start ?_))
 refine U.ps 5 T rfl ?_
 refine U.done (C.nx ?_)
 refine C.ite rfl hm (fun hb79 hm => ?_) (fun hb79 hm => ?_)
 refine C.skip (C.nx (C.seq (C.block (C.seq (U.start ?_)))))
 refine U.ps 3 T rfl ?_
 obtain ⟨x82, hx82, hm⟩ := hm
 refine U.r rfl (.none rfl) rfl rfl (by exact Rd.ix T rfl rfl rfl rfl rfl rfl hx82) ?_
 refine U.ps 1 T rfl ?_
 refine U.e1 rfl (.none rfl) (by exact Eff1.al T rfl rfl rfl rfl) ?_
 refine U.e1 rfl (.none rfl) (by exact Eff1.st T rfl rfl rfl rfl rfl rfl rfl rfl rfl rfl) ?_
 refine U.done (C.nx (C.seq (C.seq ?_)))
 refine C.jn (fun (x83 : Bool) => [(1, .p 0 0), (7, .i s75), (8, .p 1 0), (139, .b x83)]) (fun (x83 : Bool) => [(0, .box (eApiSite s_1)), (1, .box [.i x82.Cell, .i x82.Charge])]) 2 hm (fun x83 hm => ?_) (fun J84 hm hJ84 => ?_)
 refine C.nx ?_
 refine C.ite rfl hm (fun hb88 hm => ?_) (fun hb88 hm => ?_)
 refine C.seq (U.start ?_)
 refine U.ps 1 T rfl ?_
 refine U.done (C.nx (C.ret (C.rt (C.brt (C.rt (C.rt (C.brt (C.rt ?_))))))))
 exact C.f0 T (rs' := [.b false]) hβ ⟨false, hm, rfl, rfl, rfl⟩
 refine C.skip (C.nx (C.seq ?_))
 refine C.jn (fun (x91 : Bool) => [(1, .p 0 0), (7, .i s75), (156, .b x91)]) (fun (x91 : Bool) => [(0, .box (eApiSite s_1))]) 1 hm (fun x91 hm => ?_) (fun J92 hm hJ92 => ?_)
 refine C.nx ?_
 refine C.ite rfl hm (fun hb97 hm => ?_) (fun hb97 hm => ?_)
 refine C.seq (U.start ?_)
 refine U.ps 1 T rfl ?_
 refine U.done (C.nx (C.ret (C.brt (C.rt (C.rt (C.brt (C.rt ?_)))))))
 exact C.f0 T (rs' := [.b false]) hβ ⟨false, hm, rfl, rfl, rfl⟩
 refine C.skip (C.bnx (C.nx (U.start ?_)))
 refine U.ps 3 T rfl ?_
 refine U.done (C.nx ?_)
 exact St.wk (C.next hm) (Wk.f [some 0] ⟨bX, trivial⟩)
 refine D.beg 9999 [0, 1] [] mix rfl rfl (by kernel_rfl) (by repeat (first | exact NoPanicQ.body | exact NoPanicQ.rnd | refine NoPanicQ.th ?_ | refine NoPanicQ.blk ?_)) (fun hQ hS ws M' => ?_)
 refine D.ps 5 [(0, []), (1, []), (2, []), (3, []), (4, [])] rfl hQ hS T rfl rfl (by kernel_rfl) ?_
 obtain ⟨x93, hx93, hm⟩ := hm
 refine D.q 5 [] hQ hS rfl (.none rfl) rfl rfl (by exact Rd.ix T rfl rfl rfl rfl rfl rfl hx93) rfl (by kernel_rfl) ?_
 refine D.ps 3 [(6, []), (7, []), (8, [])] rfl hQ hS T rfl rfl (by kernel_rfl) ?_
 refine hm.cs (fun hb94 hm => ?_) (fun hb94 hm => ?_)
 refine D.sq 9 [] hQ hS rfl (.skip 8 false 148 _ hb94 rfl rfl rfl) rfl rfl (by kernel_rfl) ?_
 refine D.sq 10 [] hQ hS rfl (.skip 8 false 148 _ hb94 rfl rfl rfl) rfl rfl (by kernel_rfl) ?_
 refine D.sq 11 [] hQ hS rfl (.skip 8 false 148 _ hb94 rfl rfl rfl) rfl rfl (by kernel_rfl) ?_
 refine D.sq 12 [] hQ hS rfl (.skip 8 false 148 _ hb94 rfl rfl rfl) rfl rfl (by kernel_rfl) ?_
 refine D.sq 13 [] hQ hS rfl (.skip 8 false 148 _ hb94 rfl rfl rfl) rfl rfl (by kernel_rfl) ?_
 refine D.sq 14 [] hQ hS rfl (.skip 8 false 148 _ hb94 rfl rfl rfl) rfl rfl (by kernel_rfl) ?_
 refine D.sq 15 [] hQ hS rfl (.skip 8 false 148 _ hb94 rfl rfl rfl) rfl rfl (by kernel_rfl) ?_
 refine D.q 16 [] hQ hS rfl (.none rfl) rfl rfl (by exact Rd.pk rfl rfl hb94 rfl) rfl (by kernel_rfl) ?_
 refine D.done (by kernel_rfl) ?_
 exact St.wk (hJ92 _ hm) (Wk.f [some 0] ⟨bX, trivial⟩)
 refine D.q 9 [] hQ hS rfl (.take 8 false 148 _ hb94 rfl rfl rfl) rfl rfl (by exact Rd.p T rfl) rfl (by kernel_rfl) ?_
 refine D.q 10 [] hQ hS rfl (.take 8 false 148 _ hb94 rfl rfl rfl) rfl rfl (by exact Rd.l T rfl rfl rfl) rfl (by kernel_rfl) ?_
 refine D.q 11 [] hQ hS rfl (.take 8 false 148 _ hb94 rfl rfl rfl) rfl rfl (by exact Rd.p T rfl) rfl (by kernel_rfl) ?_
 obtain ⟨hx95, hm⟩ := hm
 refine D.q 12 [] hQ hS rfl (.take 8 false 148 _ hb94 rfl rfl rfl) rfl rfl (by exact Rd.so T rfl rfl rfl rfl rfl (.none _) (.some _ rfl) hx95) rfl (by kernel_rfl) ?_
 refine D.q 13 [] hQ hS rfl (.take 8 false 148 _ hb94 rfl rfl rfl) rfl rfl (by exact Rd.p T rfl) rfl (by kernel_rfl) ?_
 refine D.q 14 [] hQ hS rfl (.take 8 false 148 _ hb94 rfl rfl rfl) rfl rfl (by exact Rd.l T rfl rfl rfl) rfl (by kernel_rfl) ?_
 refine D.e 15 rfl (.take 8 false 148 _ hb94 rfl rfl rfl) (by exact Eff.k (T_taquinref11_robotAt (sub s_1.Robots 0 s75) x82.Cell _ hm) en85 rfl rfl rfl (.eq rfl) (fun _ _ => ⟨(.v _), trivial⟩)) (by kernel_rfl) rfl rfl (fun x96' hm => ?_)
 obtain ⟨x96⟩ := x96'
 refine D.q 16 [] hQ hS rfl (.none rfl) rfl rfl (by exact Rd.pk' rfl rfl hb94 rfl) rfl (by kernel_rfl) ?_
 refine D.done (by kernel_rfl) ?_
 exact St.wk (hJ92 _ hm) (Wk.f [some 0] ⟨bX, trivial⟩)
 refine U.start ?_
 refine U.ps 4 T rfl ?_
 refine U.e rfl (.none rfl) (by exact Eff.k (T_taquinref07_Is s_1.Floor x82.Cell _ hm) en82 rfl rfl rfl (.eq rfl) (fun _ _ => ⟨(.v _), trivial⟩)) (fun x85' hm => ?_)
 obtain ⟨x85⟩ := x85'
 refine U.ps 2 T rfl ?_
 refine hm.cs (fun hb86 hm => ?_) (fun hb86 hm => ?_)
 refine U.pg 3 6 false 130 (ntF hb86) T rfl rfl rfl rfl ?_
 refine U.r rfl (.none rfl) rfl rfl (by exact Rd.pk' rfl rfl (ntF hb86) rfl) ?_
 refine U.ps 1 T rfl ?_
 refine hm.cs (fun hb87 hm => ?_) (fun hb87 hm => ?_)
 refine U.sks 3 11 false 135 hb87 rfl rfl rfl ?_
 refine U.r rfl (.none rfl) rfl rfl (by exact Rd.pk rfl rfl hb87 rfl) ?_
 refine U.done ?_
 exact St.wk (hJ84 _ hm) (Wk.f [some 0, some 1] ⟨bX, bX, trivial⟩)
 refine U.pg 3 11 false 135 hb87 T rfl rfl rfl rfl ?_
 refine U.r rfl (.none rfl) rfl rfl (by exact Rd.pk' rfl rfl hb87 rfl) ?_
 refine U.done ?_
 exact St.wk (hJ84 _ hm) (Wk.f [some 0, some 1] ⟨bX, bX, trivial⟩)
 refine U.sks 3 6 false 130 (ntT hb86) rfl rfl rfl ?_
 refine U.r rfl (.none rfl) rfl rfl (by exact Rd.pk rfl rfl (ntT hb86) rfl) ?_
 refine U.ps 1 T rfl ?_
 refine U.sks 3 11 false 135 rfl rfl rfl rfl ?_
 refine U.r rfl (.none rfl) rfl rfl (by exact Rd.pk rfl rfl rfl rfl) ?_
 refine U.done ?_
 exact St.wk (hJ84 _ hm) (Wk.f [some 0, some 1] ⟨bX, bX, trivial⟩)
 refine C.exit (C.ex (C.ex (C.bex ?_)))
 exact St.wk (hJ74 _ hm) (Wk.f [some 0] ⟨bX, trivial⟩)
 refine C.block ?_
 refine St.wk (C.loop (fun (s42 : Int) => [(1, .p 0 0), (5, .i s42)]) (fun (s42 : Int) => [(0, .box (eApiSite s_1))]) hm (fun s42 Y43 hm => ?_)) (Wk.f [some 0] ⟨bX, trivial⟩)
 refine C.seq (C.seq (U.start ?_))
 refine U.ps 5 T rfl ?_
 refine U.done (C.nx ?_)
 refine C.ite rfl hm (fun hb46 hm => ?_) (fun hb46 hm => ?_)
 refine C.skip (C.nx (C.seq (C.block (C.seq (U.start ?_)))))
 refine U.ps 3 T rfl ?_
 obtain ⟨x49, hx49, hm⟩ := hm
 refine U.r rfl (.none rfl) rfl rfl (by exact Rd.ix T rfl rfl rfl rfl rfl rfl hx49) ?_
 refine U.ps 1 T rfl ?_
 refine U.e1 rfl (.none rfl) (by exact Eff1.al T rfl rfl rfl rfl) ?_
 refine U.e1 rfl (.none rfl) (by exact Eff1.st T rfl rfl rfl rfl rfl rfl rfl rfl rfl rfl) ?_
 refine U.done (C.nx (C.seq (C.seq ?_)))
 refine C.jn (fun (x50 : Bool) => [(1, .p 0 0), (5, .i s42), (6, .p 1 0), (92, .b x50)]) (fun (x50 : Bool) => [(0, .box (eApiSite s_1)), (1, .box [.i x49.Cell, .v (.string x49.Class)])]) 2 hm (fun x50 hm => ?_) (fun J51 hm hJ51 => ?_)
 refine C.nx ?_
 refine C.ite rfl hm (fun hb56 hm => ?_) (fun hb56 hm => ?_)
 refine C.seq (U.start ?_)
 refine U.ps 1 T rfl ?_
 refine U.done (C.nx (C.ret (C.rt (C.brt (C.rt (C.rt (C.brt (C.rt ?_))))))))
 exact C.f0 T (rs' := [.b false]) hβ ⟨false, hm, rfl, rfl, rfl⟩
 refine C.skip (C.nx (C.seq ?_))
 refine C.jn (fun (x59 : Bool) => [(1, .p 0 0), (5, .i s42), (111, .b x59)]) (fun (x59 : Bool) => [(0, .box (eApiSite s_1))]) 1 hm (fun x59 hm => ?_) (fun J60 hm hJ60 => ?_)
 refine C.nx ?_
 refine C.ite rfl hm (fun hb66 hm => ?_) (fun hb66 hm => ?_)
 refine C.seq (U.start ?_)
 refine U.ps 1 T rfl ?_
 refine U.done (C.nx (C.ret (C.brt (C.rt (C.rt (C.brt (C.rt ?_)))))))
 exact C.f0 T (rs' := [.b false]) hβ ⟨false, hm, rfl, rfl, rfl⟩
 refine C.skip (C.bnx (C.nx (U.start ?_)))
 refine U.ps 3 T rfl ?_
 refine U.done (C.nx ?_)
 exact St.wk (C.next hm) (Wk.f [some 0] ⟨bX, trivial⟩)
 refine D.beg 9999 [0, 1] [] mix rfl rfl (by kernel_rfl) (by repeat (first | exact NoPanicQ.body | exact NoPanicQ.rnd | refine NoPanicQ.th ?_ | refine NoPanicQ.blk ?_)) (fun hQ hS ws M' => ?_)
 refine D.ps 5 [(0, []), (1, []), (2, []), (3, []), (4, [])] rfl hQ hS T rfl rfl (by kernel_rfl) ?_
 obtain ⟨x61, hx61, hm⟩ := hm
 refine D.q 5 [] hQ hS rfl (.none rfl) rfl rfl (by exact Rd.ix T rfl rfl rfl rfl rfl rfl hx61) rfl (by kernel_rfl) ?_
 refine D.ps 1 [(6, [])] rfl hQ hS T rfl rfl (by kernel_rfl) ?_
 refine D.e 7 rfl (.none rfl) (by exact Eff.k (T_taquinref11_stands x61 _ hm) en83 rfl rfl rfl (.eq rfl) (fun _ _ => ⟨(.v _), trivial⟩)) (by kernel_rfl) rfl rfl (fun x62' hm => ?_)
 obtain ⟨x62⟩ := x62'
 refine D.ps 2 [(8, []), (9, [])] rfl hQ hS T rfl rfl (by kernel_rfl) ?_
 refine hm.cs (fun hb63 hm => ?_) (fun hb63 hm => ?_)
 refine D.q 10 [] hQ hS rfl (.take 9 false 102 _ (ntF hb63) rfl rfl rfl) rfl rfl (by exact Rd.p T rfl) rfl (by kernel_rfl) ?_
 refine D.q 11 [] hQ hS rfl (.take 9 false 102 _ (ntF hb63) rfl rfl rfl) rfl rfl (by exact Rd.l T rfl rfl rfl) rfl (by kernel_rfl) ?_
 refine D.q 12 [] hQ hS rfl (.take 9 false 102 _ (ntF hb63) rfl rfl rfl) rfl rfl (by exact Rd.p T rfl) rfl (by kernel_rfl) ?_
 obtain ⟨hx64, hm⟩ := hm
 refine D.q 13 [] hQ hS rfl (.take 9 false 102 _ (ntF hb63) rfl rfl rfl) rfl rfl (by exact Rd.so T rfl rfl rfl rfl rfl (.none _) (.some _ rfl) hx64) rfl (by kernel_rfl) ?_
 refine D.q 14 [] hQ hS rfl (.take 9 false 102 _ (ntF hb63) rfl rfl rfl) rfl rfl (by exact Rd.p T rfl) rfl (by kernel_rfl) ?_
 refine D.q 15 [] hQ hS rfl (.take 9 false 102 _ (ntF hb63) rfl rfl rfl) rfl rfl (by exact Rd.l T rfl rfl rfl) rfl (by kernel_rfl) ?_
 refine D.e 16 rfl (.take 9 false 102 _ (ntF hb63) rfl rfl rfl) (by exact Eff.k (T_taquinref11_shelfAt (sub s_1.Shelves 0 s42) x49.Cell _ hm) en84 rfl rfl rfl (.eq rfl) (fun _ _ => ⟨(.v _), trivial⟩)) (by kernel_rfl) rfl rfl (fun x65' hm => ?_)
 obtain ⟨x65⟩ := x65'
 refine D.q 17 [] hQ hS rfl (.take 9 false 102 _ (ntF hb63) rfl rfl rfl) rfl rfl (by exact Rd.p T rfl) rfl (by kernel_rfl) ?_
 refine D.q 18 [] hQ hS rfl (.none rfl) rfl rfl (by exact Rd.pk' rfl rfl (ntF hb63) rfl) rfl (by kernel_rfl) ?_
 refine D.done (by kernel_rfl) ?_
 exact St.wk (hJ60 _ hm) (Wk.f [some 0] ⟨bX, trivial⟩)
 refine D.sq 10 [] hQ hS rfl (.skip 9 false 102 _ (ntT hb63) rfl rfl rfl) rfl rfl (by kernel_rfl) ?_
 refine D.sq 11 [] hQ hS rfl (.skip 9 false 102 _ (ntT hb63) rfl rfl rfl) rfl rfl (by kernel_rfl) ?_
 refine D.sq 12 [] hQ hS rfl (.skip 9 false 102 _ (ntT hb63) rfl rfl rfl) rfl rfl (by kernel_rfl) ?_
 refine D.sq 13 [] hQ hS rfl (.skip 9 false 102 _ (ntT hb63) rfl rfl rfl) rfl rfl (by kernel_rfl) ?_
 refine D.sq 14 [] hQ hS rfl (.skip 9 false 102 _ (ntT hb63) rfl rfl rfl) rfl rfl (by kernel_rfl) ?_
 refine D.sq 15 [] hQ hS rfl (.skip 9 false 102 _ (ntT hb63) rfl rfl rfl) rfl rfl (by kernel_rfl) ?_
 refine D.sq 16 [] hQ hS rfl (.skip 9 false 102 _ (ntT hb63) rfl rfl rfl) rfl rfl (by kernel_rfl) ?_
 refine D.sq 17 [] hQ hS rfl (.skip 9 false 102 _ (ntT hb63) rfl rfl rfl) rfl rfl (by kernel_rfl) ?_
 refine D.q 18 [] hQ hS rfl (.none rfl) rfl rfl (by exact Rd.pk rfl rfl (ntT hb63) rfl) rfl (by kernel_rfl) ?_
 refine D.done (by kernel_rfl) ?_
 exact St.wk (hJ60 _ hm) (Wk.f [some 0] ⟨bX, trivial⟩)
 refine U.start ?_
 refine U.ps 4 T rfl ?_
 refine U.e rfl (.none rfl) (by exact Eff.k (T_taquinref07_Is s_1.Floor x49.Cell _ hm) en82 rfl rfl rfl (.eq rfl) (fun _ _ => ⟨(.v _), trivial⟩)) (fun x52' hm => ?_)
 obtain ⟨x52⟩ := x52'
 refine U.ps 2 T rfl ?_
 refine hm.cs (fun hb53 hm => ?_) (fun hb53 hm => ?_)
 refine U.pg 4 6 false 82 (ntF hb53) T rfl rfl rfl rfl ?_
 refine hm.cs (fun hb54 hm => ?_) (fun hb54 hm => ?_)
 refine U.sks 4 10 true 86 (ntF hb54) rfl rfl rfl ?_
 refine U.r rfl (.take 6 false 82 _ (ntF hb53) rfl rfl rfl) rfl rfl (by exact Rd.pk' rfl rfl (ntF hb54) rfl) ?_
 refine U.r rfl (.none rfl) rfl rfl (by exact Rd.pk' rfl rfl (ntF hb53) rfl) ?_
 refine U.done ?_
 exact St.wk (hJ51 _ hm) (Wk.f [some 0, some 1] ⟨bX, bX, trivial⟩)
 refine U.pg 2 10 true 86 (ntT hb54) T rfl rfl rfl rfl ?_
 refine U.e rfl (.take 10 true 86 _ (ntT hb54) rfl rfl rfl) (by exact Eff.k (T_taquinref11_Name x49.Class _ hm) en80 rfl rfl rfl (.eq rfl) (fun _ _ => ⟨(.v _), trivial⟩)) (fun x55' hm => ?_)
 obtain ⟨x55⟩ := x55'
 refine U.pg 1 10 true 86 (ntT hb54) T rfl rfl rfl rfl ?_
 refine U.r rfl (.take 6 false 82 _ (ntF hb53) rfl rfl rfl) rfl rfl (by exact Rd.pk rfl rfl (ntT hb54) rfl) ?_
 refine U.r rfl (.none rfl) rfl rfl (by exact Rd.pk' rfl rfl (ntF hb53) rfl) ?_
 refine U.done ?_
 exact St.wk (hJ51 _ hm) (Wk.f [some 0, some 1] ⟨bX, bX, trivial⟩)
 refine U.sks 4 6 false 82 (ntT hb53) rfl rfl rfl ?_
 refine U.sku 4 10 true 86 rfl rfl rfl ?_
 refine U.sks 1 6 false 82 (ntT hb53) rfl rfl rfl ?_
 refine U.r rfl (.none rfl) rfl rfl (by exact Rd.pk rfl rfl (ntT hb53) rfl) ?_
 refine U.done ?_
 exact St.wk (hJ51 _ hm) (Wk.f [some 0, some 1] ⟨bX, bX, trivial⟩)
 refine C.exit (C.ex (C.ex (C.bex ?_)))
 exact St.wk (hJ41 _ hm) (Wk.f [some 0] ⟨bX, trivial⟩)
 refine C.block ?_
 refine St.wk (C.loop (fun (s17 : Int) => [(1, .p 0 0), (3, .i s17)]) (fun (s17 : Int) => [(0, .box (eApiSite s_1))]) hm (fun s17 Y18 hm => ?_)) (Wk.f [some 0] ⟨bX, trivial⟩)
 refine C.seq (C.seq (U.start ?_))
 refine U.ps 5 T rfl ?_
 refine U.done (C.nx ?_)
 refine C.ite rfl hm (fun hb21 hm => ?_) (fun hb21 hm => ?_)
 refine C.skip (C.nx (C.seq (C.block (C.seq (U.start ?_)))))
 refine U.ps 3 T rfl ?_
 obtain ⟨x24, hx24, hm⟩ := hm
 refine U.r rfl (.none rfl) rfl rfl (by exact Rd.ix T rfl rfl rfl rfl rfl rfl hx24) ?_
 refine U.ps 1 T rfl ?_
 refine U.e1 rfl (.none rfl) (by exact Eff1.al T rfl rfl rfl rfl) ?_
 refine U.e1 rfl (.none rfl) (by exact Eff1.st T rfl rfl rfl rfl rfl rfl rfl rfl rfl rfl) ?_
 refine U.done (C.nx (C.seq ?_))
 refine C.jn (fun (x25 : Bool) => [(1, .p 0 0), (3, .i s17), (63, .b x25)]) (fun (x25 : Bool) => [(0, .box (eApiSite s_1))]) 1 hm (fun x25 hm => ?_) (fun J26 hm hJ26 => ?_)
 refine C.nx ?_
 refine C.ite rfl hm (fun hb33 hm => ?_) (fun hb33 hm => ?_)
 refine C.seq (U.start ?_)
 refine U.ps 1 T rfl ?_
 refine U.done (C.nx (C.ret (C.brt (C.rt (C.rt (C.brt (C.rt ?_)))))))
 exact C.f0 T (rs' := [.b false]) hβ ⟨false, hm, rfl, rfl, rfl⟩
 refine C.skip (C.bnx (C.nx (U.start ?_)))
 refine U.ps 3 T rfl ?_
 refine U.done (C.nx ?_)
 exact St.wk (C.next hm) (Wk.f [some 0] ⟨bX, trivial⟩)
 refine D.beg 9999 [0, 1] [] mix rfl rfl (by kernel_rfl) (by repeat (first | exact NoPanicQ.body | exact NoPanicQ.rnd | refine NoPanicQ.th ?_ | refine NoPanicQ.blk ?_)) (fun hQ hS ws M' => ?_)
 refine D.ps 2 [(0, []), (1, [])] rfl hQ hS T rfl rfl (by kernel_rfl) ?_
 refine D.e 2 rfl (.none rfl) (by exact Eff.k (T_taquinref11_Name x24.A _ hm) en80 rfl rfl rfl (.eq rfl) (fun _ _ => ⟨(.v _), trivial⟩)) (by kernel_rfl) rfl rfl (fun x27' hm => ?_)
 obtain ⟨x27⟩ := x27'
 refine D.ps 2 [(3, []), (4, [])] rfl hQ hS T rfl rfl (by kernel_rfl) ?_
 refine hm.cs (fun hb28 hm => ?_) (fun hb28 hm => ?_)
 refine D.q 5 [] hQ hS rfl (.take 4 false 47 _ (ntF hb28) rfl rfl rfl) rfl rfl (by exact Rd.p T rfl) rfl (by kernel_rfl) ?_
 refine D.q 6 [] hQ hS rfl (.take 4 false 47 _ (ntF hb28) rfl rfl rfl) rfl rfl (by exact Rd.l T rfl rfl rfl) rfl (by kernel_rfl) ?_
 refine D.e 7 rfl (.take 4 false 47 _ (ntF hb28) rfl rfl rfl) (by exact Eff.k (T_taquinref11_Name x24.B _ hm) en80 rfl rfl rfl (.eq rfl) (fun _ _ => ⟨(.v _), trivial⟩)) (by kernel_rfl) rfl rfl (fun x29' hm => ?_)
 obtain ⟨x29⟩ := x29'
 refine D.q 8 [] hQ hS rfl (.take 4 false 47 _ (ntF hb28) rfl rfl rfl) rfl rfl (by exact Rd.p T rfl) rfl (by kernel_rfl) ?_
 refine D.q 9 [] hQ hS rfl (.none rfl) rfl rfl (by exact Rd.pk' rfl rfl (ntF hb28) rfl) rfl (by kernel_rfl) ?_
 refine D.ps 1 [(10, [])] rfl hQ hS T rfl rfl (by kernel_rfl) ?_
 refine hm.cs (fun hb30 hm => ?_) (fun hb30 hm => ?_)
 refine D.q 11 [] hQ hS rfl (.take 10 false 53 _ (ntF hb30) rfl rfl rfl) rfl rfl (by exact Rd.p T rfl) rfl (by kernel_rfl) ?_
 refine D.q 12 [] hQ hS rfl (.take 10 false 53 _ (ntF hb30) rfl rfl rfl) rfl rfl (by exact Rd.l T rfl rfl rfl) rfl (by kernel_rfl) ?_
 refine D.q 13 [] hQ hS rfl (.take 10 false 53 _ (ntF hb30) rfl rfl rfl) rfl rfl (by exact Rd.p T rfl) rfl (by kernel_rfl) ?_
 obtain ⟨hx31, hm⟩ := hm
 refine D.q 14 [] hQ hS rfl (.take 10 false 53 _ (ntF hb30) rfl rfl rfl) rfl rfl (by exact Rd.so T rfl rfl rfl rfl rfl (.none _) (.some _ rfl) hx31) rfl (by kernel_rfl) ?_
 refine D.q 15 [] hQ hS rfl (.take 10 false 53 _ (ntF hb30) rfl rfl rfl) rfl rfl (by exact Rd.p T rfl) rfl (by kernel_rfl) ?_
 refine D.q 16 [] hQ hS rfl (.take 10 false 53 _ (ntF hb30) rfl rfl rfl) rfl rfl (by exact Rd.l T rfl rfl rfl) rfl (by kernel_rfl) ?_
 refine D.q 17 [] hQ hS rfl (.take 10 false 53 _ (ntF hb30) rfl rfl rfl) rfl rfl (by exact Rd.p T rfl) rfl (by kernel_rfl) ?_
 refine D.q 18 [] hQ hS rfl (.take 10 false 53 _ (ntF hb30) rfl rfl rfl) rfl rfl (by exact Rd.l T rfl rfl rfl) rfl (by kernel_rfl) ?_
 refine D.e 19 rfl (.take 10 false 53 _ (ntF hb30) rfl rfl rfl) (by exact Eff.k (T_taquinref11_Apart (sub s_1.Aparts 0 s17) x24.A x24.B _ hm) en81 rfl rfl rfl (.eq rfl) (fun _ _ => ⟨(.v _), trivial⟩)) (by kernel_rfl) rfl rfl (fun x32' hm => ?_)
 obtain ⟨x32⟩ := x32'
 refine D.q 20 [] hQ hS rfl (.none rfl) rfl rfl (by exact Rd.pk' rfl rfl (ntF hb30) rfl) rfl (by kernel_rfl) ?_
 refine D.done (by kernel_rfl) ?_
 exact St.wk (hJ26 _ hm) (Wk.f [some 0] ⟨bX, trivial⟩)
 refine D.sq 11 [] hQ hS rfl (.skip 10 false 53 _ (ntT hb30) rfl rfl rfl) rfl rfl (by kernel_rfl) ?_
 refine D.sq 12 [] hQ hS rfl (.skip 10 false 53 _ (ntT hb30) rfl rfl rfl) rfl rfl (by kernel_rfl) ?_
 refine D.sq 13 [] hQ hS rfl (.skip 10 false 53 _ (ntT hb30) rfl rfl rfl) rfl rfl (by kernel_rfl) ?_
 refine D.sq 14 [] hQ hS rfl (.skip 10 false 53 _ (ntT hb30) rfl rfl rfl) rfl rfl (by kernel_rfl) ?_
 refine D.sq 15 [] hQ hS rfl (.skip 10 false 53 _ (ntT hb30) rfl rfl rfl) rfl rfl (by kernel_rfl) ?_
 refine D.sq 16 [] hQ hS rfl (.skip 10 false 53 _ (ntT hb30) rfl rfl rfl) rfl rfl (by kernel_rfl) ?_
 refine D.sq 17 [] hQ hS rfl (.skip 10 false 53 _ (ntT hb30) rfl rfl rfl) rfl rfl (by kernel_rfl) ?_
 refine D.sq 18 [] hQ hS rfl (.skip 10 false 53 _ (ntT hb30) rfl rfl rfl) rfl rfl (by kernel_rfl) ?_
 refine D.sq 19 [] hQ hS rfl (.skip 10 false 53 _ (ntT hb30) rfl rfl rfl) rfl rfl (by kernel_rfl) ?_
 refine D.q 20 [] hQ hS rfl (.none rfl) rfl rfl (by exact Rd.pk rfl rfl (ntT hb30) rfl) rfl (by kernel_rfl) ?_
 refine D.done (by kernel_rfl) ?_
 exact St.wk (hJ26 _ hm) (Wk.f [some 0] ⟨bX, trivial⟩)
 refine D.sq 5 [] hQ hS rfl (.skip 4 false 47 _ (ntT hb28) rfl rfl rfl) rfl rfl (by kernel_rfl) ?_
 refine D.sq 6 [] hQ hS rfl (.skip 4 false 47 _ (ntT hb28) rfl rfl rfl) rfl rfl (by kernel_rfl) ?_
 refine D.sq 7 [] hQ hS rfl (.skip 4 false 47 _ (ntT hb28) rfl rfl rfl) rfl rfl (by kernel_rfl) ?_
 refine D.sq 8 [] hQ hS rfl (.skip 4 false 47 _ (ntT hb28) rfl rfl rfl) rfl rfl (by kernel_rfl) ?_
 refine D.q 9 [] hQ hS rfl (.none rfl) rfl rfl (by exact Rd.pk rfl rfl (ntT hb28) rfl) rfl (by kernel_rfl) ?_
 refine D.ps 1 [(10, [])] rfl hQ hS T rfl rfl (by kernel_rfl) ?_
 refine D.sq 11 [] hQ hS rfl (.skip 10 false 53 _ rfl rfl rfl rfl) rfl rfl (by kernel_rfl) ?_
 refine D.sq 12 [] hQ hS rfl (.skip 10 false 53 _ rfl rfl rfl rfl) rfl rfl (by kernel_rfl) ?_
 refine D.sq 13 [] hQ hS rfl (.skip 10 false 53 _ rfl rfl rfl rfl) rfl rfl (by kernel_rfl) ?_
 refine D.sq 14 [] hQ hS rfl (.skip 10 false 53 _ rfl rfl rfl rfl) rfl rfl (by kernel_rfl) ?_
 refine D.sq 15 [] hQ hS rfl (.skip 10 false 53 _ rfl rfl rfl rfl) rfl rfl (by kernel_rfl) ?_
 refine D.sq 16 [] hQ hS rfl (.skip 10 false 53 _ rfl rfl rfl rfl) rfl rfl (by kernel_rfl) ?_
 refine D.sq 17 [] hQ hS rfl (.skip 10 false 53 _ rfl rfl rfl rfl) rfl rfl (by kernel_rfl) ?_
 refine D.sq 18 [] hQ hS rfl (.skip 10 false 53 _ rfl rfl rfl rfl) rfl rfl (by kernel_rfl) ?_
 refine D.sq 19 [] hQ hS rfl (.skip 10 false 53 _ rfl rfl rfl rfl) rfl rfl (by kernel_rfl) ?_
 refine D.q 20 [] hQ hS rfl (.none rfl) rfl rfl (by exact Rd.pk rfl rfl rfl rfl) rfl (by kernel_rfl) ?_
 refine D.done (by kernel_rfl) ?_
 exact St.wk (hJ26 _ hm) (Wk.f [some 0] ⟨bX, trivial⟩)
 refine C.exit (C.ex (C.ex (C.bex ?_)))
 exact St.wk (hJ16 _ hm) (Wk.f [some 0] ⟨bX, trivial⟩)
 refine U.start ?_
 refine U.ps 2 T rfl ?_
 refine U.e rfl (.none rfl) (by exact Eff.k (T_taquinref07_Right s_1.Floor _ hm) en78 rfl rfl rfl (.eq rfl) (fun _ _ => ⟨(.v _), trivial⟩)) (fun x5' hm => ?_)
 obtain ⟨x5⟩ := x5'
 refine U.ps 2 T rfl ?_
 refine hm.cs (fun hb6 hm => ?_) (fun hb6 hm => ?_)
 refine U.pg 1 4 false 14 (ntF hb6) T rfl rfl rfl rfl ?_
 refine U.e rfl (.take 4 false 14 _ (ntF hb6) rfl rfl rfl) (by exact Eff.k (T_taquinref11_rightZones s_1 _ hm) en79 rfl rfl rfl (.eq rfl) (fun _ _ => ⟨(.v _), trivial⟩)) (fun x7' hm => ?_)
 obtain ⟨x7⟩ := x7'
 refine U.pg 1 4 false 14 (ntF hb6) T rfl rfl rfl rfl ?_
 refine U.r rfl (.none rfl) rfl rfl (by exact Rd.pk' rfl rfl (ntF hb6) rfl) ?_
 refine U.ps 1 T rfl ?_
 refine hm.cs (fun hb8 hm => ?_) (fun hb8 hm => ?_)
 refine U.pg 4 9 false 19 (ntF hb8) T rfl rfl rfl rfl ?_
 refine U.r rfl (.none rfl) rfl rfl (by exact Rd.pk' rfl rfl (ntF hb8) rfl) ?_
 refine U.ps 1 T rfl ?_
 refine hm.cs (fun hb9 hm => ?_) (fun hb9 hm => ?_)
 refine U.sks 4 15 false 25 hb9 rfl rfl rfl ?_
 refine U.r rfl (.none rfl) rfl rfl (by exact Rd.pk rfl rfl hb9 rfl) ?_
 refine U.done ?_
 exact St.wk (hJ4 _ hm) (Wk.f [some 0] ⟨bX, trivial⟩)
 refine U.pg 4 15 false 25 hb9 T rfl rfl rfl rfl ?_
 refine U.r rfl (.none rfl) rfl rfl (by exact Rd.pk' rfl rfl hb9 rfl) ?_
 refine U.done ?_
 exact St.wk (hJ4 _ hm) (Wk.f [some 0] ⟨bX, trivial⟩)
 refine U.sks 4 9 false 19 (ntT hb8) rfl rfl rfl ?_
 refine U.r rfl (.none rfl) rfl rfl (by exact Rd.pk rfl rfl (ntT hb8) rfl) ?_
 refine U.ps 1 T rfl ?_
 refine U.sks 4 15 false 25 rfl rfl rfl rfl ?_
 refine U.r rfl (.none rfl) rfl rfl (by exact Rd.pk rfl rfl rfl rfl) ?_
 refine U.done ?_
 exact St.wk (hJ4 _ hm) (Wk.f [some 0] ⟨bX, trivial⟩)
 refine U.sks 3 4 false 14 (ntT hb6) rfl rfl rfl ?_
 refine U.r rfl (.none rfl) rfl rfl (by exact Rd.pk rfl rfl (ntT hb6) rfl) ?_
 refine U.ps 1 T rfl ?_
 refine U.sks 4 9 false 19 rfl rfl rfl rfl ?_
 refine U.r rfl (.none rfl) rfl rfl (by exact Rd.pk rfl rfl rfl rfl) ?_
 refine U.ps 1 T rfl ?_
 refine U.sks 4 15 false 25 rfl rfl rfl rfl ?_
 refine U.r rfl (.none rfl) rfl rfl (by exact Rd.pk rfl rfl rfl rfl) ?_
 refine U.done ?_
 exact St.wk (hJ4 _ hm) (Wk.f [some 0] ⟨bX, trivial⟩)
theorem T_taquinref14_Few (st : ApiState) (post : Bool → Prop) (hm : V_taquinref14_Few st post) :
    Tr Tryz.prog 36 [.agg (eApiState st)] [] 0 (fun A H' k => ∃ y, post y ∧ A = (.b y) ∧ H' = [] ∧ k = 0) := by
 refine Tr.intro (n := 78) Tryz.func36 rfl Tryz.ntmps36 rfl (fun w0 ok F β hβ => ?_)
 unfold V_taquinref14_Few at hm
 refine C.seq (U.start ?_)
 refine U.e1 rfl (.none rfl) (by exact Eff1.box rfl rfl rfl rfl rfl) ?_
 refine U.ps 1 T rfl ?_
 refine U.done (C.nx (C.seq (C.seq ?_)))
 refine C.jn (fun (x3 : Bool) => [(1, .p 0 0), (33, .b x3)]) (fun (x3 : Bool) => [(0, .box (eApiState st))]) 1 hm (fun x3 hm => ?_) (fun J4 hm hJ4 => ?_)
 refine C.nx ?_
 refine C.ite rfl hm (fun hb9 hm => ?_) (fun hb9 hm => ?_)
 refine C.seq (U.start ?_)
 refine U.ps 1 T rfl ?_
 refine U.done (C.nx (C.ret (C.rt ?_)))
 exact C.f0 T (rs' := [.b false]) hβ ⟨false, hm, rfl, rfl, rfl⟩
 refine C.skip (C.nx (C.seq ?_))
 refine D.beg 9999 [0] [1, 2, 3] mix rfl rfl (by kernel_rfl) (by repeat (first | exact NoPanicQ.body | exact NoPanicQ.rnd | refine NoPanicQ.th ?_ | refine NoPanicQ.blk ?_)) (fun hQ hS ws M' => ?_)
 refine D.ps 6 [(1, []), (2, []), (4, []), (5, []), (7, []), (8, [])] rfl hQ hS T rfl rfl (by kernel_rfl) ?_
 refine D.e1 0 rfl (.none rfl) (by exact Eff1.bs T (enc := eI) (xs := ([] : List Int)) rfl rfl rfl rfl rfl rfl rfl rfl rfl rfl (fun _ _ => rfl) rfl rfl) (by kernel_rfl) rfl rfl ?_
 obtain ⟨hx14, hm⟩ := hm
 refine D.e1 3 rfl (.none rfl) (by exact Eff1.ap T rfl rfl rfl rfl rfl rfl (.inl rfl) rfl rfl rfl (fun _ => rfl) rfl hx14) (by kernel_rfl) rfl rfl ?_
 obtain ⟨hx15, hm⟩ := hm
 refine D.e1 6 rfl (.none rfl) (by exact Eff1.ap T rfl rfl rfl rfl rfl rfl (.inl rfl) rfl rfl rfl (fun _ => rfl) rfl hx15) (by kernel_rfl) rfl rfl ?_
 obtain ⟨hx16, hm⟩ := hm
 refine D.e1 9 rfl (.none rfl) (by exact Eff1.ap T rfl rfl rfl rfl rfl rfl (.inl rfl) rfl rfl rfl (fun _ => rfl) rfl hx16) (by kernel_rfl) rfl rfl ?_
 refine D.ps 1 [(10, [])] rfl hQ hS T rfl rfl (by kernel_rfl) ?_
 refine D.done (by kernel_rfl) ?_
 refine C.nx (C.seq (C.seq (U.start ?_)))
 refine U.ps 1 T rfl ?_
 refine U.done (C.nx ?_)
 refine C.jn (fun (x19 : List Int) => [(3, .o 0)]) (fun (x19 : List Int) => [(0, .val (.os 1 eI x19))]) 1 hm (fun x19 hm => ?_) (fun J20 hm hJ20 => ?_)
 refine C.nx (C.seq (C.seq (U.start ?_)))
 refine U.ps 1 T rfl ?_
 refine U.done (C.nx ?_)
 refine C.jn (fun (x34 : Unit) => []) (fun (x34 : Unit) => []) 0 hm (fun x34 hm => ?_) (fun J35 hm hJ35 => ?_)
 refine C.nx (C.seq (U.start ?_))
 refine U.ps 1 T rfl ?_
 refine U.done (C.nx (C.ret ?_))
 exact C.f0 T (rs' := [.b true]) hβ ⟨true, hm, rfl, rfl, rfl⟩
 refine C.block ?_
 refine St.wk (C.loop (fun (s36 : Int) => [(3, .o 0), (5, .i s36)]) (fun (s36 : Int) => [(0, .val (.os 1 eI x19))]) hm (fun s36 Y37 hm => ?_)) (Wk.f [some 0] ⟨vL, trivial⟩)
 refine C.seq (C.seq (U.start ?_))
 refine U.ps 4 T rfl ?_
 refine U.done (C.nx ?_)
 refine C.ite rfl hm (fun hb40 hm => ?_) (fun hb40 hm => ?_)
 refine C.skip (C.nx (C.seq (C.block (C.seq ?_))))
 refine C.jn (fun (x41 : Bool) => [(3, .o 0), (5, .i s36), (77, .b x41)]) (fun (x41 : Bool) => [(0, .val (.os 1 eI x19))]) 1 hm (fun x41 hm => ?_) (fun J42 hm hJ42 => ?_)
 refine C.nx ?_
 refine C.ite rfl hm (fun hb45 hm => ?_) (fun hb45 hm => ?_)
 refine C.seq (U.start ?_)
 refine U.ps 1 T rfl ?_
 refine U.done (C.nx (C.ret (C.brt (C.rt (C.rt (C.brt (C.rt ?_)))))))
 exact C.f0 T (rs' := [.b false]) hβ ⟨false, hm, rfl, rfl, rfl⟩
 refine C.skip (C.bnx (C.nx (U.start ?_)))
 refine U.ps 3 T rfl ?_
 refine U.done (C.nx ?_)
 exact St.wk (C.next hm) (Wk.f [some 0] ⟨vL, trivial⟩)
 refine U.start ?_
 refine U.ps 2 T rfl ?_
 obtain ⟨x43, hx43, hm⟩ := hm
 refine U.r rfl (.none rfl) rfl rfl (by exact Rd.io T rfl rfl rfl rfl rfl rfl rfl hx43) ?_
 refine U.r rfl (.none rfl) rfl rfl (by exact Rd.le T rfl rfl rfl (idx_some hx43).2.2 rfl rfl rfl) ?_
 refine U.ps 2 T rfl ?_
 refine hm.cs (fun hb44 hm => ?_) (fun hb44 hm => ?_)
 refine U.sks 5 5 false 71 hb44 rfl rfl rfl ?_
 refine U.r rfl (.none rfl) rfl rfl (by exact Rd.pk rfl rfl hb44 rfl) ?_
 refine U.done ?_
 exact St.wk (hJ42 _ hm) (Wk.f [some 0] ⟨vL, trivial⟩)
 refine U.pg 2 5 false 71 hb44 T rfl rfl rfl rfl ?_
 refine U.r rfl (.take 5 false 71 _ hb44 rfl rfl rfl) rfl rfl (by exact Rd.io T rfl rfl rfl rfl rfl rfl rfl hx43) ?_
 refine U.r rfl (.take 5 false 71 _ hb44 rfl rfl rfl) rfl rfl (by exact Rd.le T rfl rfl rfl (idx_some hx43).2.2 rfl rfl rfl) ?_
 refine U.pg 1 5 false 71 hb44 T rfl rfl rfl rfl ?_
 refine U.r rfl (.none rfl) rfl rfl (by exact Rd.pk' rfl rfl hb44 rfl) ?_
 refine U.done ?_
 exact St.wk (hJ42 _ hm) (Wk.f [some 0] ⟨vL, trivial⟩)
 refine C.exit (C.ex (C.ex (C.bex ?_)))
 exact St.wk (hJ35 _ hm) (Wk.mk' [] rfl rfl trivial trivial rfl)
 refine C.block ?_
 refine St.wk (C.loop (fun (s21 : List Int × Int) => [(1, .p 0 0), (3, .o 1), (4, .i s21.2)]) (fun (s21 : List Int × Int) => [(0, .box (eApiState st)), (1, .val (.os 1 eI s21.1))]) hm (fun s21 Y22 hm => ?_)) (Wk.f [some 0, some 4] ⟨bX, vL, trivial⟩)
 refine C.seq (C.seq (U.start ?_))
 refine U.ps 5 T rfl ?_
 refine U.done (C.nx ?_)
 refine C.ite rfl hm (fun hb25 hm => ?_) (fun hb25 hm => ?_)
 refine C.skip (C.nx (C.seq (C.block (U.start ?_))))
 refine U.ps 4 T rfl ?_
 obtain ⟨x28, hx28, hm⟩ := hm
 refine U.r rfl (.none rfl) rfl rfl (by exact Rd.ix T rfl rfl rfl rfl rfl rfl hx28) ?_
 refine U.ps 2 T rfl ?_
 refine U.e1 rfl (.none rfl) (by exact Eff1.bs T (enc := eI) (xs := ([x28.Cell] : List Int)) rfl rfl rfl rfl rfl rfl rfl rfl rfl rfl (fun _ _ => rfl) rfl rfl) ?_
 obtain ⟨hx29, hm⟩ := hm
 refine U.e1 rfl (.none rfl) (by exact Eff1.ap T rfl rfl rfl rfl rfl rfl (.inr ⟨_, rfl, rfl⟩) rfl rfl rfl (fun _ => rfl) rfl hx29) ?_
 refine U.ps 1 T rfl ?_
 refine U.done (C.bnx (C.nx (U.start ?_)))
 refine U.ps 3 T rfl ?_
 refine U.done (C.nx ?_)
 exact St.wk (C.next hm) (Wk.f [some 0, some 3] ⟨bX, vL, trivial⟩)
 refine C.exit (C.ex (C.ex (C.bex ?_)))
 exact St.wk (hJ20 _ hm) (Wk.f [some 1] ⟨vL, trivial⟩)
 refine U.start ?_
 refine U.ps 5 T rfl ?_
 refine hm.cs (fun hb5 hm => ?_) (fun hb5 hm => ?_)
 refine U.sks 4 4 false 10 hb5 rfl rfl rfl ?_
 refine U.r rfl (.none rfl) rfl rfl (by exact Rd.pk rfl rfl hb5 rfl) ?_
 refine U.ps 1 T rfl ?_
 refine U.sks 4 10 false 16 rfl rfl rfl rfl ?_
 refine U.r rfl (.none rfl) rfl rfl (by exact Rd.pk rfl rfl rfl rfl) ?_
 refine U.ps 1 T rfl ?_
 refine U.sks 4 16 false 22 rfl rfl rfl rfl ?_
 refine U.r rfl (.none rfl) rfl rfl (by exact Rd.pk rfl rfl rfl rfl) ?_
 refine U.ps 1 T rfl ?_
 refine U.sks 4 22 false 28 rfl rfl rfl rfl ?_
 refine U.r rfl (.none rfl) rfl rfl (by exact Rd.pk rfl rfl rfl rfl) ?_
 refine U.done ?_
 exact St.wk (hJ4 _ hm) (Wk.f [some 0] ⟨bX, trivial⟩)
 refine U.pg 4 4 false 10 hb5 T rfl rfl rfl rfl ?_
 refine U.r rfl (.none rfl) rfl rfl (by exact Rd.pk' rfl rfl hb5 rfl) ?_
 refine U.ps 1 T rfl ?_
 refine hm.cs (fun hb6 hm => ?_) (fun hb6 hm => ?_)
 refine U.sks 4 10 false 16 hb6 rfl rfl rfl ?_
 refine U.r rfl (.none rfl) rfl rfl (by exact Rd.pk rfl rfl hb6 rfl) ?_
 refine U.ps 1 T rfl ?_
 refine U.sks 4 16 false 22 rfl rfl rfl rfl ?_
 refine U.r rfl (.none rfl) rfl rfl (by exact Rd.pk rfl rfl rfl rfl) ?_
 refine U.ps 1 T rfl ?_
 refine U.sks 4 22 false 28 rfl rfl rfl rfl ?_
 refine U.r rfl (.none rfl) rfl rfl (by exact Rd.pk rfl rfl rfl rfl) ?_
 refine U.done ?_
 exact St.wk (hJ4 _ hm) (Wk.f [some 0] ⟨bX, trivial⟩)
 refine U.pg 4 10 false 16 hb6 T rfl rfl rfl rfl ?_
 refine U.r rfl (.none rfl) rfl rfl (by exact Rd.pk' rfl rfl hb6 rfl) ?_
 refine U.ps 1 T rfl ?_
 refine hm.cs (fun hb7 hm => ?_) (fun hb7 hm => ?_)
 refine U.sks 4 16 false 22 hb7 rfl rfl rfl ?_
 refine U.r rfl (.none rfl) rfl rfl (by exact Rd.pk rfl rfl hb7 rfl) ?_
 refine U.ps 1 T rfl ?_
 refine U.sks 4 22 false 28 rfl rfl rfl rfl ?_
 refine U.r rfl (.none rfl) rfl rfl (by exact Rd.pk rfl rfl rfl rfl) ?_
 refine U.done ?_
 exact St.wk (hJ4 _ hm) (Wk.f [some 0] ⟨bX, trivial⟩)
 refine U.pg 4 16 false 22 hb7 T rfl rfl rfl rfl ?_
 refine U.r rfl (.none rfl) rfl rfl (by exact Rd.pk' rfl rfl hb7 rfl) ?_
 refine U.ps 1 T rfl ?_
 refine hm.cs (fun hb8 hm => ?_) (fun hb8 hm => ?_)
 refine U.sks 4 22 false 28 hb8 rfl rfl rfl ?_
 refine U.r rfl (.none rfl) rfl rfl (by exact Rd.pk rfl rfl hb8 rfl) ?_
 refine U.done ?_
 exact St.wk (hJ4 _ hm) (Wk.f [some 0] ⟨bX, trivial⟩)
 refine U.pg 4 22 false 28 hb8 T rfl rfl rfl rfl ?_
 refine U.r rfl (.none rfl) rfl rfl (by exact Rd.pk' rfl rfl hb8 rfl) ?_
 refine U.done ?_
 exact St.wk (hJ4 _ hm) (Wk.f [some 0] ⟨bX, trivial⟩)
theorem T_taquinref14_kind (f : ApiFloor) (c : Int) (post : Int → Prop) (hm : V_taquinref14_kind f c post) :
    Tr Tryz.prog 90 [.agg (eApiFloor f), .i c] [] 0 (fun A H' k => ∃ y, post y ∧ A = (.i y) ∧ H' = [] ∧ k = 0) := by
 refine Tr.intro (n := 19) Tryz.func90 rfl Tryz.ntmps90 rfl (fun w0 ok F β hβ => ?_)
 unfold V_taquinref14_kind at hm
 refine C.seq (U.start ?_)
 refine U.e1 rfl (.none rfl) (by exact Eff1.box rfl rfl rfl rfl rfl) ?_
 refine U.ps 1 T rfl ?_
 refine U.done (C.nx (C.seq (C.seq ?_)))
 refine C.jn (fun (x3 : Bool) => [(1, .i c), (2, .p 0 0), (13, .b x3)]) (fun (x3 : Bool) => [(0, .box (eApiFloor f))]) 1 hm (fun x3 hm => ?_) (fun J4 hm hJ4 => ?_)
 refine C.nx ?_
 refine C.ite rfl hm (fun hb6 hm => ?_) (fun hb6 hm => ?_)
 refine C.seq (U.start ?_)
 refine U.ps 1 T rfl ?_
 refine U.done (C.nx (C.ret (C.rt ?_)))
 exact C.f0 T (rs' := [.i (-1)]) hβ ⟨(-1), hm, rfl, rfl, rfl⟩
 refine C.skip (C.nx (C.seq (U.start ?_)))
 refine U.ps 3 T rfl ?_
 obtain ⟨x11, hx11, hm⟩ := hm
 refine U.r rfl (.none rfl) rfl rfl (by exact Rd.ix T rfl rfl rfl rfl rfl rfl hx11) ?_
 refine U.ps 2 T rfl ?_
 refine U.done (C.nx (C.ret ?_))
 exact C.f0 T (rs' := [.i x11]) hβ ⟨x11, hm, rfl, rfl, rfl⟩
 refine U.start ?_
 refine U.ps 3 T rfl ?_
 refine hm.cs (fun hb5 hm => ?_) (fun hb5 hm => ?_)
 refine U.sks 5 2 false 7 hb5 rfl rfl rfl ?_
 refine U.r rfl (.none rfl) rfl rfl (by exact Rd.pk rfl rfl hb5 rfl) ?_
 refine U.done ?_
 exact St.wk (hJ4 _ hm) (Wk.f [some 0] ⟨bX, trivial⟩)
 refine U.pg 5 2 false 7 hb5 T rfl rfl rfl rfl ?_
 refine U.r rfl (.none rfl) rfl rfl (by exact Rd.pk' rfl rfl hb5 rfl) ?_
 refine U.done ?_
 exact St.wk (hJ4 _ hm) (Wk.f [some 0] ⟨bX, trivial⟩)
theorem T_taquinref14_Carrier (st : ApiState) (shelf : Int) (post : Int → Prop) (hm : V_taquinref14_Carrier st shelf post) :
    Tr Tryz.prog 91 [.agg (eApiState st), .i shelf] [] 0 (fun A H' k => ∃ y, post y ∧ A = (.i y) ∧ H' = [] ∧ k = 0) := by
 refine Tr.intro (n := 26) Tryz.func91 rfl Tryz.ntmps91 rfl (fun w0 ok F β hβ => ?_)
 unfold V_taquinref14_Carrier at hm
 refine C.seq (U.start ?_)
 refine U.e1 rfl (.none rfl) (by exact Eff1.box rfl rfl rfl rfl rfl) ?_
 refine U.ps 1 T rfl ?_
 refine U.done (C.nx (C.seq (C.seq (U.start ?_))))
 refine U.ps 1 T rfl ?_
 refine U.done (C.nx ?_)
 refine C.jn (fun (x5 : Unit) => []) (fun (x5 : Unit) => []) 0 hm (fun x5 hm => ?_) (fun J6 hm hJ6 => ?_)
 refine C.nx (C.seq (U.start ?_))
 refine U.ps 1 T rfl ?_
 refine U.done (C.nx (C.ret ?_))
 exact C.f0 T (rs' := [.i (-1)]) hβ ⟨(-1), hm, rfl, rfl, rfl⟩
 refine C.block ?_
 refine St.wk (C.loop (fun (s7 : Int) => [(1, .i shelf), (2, .p 0 0), (5, .i s7)]) (fun (s7 : Int) => [(0, .box (eApiState st))]) hm (fun s7 Y8 hm => ?_)) (Wk.f [some 0] ⟨bX, trivial⟩)
 refine C.seq (C.seq ?_)
 refine C.jn (fun (x9 : Bool) => [(1, .i shelf), (2, .p 0 0), (5, .i s7), (14, .b x9)]) (fun (x9 : Bool) => [(0, .box (eApiState st))]) 1 hm (fun x9 hm => ?_) (fun J10 hm hJ10 => ?_)
 refine C.nx ?_
 refine C.ite rfl hm (fun hb12 hm => ?_) (fun hb12 hm => ?_)
 refine C.skip (C.nx (C.seq (C.block (C.seq (U.start ?_)))))
 refine U.ps 3 T rfl ?_
 obtain ⟨x15, hx15, hm⟩ := hm
 refine U.r rfl (.none rfl) rfl rfl (by exact Rd.ix T rfl rfl rfl rfl rfl rfl hx15) ?_
 refine U.ps 4 T rfl ?_
 refine U.done (C.nx ?_)
 refine C.ite rfl hm (fun hb16 hm => ?_) (fun hb16 hm => ?_)
 refine C.seq (U.start ?_)
 refine U.ps 2 T rfl ?_
 refine U.done (C.nx (C.ret (C.brt (C.rt (C.rt (C.brt (C.rt ?_)))))))
 exact C.f0 T (rs' := [.i s7]) hβ ⟨s7, hm, rfl, rfl, rfl⟩
 refine C.skip (C.bnx (C.nx (U.start ?_)))
 refine U.ps 3 T rfl ?_
 refine U.done (C.nx ?_)
 exact St.wk (C.next hm) (Wk.f [some 0] ⟨bX, trivial⟩)
 refine C.exit (C.ex (C.ex (C.bex ?_)))
 exact St.wk (hJ6 _ hm) (Wk.mk' [] rfl rfl trivial trivial rfl)
 refine U.start ?_
 refine U.ps 6 T rfl ?_
 refine hm.cs (fun hb11 hm => ?_) (fun hb11 hm => ?_)
 refine U.pg 2 5 true 11 hb11 T rfl rfl rfl rfl ?_
 refine U.r rfl (.none rfl) rfl rfl (by exact Rd.pk rfl rfl hb11 rfl) ?_
 refine U.done ?_
 exact St.wk (hJ10 _ hm) (Wk.f [some 0] ⟨bX, trivial⟩)
 refine U.sks 2 5 true 11 hb11 rfl rfl rfl ?_
 refine U.r rfl (.none rfl) rfl rfl (by exact Rd.pk' rfl rfl hb11 rfl) ?_
 refine U.done ?_
 exact St.wk (hJ10 _ hm) (Wk.f [some 0] ⟨bX, trivial⟩)
theorem T_taquinref14_robot (s_1 : ApiSite) (st : ApiState) (i : Int) (post : Bool → Prop) (hm : V_taquinref14_robot s_1 st i post) :
    Tr Tryz.prog 89 [.agg (eApiSite s_1), .agg (eApiState st), .i i] [] 0 (fun A H' k => ∃ y, post y ∧ A = (.b y) ∧ H' = [] ∧ k = 0) := by
 refine Tr.intro (n := 88) Tryz.func89 rfl Tryz.ntmps89 rfl (fun w0 ok F β hβ => ?_)
 unfold V_taquinref14_robot at hm
 refine C.seq (U.start ?_)
 refine U.e1 rfl (.none rfl) (by exact Eff1.box rfl rfl rfl rfl rfl) ?_
 refine U.e1 rfl (.none rfl) (by exact Eff1.box rfl rfl rfl rfl rfl) ?_
 refine U.ps 1 T rfl ?_
 refine U.done (C.nx (C.seq (U.start ?_)))
 refine U.ps 3 T rfl ?_
 obtain ⟨x5, hx5, hm⟩ := hm
 refine U.r rfl (.none rfl) rfl rfl (by exact Rd.ix T rfl rfl rfl rfl rfl rfl hx5) ?_
 refine U.ps 1 T rfl ?_
 refine U.e1 rfl (.none rfl) (by exact Eff1.al T rfl rfl rfl rfl) ?_
 refine U.e1 rfl (.none rfl) (by exact Eff1.st T rfl rfl rfl rfl rfl rfl rfl rfl rfl rfl) ?_
 refine U.done (C.nx (C.seq (U.start ?_)))
 refine U.ps 4 T rfl ?_
 refine U.e rfl (.none rfl) (by exact Eff.k (T_taquinref14_kind s_1.Floor x5.Cell _ hm) en90 rfl rfl rfl (.eq rfl) (fun _ _ => ⟨(.v _), trivial⟩)) (fun x8' hm => ?_)
 obtain ⟨x8⟩ := x8'
 refine U.ps 1 T rfl ?_
 refine U.done (C.nx (C.seq (C.seq ?_)))
 refine C.jn (fun (x9 : Bool) => [(2, .i i), (4, .p 0 0), (7, .p 1 0), (67, .b x9)]) (fun (x9 : Bool) => [(0, .box (eApiState st)), (1, .box (eApiRobot x5))]) 2 hm (fun x9 hm => ?_) (fun J10 hm hJ10 => ?_)
 refine C.nx ?_
 refine C.ite rfl hm (fun hb20 hm => ?_) (fun hb20 hm => ?_)
 refine C.seq (U.start ?_)
 refine U.ps 1 T rfl ?_
 refine U.done (C.nx (C.ret (C.rt ?_)))
 exact C.f0 T (rs' := [.b false]) hβ ⟨false, hm, rfl, rfl, rfl⟩
 refine C.skip (C.nx (C.seq (C.seq (U.start ?_))))
 refine U.ps 3 T rfl ?_
 refine U.done (C.nx ?_)
 refine C.ite rfl hm (fun hb25 hm => ?_) (fun hb25 hm => ?_)
 refine C.seq ?_
 refine C.jn (fun (x26 : Bool) => [(6, .b x26)]) (fun (x26 : Bool) => []) 0 hm (fun x26 hm => ?_) (fun J27 hm hJ27 => ?_)
 refine C.nx (C.ret (C.rt ?_))
 exact C.f0 T (rs' := [.b x26]) hβ ⟨x26, hm, rfl, rfl, rfl⟩
 refine D.beg 9999 [0, 1] [] mix rfl rfl (by kernel_rfl) (by repeat (first | exact NoPanicQ.body | exact NoPanicQ.rnd | refine NoPanicQ.th ?_ | refine NoPanicQ.blk ?_)) (fun hQ hS ws M' => ?_)
 refine D.ps 4 [(0, []), (1, []), (2, []), (4, [])] rfl hQ hS T rfl rfl (by kernel_rfl) ?_
 refine D.e 3 rfl (.none rfl) (by exact Eff.k (T_taquinref14_Carrier st x5.Load _ hm) en91 rfl rfl rfl (.eq rfl) (fun _ _ => ⟨(.v _), trivial⟩)) (by kernel_rfl) rfl rfl (fun x28' hm => ?_)
 obtain ⟨x28⟩ := x28'
 refine D.ps 2 [(5, []), (6, [])] rfl hQ hS T rfl rfl (by kernel_rfl) ?_
 refine hm.cs (fun hb29 hm => ?_) (fun hb29 hm => ?_)
 refine D.q 7 [] hQ hS rfl (.take 6 true 77 _ hb29 rfl rfl rfl) rfl rfl (by exact Rd.p T rfl) rfl (by kernel_rfl) ?_
 refine D.q 8 [] hQ hS rfl (.take 6 true 77 _ hb29 rfl rfl rfl) rfl rfl (by exact Rd.l T rfl rfl rfl) rfl (by kernel_rfl) ?_
 refine D.q 9 [] hQ hS rfl (.take 6 true 77 _ hb29 rfl rfl rfl) rfl rfl (by exact Rd.p T rfl) rfl (by kernel_rfl) ?_
 refine D.q 10 [] hQ hS rfl (.take 6 true 77 _ hb29 rfl rfl rfl) rfl rfl (by exact Rd.l T rfl rfl rfl) rfl (by kernel_rfl) ?_
 obtain ⟨x30, hx30, hm⟩ := hm
 refine D.q 11 [] hQ hS rfl (.take 6 true 77 _ hb29 rfl rfl rfl) rfl rfl (by exact Rd.ix T rfl rfl rfl rfl rfl rfl hx30) rfl (by kernel_rfl) ?_
 refine D.q 12 [] hQ hS rfl (.take 6 true 77 _ hb29 rfl rfl rfl) rfl rfl (by exact Rd.l T rfl rfl rfl) rfl (by kernel_rfl) ?_
 refine D.q 13 [] hQ hS rfl (.take 6 true 77 _ hb29 rfl rfl rfl) rfl rfl (by exact Rd.p T rfl) rfl (by kernel_rfl) ?_
 refine D.q 14 [] hQ hS rfl (.take 6 true 77 _ hb29 rfl rfl rfl) rfl rfl (by exact Rd.l T rfl rfl rfl) rfl (by kernel_rfl) ?_
 refine D.q 15 [] hQ hS rfl (.take 6 true 77 _ hb29 rfl rfl rfl) rfl rfl (by exact Rd.p T rfl) rfl (by kernel_rfl) ?_
 refine D.q 16 [] hQ hS rfl (.none rfl) rfl rfl (by exact Rd.pk rfl rfl hb29 rfl) rfl (by kernel_rfl) ?_
 refine D.ps 1 [(17, [])] rfl hQ hS T rfl rfl (by kernel_rfl) ?_
 refine D.done (by kernel_rfl) ?_
 exact St.wk (hJ27 _ hm) (Wk.e)
 refine D.sq 7 [] hQ hS rfl (.skip 6 true 77 _ hb29 rfl rfl rfl) rfl rfl (by kernel_rfl) ?_
 refine D.sq 8 [] hQ hS rfl (.skip 6 true 77 _ hb29 rfl rfl rfl) rfl rfl (by kernel_rfl) ?_
 refine D.sq 9 [] hQ hS rfl (.skip 6 true 77 _ hb29 rfl rfl rfl) rfl rfl (by kernel_rfl) ?_
 refine D.sq 10 [] hQ hS rfl (.skip 6 true 77 _ hb29 rfl rfl rfl) rfl rfl (by kernel_rfl) ?_
 refine D.sq 11 [] hQ hS rfl (.skip 6 true 77 _ hb29 rfl rfl rfl) rfl rfl (by kernel_rfl) ?_
 refine D.sq 12 [] hQ hS rfl (.skip 6 true 77 _ hb29 rfl rfl rfl) rfl rfl (by kernel_rfl) ?_
 refine D.sq 13 [] hQ hS rfl (.skip 6 true 77 _ hb29 rfl rfl rfl) rfl rfl (by kernel_rfl) ?_
 refine D.sq 14 [] hQ hS rfl (.skip 6 true 77 _ hb29 rfl rfl rfl) rfl rfl (by kernel_rfl) ?_
 refine D.sq 15 [] hQ hS rfl (.skip 6 true 77 _ hb29 rfl rfl rfl) rfl rfl (by kernel_rfl) ?_
 refine D.q 16 [] hQ hS rfl (.none rfl) rfl rfl (by exact Rd.pk' rfl rfl hb29 rfl) rfl (by kernel_rfl) ?_
 refine D.ps 1 [(17, [])] rfl hQ hS T rfl rfl (by kernel_rfl) ?_
 refine D.done (by kernel_rfl) ?_
 exact St.wk (hJ27 _ hm) (Wk.e)
 refine C.skip (C.nx (C.seq (U.start ?_)))
 refine U.ps 1 T rfl ?_
 refine U.done (C.nx (C.ret ?_))
 exact C.f0 T (rs' := [.b true]) hβ ⟨true, hm, rfl, rfl, rfl⟩
 refine U.start ?_
 refine U.ps 3 T rfl ?_
 refine hm.cs (fun hb11 hm => ?_) (fun hb11 hm => ?_)
 refine U.sks 2 2 false 21 hb11 rfl rfl rfl ?_
 refine U.r rfl (.none rfl) rfl rfl (by exact Rd.pk rfl rfl hb11 rfl) ?_
 refine U.ps 1 T rfl ?_
 refine U.sks 3 6 false 25 rfl rfl rfl rfl ?_
 refine U.r rfl (.none rfl) rfl rfl (by exact Rd.pk rfl rfl rfl rfl) ?_
 refine U.ps 1 T rfl ?_
 refine U.sks 6 11 false 30 rfl rfl rfl rfl ?_
 refine U.r rfl (.none rfl) rfl rfl (by exact Rd.pk rfl rfl rfl rfl) ?_
 refine U.ps 1 T rfl ?_
 refine U.sks 3 19 false 38 rfl rfl rfl rfl ?_
 refine U.r rfl (.none rfl) rfl rfl (by exact Rd.pk rfl rfl rfl rfl) ?_
 refine U.ps 1 T rfl ?_
 refine U.sks 3 24 false 43 rfl rfl rfl rfl ?_
 refine U.r rfl (.none rfl) rfl rfl (by exact Rd.pk rfl rfl rfl rfl) ?_
 refine U.ps 1 T rfl ?_
 refine U.sks 3 29 false 48 rfl rfl rfl rfl ?_
 refine U.r rfl (.none rfl) rfl rfl (by exact Rd.pk rfl rfl rfl rfl) ?_
 refine U.ps 1 T rfl ?_
 refine U.sks 3 34 false 53 rfl rfl rfl rfl ?_
 refine U.r rfl (.none rfl) rfl rfl (by exact Rd.pk rfl rfl rfl rfl) ?_
 refine U.ps 1 T rfl ?_
 refine U.sks 3 39 false 58 rfl rfl rfl rfl ?_
 refine U.r rfl (.none rfl) rfl rfl (by exact Rd.pk rfl rfl rfl rfl) ?_
 refine U.ps 1 T rfl ?_
 refine U.sks 3 44 false 63 rfl rfl rfl rfl ?_
 refine U.r rfl (.none rfl) rfl rfl (by exact Rd.pk rfl rfl rfl rfl) ?_
 refine U.done ?_
 exact St.wk (hJ10 _ hm) (Wk.f [some 1, some 2] ⟨bX, bX, trivial⟩)
 refine U.pg 2 2 false 21 hb11 T rfl rfl rfl rfl ?_
 refine U.r rfl (.none rfl) rfl rfl (by exact Rd.pk' rfl rfl hb11 rfl) ?_
 refine U.ps 1 T rfl ?_
 refine hm.cs (fun hb12 hm => ?_) (fun hb12 hm => ?_)
 refine U.sks 3 6 false 25 hb12 rfl rfl rfl ?_
 refine U.r rfl (.none rfl) rfl rfl (by exact Rd.pk rfl rfl hb12 rfl) ?_
 refine U.ps 1 T rfl ?_
 refine U.sks 6 11 false 30 rfl rfl rfl rfl ?_
 refine U.r rfl (.none rfl) rfl rfl (by exact Rd.pk rfl rfl rfl rfl) ?_
 refine U.ps 1 T rfl ?_
 refine U.sks 3 19 false 38 rfl rfl rfl rfl ?_
 refine U.r rfl (.none rfl) rfl rfl (by exact Rd.pk rfl rfl rfl rfl) ?_
 refine U.ps 1 T rfl ?_
 refine U.sks 3 24 false 43 rfl rfl rfl rfl ?_
 refine U.r rfl (.none rfl) rfl rfl (by exact Rd.pk rfl rfl rfl rfl) ?_
 refine U.ps 1 T rfl ?_
 refine U.sks 3 29 false 48 rfl rfl rfl rfl ?_
 refine U.r rfl (.none rfl) rfl rfl (by exact Rd.pk rfl rfl rfl rfl) ?_
 refine U.ps 1 T rfl ?_
 refine U.sks 3 34 false 53 rfl rfl rfl rfl ?_
 refine U.r rfl (.none rfl) rfl rfl (by exact Rd.pk rfl rfl rfl rfl) ?_
 refine U.ps 1 T rfl ?_
 refine U.sks 3 39 false 58 rfl rfl rfl rfl ?_
 refine U.r rfl (.none rfl) rfl rfl (by exact Rd.pk rfl rfl rfl rfl) ?_
 refine U.ps 1 T rfl ?_
 refine U.sks 3 44 false 63 rfl rfl rfl rfl ?_
 refine U.r rfl (.none rfl) rfl rfl (by exact Rd.pk rfl rfl rfl rfl) ?_
 refine U.done ?_
 exact St.wk (hJ10 _ hm) (Wk.f [some 1, some 2] ⟨bX, bX, trivial⟩)
 refine U.pg 3 6 false 25 hb12 T rfl rfl rfl rfl ?_
 refine U.r rfl (.none rfl) rfl rfl (by exact Rd.pk' rfl rfl hb12 rfl) ?_
 refine U.ps 1 T rfl ?_
 refine hm.cs (fun hb13 hm => ?_) (fun hb13 hm => ?_)
 refine U.sks 6 11 false 30 hb13 rfl rfl rfl ?_
 refine U.r rfl (.none rfl) rfl rfl (by exact Rd.pk rfl rfl hb13 rfl) ?_
 refine U.ps 1 T rfl ?_
 refine U.sks 3 19 false 38 rfl rfl rfl rfl ?_
 refine U.r rfl (.none rfl) rfl rfl (by exact Rd.pk rfl rfl rfl rfl) ?_
 refine U.ps 1 T rfl ?_
 refine U.sks 3 24 false 43 rfl rfl rfl rfl ?_
 refine U.r rfl (.none rfl) rfl rfl (by exact Rd.pk rfl rfl rfl rfl) ?_
 refine U.ps 1 T rfl ?_
 refine U.sks 3 29 false 48 rfl rfl rfl rfl ?_
 refine U.r rfl (.none rfl) rfl rfl (by exact Rd.pk rfl rfl rfl rfl) ?_
 refine U.ps 1 T rfl ?_
 refine U.sks 3 34 false 53 rfl rfl rfl rfl ?_
 refine U.r rfl (.none rfl) rfl rfl (by exact Rd.pk rfl rfl rfl rfl) ?_
 refine U.ps 1 T rfl ?_
 refine U.sks 3 39 false 58 rfl rfl rfl rfl ?_
 refine U.r rfl (.none rfl) rfl rfl (by exact Rd.pk rfl rfl rfl rfl) ?_
 refine U.ps 1 T rfl ?_
 refine U.sks 3 44 false 63 rfl rfl rfl rfl ?_
 refine U.r rfl (.none rfl) rfl rfl (by exact Rd.pk rfl rfl rfl rfl) ?_
 refine U.done ?_
 exact St.wk (hJ10 _ hm) (Wk.f [some 1, some 2] ⟨bX, bX, trivial⟩)
 refine U.pg 6 11 false 30 hb13 T rfl rfl rfl rfl ?_
 refine U.r rfl (.none rfl) rfl rfl (by exact Rd.pk' rfl rfl hb13 rfl) ?_
 refine U.ps 1 T rfl ?_
 refine hm.cs (fun hb14 hm => ?_) (fun hb14 hm => ?_)
 refine U.sks 3 19 false 38 hb14 rfl rfl rfl ?_
 refine U.r rfl (.none rfl) rfl rfl (by exact Rd.pk rfl rfl hb14 rfl) ?_
 refine U.ps 1 T rfl ?_
 refine U.sks 3 24 false 43 rfl rfl rfl rfl ?_
 refine U.r rfl (.none rfl) rfl rfl (by exact Rd.pk rfl rfl rfl rfl) ?_
 refine U.ps 1 T rfl ?_
 refine U.sks 3 29 false 48 rfl rfl rfl rfl ?_
 refine U.r rfl (.none rfl) rfl rfl (by exact Rd.pk rfl rfl rfl rfl) ?_
 refine U.ps 1 T rfl ?_
 refine U.sks 3 34 false 53 rfl rfl rfl rfl ?_
 refine U.r rfl (.none rfl) rfl rfl (by exact Rd.pk rfl rfl rfl rfl) ?_
 refine U.ps 1 T rfl ?_
 refine U.sks 3 39 false 58 rfl rfl rfl rfl ?_
 refine U.r rfl (.none rfl) rfl rfl (by exact Rd.pk rfl rfl rfl rfl) ?_
 refine U.ps 1 T rfl ?_
 refine U.sks 3 44 false 63 rfl rfl rfl rfl ?_
 refine U.r rfl (.none rfl) rfl rfl (by exact Rd.pk rfl rfl rfl rfl) ?_
 refine U.done ?_
 exact St.wk (hJ10 _ hm) (Wk.f [some 1, some 2] ⟨bX, bX, trivial⟩)
 refine U.pg 3 19 false 38 hb14 T rfl rfl rfl rfl ?_
 refine U.r rfl (.none rfl) rfl rfl (by exact Rd.pk' rfl rfl hb14 rfl) ?_
 refine U.ps 1 T rfl ?_
 refine hm.cs (fun hb15 hm => ?_) (fun hb15 hm => ?_)
 refine U.sks 3 24 false 43 hb15 rfl rfl rfl ?_
 refine U.r rfl (.none rfl) rfl rfl (by exact Rd.pk rfl rfl hb15 rfl) ?_
 refine U.ps 1 T rfl ?_
 refine U.sks 3 29 false 48 rfl rfl rfl rfl ?_
 refine U.r rfl (.none rfl) rfl rfl (by exact Rd.pk rfl rfl rfl rfl) ?_
 refine U.ps 1 T rfl ?_
 refine U.sks 3 34 false 53 rfl rfl rfl rfl ?_
 refine U.r rfl (.none rfl) rfl rfl (by exact Rd.pk rfl rfl rfl rfl) ?_
 refine U.ps 1 T rfl ?_
 refine U.sks 3 39 false 58 rfl rfl rfl rfl ?_
 refine U.r rfl (.none rfl) rfl rfl (by exact Rd.pk rfl rfl rfl rfl) ?_
 refine U.ps 1 T rfl ?_
 refine U.sks 3 44 false 63 rfl rfl rfl rfl ?_
 refine U.r rfl (.none rfl) rfl rfl (by exact Rd.pk rfl rfl rfl rfl) ?_
 refine U.done ?_
 exact St.wk (hJ10 _ hm) (Wk.f [some 1, some 2] ⟨bX, bX, trivial⟩)
 refine U.pg 3 24 false 43 hb15 T rfl rfl rfl rfl ?_
 refine U.r rfl (.none rfl) rfl rfl (by exact Rd.pk' rfl rfl hb15 rfl) ?_
 refine U.ps 1 T rfl ?_
 refine hm.cs (fun hb16 hm => ?_) (fun hb16 hm => ?_)
 refine U.sks 3 29 false 48 hb16 rfl rfl rfl ?_
 refine U.r rfl (.none rfl) rfl rfl (by exact Rd.pk rfl rfl hb16 rfl) ?_
 refine U.ps 1 T rfl ?_
 refine U.sks 3 34 false 53 rfl rfl rfl rfl ?_
 refine U.r rfl (.none rfl) rfl rfl (by exact Rd.pk rfl rfl rfl rfl) ?_
 refine U.ps 1 T rfl ?_
 refine U.sks 3 39 false 58 rfl rfl rfl rfl ?_
 refine U.r rfl (.none rfl) rfl rfl (by exact Rd.pk rfl rfl rfl rfl) ?_
 refine U.ps 1 T rfl ?_
 refine U.sks 3 44 false 63 rfl rfl rfl rfl ?_
 refine U.r rfl (.none rfl) rfl rfl (by exact Rd.pk rfl rfl rfl rfl) ?_
 refine U.done ?_
 exact St.wk (hJ10 _ hm) (Wk.f [some 1, some 2] ⟨bX, bX, trivial⟩)
 refine U.pg 3 29 false 48 hb16 T rfl rfl rfl rfl ?_
 refine U.r rfl (.none rfl) rfl rfl (by exact Rd.pk' rfl rfl hb16 rfl) ?_
 refine U.ps 1 T rfl ?_
 refine hm.cs (fun hb17 hm => ?_) (fun hb17 hm => ?_)
 refine U.sks 3 34 false 53 hb17 rfl rfl rfl ?_
 refine U.r rfl (.none rfl) rfl rfl (by exact Rd.pk rfl rfl hb17 rfl) ?_
 refine U.ps 1 T rfl ?_
 refine U.sks 3 39 false 58 rfl rfl rfl rfl ?_
 refine U.r rfl (.none rfl) rfl rfl (by exact Rd.pk rfl rfl rfl rfl) ?_
 refine U.ps 1 T rfl ?_
 refine U.sks 3 44 false 63 rfl rfl rfl rfl ?_
 refine U.r rfl (.none rfl) rfl rfl (by exact Rd.pk rfl rfl rfl rfl) ?_
 refine U.done ?_
 exact St.wk (hJ10 _ hm) (Wk.f [some 1, some 2] ⟨bX, bX, trivial⟩)
 refine U.pg 3 34 false 53 hb17 T rfl rfl rfl rfl ?_
 refine U.r rfl (.none rfl) rfl rfl (by exact Rd.pk' rfl rfl hb17 rfl) ?_
 refine U.ps 1 T rfl ?_
 refine hm.cs (fun hb18 hm => ?_) (fun hb18 hm => ?_)
 refine U.sks 3 39 false 58 hb18 rfl rfl rfl ?_
 refine U.r rfl (.none rfl) rfl rfl (by exact Rd.pk rfl rfl hb18 rfl) ?_
 refine U.ps 1 T rfl ?_
 refine U.sks 3 44 false 63 rfl rfl rfl rfl ?_
 refine U.r rfl (.none rfl) rfl rfl (by exact Rd.pk rfl rfl rfl rfl) ?_
 refine U.done ?_
 exact St.wk (hJ10 _ hm) (Wk.f [some 1, some 2] ⟨bX, bX, trivial⟩)
 refine U.pg 3 39 false 58 hb18 T rfl rfl rfl rfl ?_
 refine U.r rfl (.none rfl) rfl rfl (by exact Rd.pk' rfl rfl hb18 rfl) ?_
 refine U.ps 1 T rfl ?_
 refine hm.cs (fun hb19 hm => ?_) (fun hb19 hm => ?_)
 refine U.sks 3 44 false 63 hb19 rfl rfl rfl ?_
 refine U.r rfl (.none rfl) rfl rfl (by exact Rd.pk rfl rfl hb19 rfl) ?_
 refine U.done ?_
 exact St.wk (hJ10 _ hm) (Wk.f [some 1, some 2] ⟨bX, bX, trivial⟩)
 refine U.pg 3 44 false 63 hb19 T rfl rfl rfl rfl ?_
 refine U.r rfl (.none rfl) rfl rfl (by exact Rd.pk' rfl rfl hb19 rfl) ?_
 refine U.done ?_
 exact St.wk (hJ10 _ hm) (Wk.f [some 1, some 2] ⟨bX, bX, trivial⟩)
theorem T_taquinref14_At (r : ApiRobot) (c : Int) (post : (List Int) → Prop) (hm : V_taquinref14_At r c post) :
    Tr Tryz.prog 168 [.agg (eApiRobot r), .i c] [] 0 (fun A H' k => ∃ y, post y ∧ A = (.o 0) ∧ H' = [(0, .val (.os 1 eI y))] ∧ k = 1) := by
 refine Tr.intro (n := 17) Tryz.func168 rfl Tryz.ntmps168 rfl (fun w0 ok F β hβ => ?_)
 unfold V_taquinref14_At at hm
 refine C.seq (U.start ?_)
 refine U.e1 rfl (.none rfl) (by exact Eff1.box rfl rfl rfl rfl rfl) ?_
 refine U.ps 1 T rfl ?_
 refine U.done (C.nx (C.seq (C.seq (U.start ?_))))
 refine U.ps 3 T rfl ?_
 refine U.done (C.nx ?_)
 refine C.ite rfl hm (fun hb5 hm => ?_) (fun hb5 hm => ?_)
 refine C.seq (U.start ?_)
 refine U.ps 2 T rfl ?_
 refine U.e1 rfl (.none rfl) (by exact Eff1.bs T (enc := eI) (xs := ([w64 (2 * c)] : List Int)) rfl rfl rfl rfl rfl rfl rfl rfl rfl rfl (fun _ _ => rfl) rfl rfl) ?_
 refine U.ps 1 T rfl ?_
 refine U.done (C.nx (C.ret (C.rt ?_)))
 exact C.fin T (rs' := [.o 0]) (H' := [(0, .val (.os 1 eI ([w64 (2 * c)] : List Int)))]) (nl' := 1) [some 1] rfl rfl (.eq rfl) ⟨vL, trivial⟩ rfl rfl rfl rfl hβ ⟨([w64 (2 * c)] : List Int), hm, rfl, rfl, rfl⟩
 refine C.skip (C.nx (C.seq (U.start ?_)))
 refine U.ps 5 T rfl ?_
 refine U.e1 rfl (.none rfl) (by exact Eff1.bs T (enc := eI) (xs := ([w64 (2 * c), w64 ((w64 (2 * c)) + 1)] : List Int)) rfl rfl rfl rfl rfl rfl rfl rfl rfl rfl (fun _ _ => rfl) rfl rfl) ?_
 refine U.ps 1 T rfl ?_
 refine U.done (C.nx (C.ret ?_))
 exact C.fin T (rs' := [.o 0]) (H' := [(0, .val (.os 1 eI ([w64 (2 * c), w64 ((w64 (2 * c)) + 1)] : List Int)))]) (nl' := 1) [some 1] rfl rfl (.eq rfl) ⟨vL, trivial⟩ rfl rfl rfl rfl hβ ⟨([w64 (2 * c), w64 ((w64 (2 * c)) + 1)] : List Int), hm, rfl, rfl, rfl⟩
theorem T_taquinref14_Robot (st : ApiState) (i : Int) (post : (List Int) → Prop) (hm : V_taquinref14_Robot st i post) :
    Tr Tryz.prog 139 [.agg (eApiState st), .i i] [] 0 (fun A H' k => ∃ y, post y ∧ A = (.o 0) ∧ H' = [(0, .val (.os 1 eI y))] ∧ k = 1) := by
 refine Tr.intro (n := 26) Tryz.func139 rfl Tryz.ntmps139 rfl (fun w0 ok F β hβ => ?_)
 unfold V_taquinref14_Robot at hm
 refine C.seq (U.start ?_)
 refine U.e1 rfl (.none rfl) (by exact Eff1.box rfl rfl rfl rfl rfl) ?_
 refine U.ps 1 T rfl ?_
 refine U.done (C.nx (C.seq (C.seq ?_)))
 refine C.jn (fun (x3 : Bool) => [(1, .i i), (2, .p 0 0), (13, .b x3)]) (fun (x3 : Bool) => [(0, .box (eApiState st))]) 1 hm (fun x3 hm => ?_) (fun J4 hm hJ4 => ?_)
 refine C.nx ?_
 refine C.ite rfl hm (fun hb6 hm => ?_) (fun hb6 hm => ?_)
 refine C.seq (U.start ?_)
 refine U.ps 1 T rfl ?_
 refine U.done (C.nx (C.ret (C.rt ?_)))
 exact C.fin T (rs' := [.o 0]) (H' := [(0, .val (.os 1 eI []))]) (nl' := 1) [none] rfl rfl (.cons (.nilO _ _ ⟨rfl, rfl⟩ rfl) .nil) ⟨⟨_, rfl, .nil _ _⟩, trivial⟩ rfl rfl rfl rfl hβ ⟨[], hm, rfl, rfl, rfl⟩
 refine C.skip (C.nx (C.seq ?_))
 refine D.beg 9999 [0] [] mix rfl rfl (by kernel_rfl) (by repeat (first | exact NoPanicQ.body | exact NoPanicQ.rnd | refine NoPanicQ.th ?_ | refine NoPanicQ.blk ?_)) (fun hQ hS ws M' => ?_)
 refine D.ps 3 [(0, []), (1, []), (2, [])] rfl hQ hS T rfl rfl (by kernel_rfl) ?_
 obtain ⟨x11, hx11, hm⟩ := hm
 refine D.q 3 [] hQ hS rfl (.none rfl) rfl rfl (by exact Rd.ix T rfl rfl rfl rfl rfl rfl hx11) rfl (by kernel_rfl) ?_
 refine D.ps 4 [(4, []), (5, []), (6, []), (7, [])] rfl hQ hS T rfl rfl (by kernel_rfl) ?_
 refine D.q 8 [] hQ hS rfl (.none rfl) rfl rfl (by exact Rd.ix T rfl rfl rfl rfl rfl rfl hx11) rfl (by kernel_rfl) ?_
 refine D.ps 2 [(9, []), (10, [])] rfl hQ hS T rfl rfl (by kernel_rfl) ?_
 refine D.e 11 rfl (.none rfl) (by exact Eff.c [] (v := true) (T_taquinref14_At x11 x11.Cell _ hm) en168 rfl rfl rfl (.eq rfl) trivial rfl rfl rfl rfl rfl rfl (fun _ _ => ⟨(.o _), ⟨.val (.os _ _ _ fun _ => (.cons (.v _) .nil)), trivial⟩⟩) (.inr ⟨rfl, rfl⟩) (fun _ => rfl) (fun _ => rfl) rfl) (by kernel_rfl) rfl rfl (fun x12' hm => ?_)
 obtain ⟨x12⟩ := x12'
 refine D.ps 1 [(12, [])] rfl hQ hS T rfl rfl (by kernel_rfl) ?_
 refine D.done (by kernel_rfl) ?_
 refine C.nx (C.ret ?_)
 exact C.fin T (rs' := [.o 0]) (H' := [(0, .val (.os 1 eI x12))]) (nl' := 1) [some 1] rfl rfl (.eq rfl) ⟨vL, trivial⟩ rfl rfl rfl rfl hβ ⟨x12, hm, rfl, rfl, rfl⟩
 refine U.start ?_
 refine U.ps 3 T rfl ?_
 refine hm.cs (fun hb5 hm => ?_) (fun hb5 hm => ?_)
 refine U.sks 5 2 false 7 hb5 rfl rfl rfl ?_
 refine U.r rfl (.none rfl) rfl rfl (by exact Rd.pk rfl rfl hb5 rfl) ?_
 refine U.done ?_
 exact St.wk (hJ4 _ hm) (Wk.f [some 0] ⟨bX, trivial⟩)
 refine U.pg 5 2 false 7 hb5 T rfl rfl rfl rfl ?_
 refine U.r rfl (.none rfl) rfl rfl (by exact Rd.pk' rfl rfl hb5 rfl) ?_
 refine U.done ?_
 exact St.wk (hJ4 _ hm) (Wk.f [some 0] ⟨bX, trivial⟩)
theorem T_taquinref14_Shelf (st : ApiState) (s_1 : Int) (post : (List Int) → Prop) (hm : V_taquinref14_Shelf st s_1 post) :
    Tr Tryz.prog 140 [.agg (eApiState st), .i s_1] [] 0 (fun A H' k => ∃ y, post y ∧ A = (.o 0) ∧ H' = [(0, .val (.os 1 eI y))] ∧ k = 1) := by
 refine Tr.intro (n := 28) Tryz.func140 rfl Tryz.ntmps140 rfl (fun w0 ok F β hβ => ?_)
 unfold V_taquinref14_Shelf at hm
 refine C.seq (U.start ?_)
 refine U.e1 rfl (.none rfl) (by exact Eff1.box rfl rfl rfl rfl rfl) ?_
 refine U.ps 1 T rfl ?_
 refine U.done (C.nx (C.seq (C.seq ?_)))
 refine C.jn (fun (x3 : Bool) => [(1, .i s_1), (2, .p 0 0), (19, .b x3)]) (fun (x3 : Bool) => [(0, .box (eApiState st))]) 1 hm (fun x3 hm => ?_) (fun J4 hm hJ4 => ?_)
 refine C.nx ?_
 refine C.ite rfl hm (fun hb8 hm => ?_) (fun hb8 hm => ?_)
 refine C.seq (U.start ?_)
 refine U.ps 1 T rfl ?_
 refine U.done (C.nx (C.ret (C.rt ?_)))
 exact C.fin T (rs' := [.o 0]) (H' := [(0, .val (.os 1 eI []))]) (nl' := 1) [none] rfl rfl (.cons (.nilO _ _ ⟨rfl, rfl⟩ rfl) .nil) ⟨⟨_, rfl, .nil _ _⟩, trivial⟩ rfl rfl rfl rfl hβ ⟨[], hm, rfl, rfl, rfl⟩
 refine C.skip (C.nx (C.seq (U.start ?_)))
 refine U.ps 3 T rfl ?_
 obtain ⟨x13, hx13, hm⟩ := hm
 refine U.r rfl (.none rfl) rfl rfl (by exact Rd.ix T rfl rfl rfl rfl rfl rfl hx13) ?_
 refine U.ps 3 T rfl ?_
 refine U.e1 rfl (.none rfl) (by exact Eff1.bs T (enc := eI) (xs := ([w64 ((w64 (2 * x13)) + 1)] : List Int)) rfl rfl rfl rfl rfl rfl rfl rfl rfl rfl (fun _ _ => rfl) rfl rfl) ?_
 refine U.ps 1 T rfl ?_
 refine U.done (C.nx (C.ret ?_))
 exact C.fin T (rs' := [.o 0]) (H' := [(0, .val (.os 1 eI ([w64 ((w64 (2 * x13)) + 1)] : List Int)))]) (nl' := 1) [some 1] rfl rfl (.eq rfl) ⟨vL, trivial⟩ rfl rfl rfl rfl hβ ⟨([w64 ((w64 (2 * x13)) + 1)] : List Int), hm, rfl, rfl, rfl⟩
 refine U.start ?_
 refine U.ps 3 T rfl ?_
 refine hm.cs (fun hb5 hm => ?_) (fun hb5 hm => ?_)
 refine U.sks 5 2 false 7 hb5 rfl rfl rfl ?_
 refine U.r rfl (.none rfl) rfl rfl (by exact Rd.pk rfl rfl hb5 rfl) ?_
 refine U.ps 1 T rfl ?_
 refine U.sks 4 9 false 14 rfl rfl rfl rfl ?_
 refine U.r rfl (.none rfl) rfl rfl (by exact Rd.pk rfl rfl rfl rfl) ?_
 refine U.done ?_
 exact St.wk (hJ4 _ hm) (Wk.f [some 0] ⟨bX, trivial⟩)
 refine U.pg 5 2 false 7 hb5 T rfl rfl rfl rfl ?_
 refine U.r rfl (.none rfl) rfl rfl (by exact Rd.pk' rfl rfl hb5 rfl) ?_
 refine U.ps 1 T rfl ?_
 refine hm.cs (fun hb6 hm => ?_) (fun hb6 hm => ?_)
 refine U.sks 4 9 false 14 hb6 rfl rfl rfl ?_
 refine U.r rfl (.none rfl) rfl rfl (by exact Rd.pk rfl rfl hb6 rfl) ?_
 refine U.done ?_
 exact St.wk (hJ4 _ hm) (Wk.f [some 0] ⟨bX, trivial⟩)
 refine U.pg 2 9 false 14 hb6 T rfl rfl rfl rfl ?_
 refine U.e rfl (.take 9 false 14 _ hb6 rfl rfl rfl) (by exact Eff.k (T_taquinref14_Carrier st s_1 _ hm) en91 rfl rfl rfl (.eq rfl) (fun _ _ => ⟨(.v _), trivial⟩)) (fun x7' hm => ?_)
 obtain ⟨x7⟩ := x7'
 refine U.pg 1 9 false 14 hb6 T rfl rfl rfl rfl ?_
 refine U.r rfl (.none rfl) rfl rfl (by exact Rd.pk' rfl rfl hb6 rfl) ?_
 refine U.done ?_
 exact St.wk (hJ4 _ hm) (Wk.f [some 0] ⟨bX, trivial⟩)
theorem T_taquinref14_Person (st : ApiState) (p : Int) (post : (List Int) → Prop) (hm : V_taquinref14_Person st p post) :
    Tr Tryz.prog 141 [.agg (eApiState st), .i p] [] 0 (fun A H' k => ∃ y, post y ∧ A = (.o 0) ∧ H' = [(0, .val (.os 1 eI y))] ∧ k = 1) := by
 refine Tr.intro (n := 28) Tryz.func141 rfl Tryz.ntmps141 rfl (fun w0 ok F β hβ => ?_)
 unfold V_taquinref14_Person at hm
 refine C.seq (U.start ?_)
 refine U.e1 rfl (.none rfl) (by exact Eff1.box rfl rfl rfl rfl rfl) ?_
 refine U.ps 1 T rfl ?_
 refine U.done (C.nx (C.seq (C.seq ?_)))
 refine C.jn (fun (x3 : Bool) => [(1, .i p), (2, .p 0 0), (13, .b x3)]) (fun (x3 : Bool) => [(0, .box (eApiState st))]) 1 hm (fun x3 hm => ?_) (fun J4 hm hJ4 => ?_)
 refine C.nx ?_
 refine C.ite rfl hm (fun hb6 hm => ?_) (fun hb6 hm => ?_)
 refine C.seq (U.start ?_)
 refine U.ps 1 T rfl ?_
 refine U.done (C.nx (C.ret (C.rt ?_)))
 exact C.fin T (rs' := [.o 0]) (H' := [(0, .val (.os 1 eI []))]) (nl' := 1) [none] rfl rfl (.cons (.nilO _ _ ⟨rfl, rfl⟩ rfl) .nil) ⟨⟨_, rfl, .nil _ _⟩, trivial⟩ rfl rfl rfl rfl hβ ⟨[], hm, rfl, rfl, rfl⟩
 refine C.skip (C.nx (C.seq ?_))
 refine D.beg 9999 [0] [] mix rfl rfl (by kernel_rfl) (by repeat (first | exact NoPanicQ.body | exact NoPanicQ.rnd | refine NoPanicQ.th ?_ | refine NoPanicQ.blk ?_)) (fun hQ hS ws M' => ?_)
 refine D.ps 3 [(0, []), (1, []), (2, [])] rfl hQ hS T rfl rfl (by kernel_rfl) ?_
 obtain ⟨x11, hx11, hm⟩ := hm
 refine D.q 3 [] hQ hS rfl (.none rfl) rfl rfl (by exact Rd.ix T rfl rfl rfl rfl rfl rfl hx11) rfl (by kernel_rfl) ?_
 refine D.ps 5 [(4, []), (5, []), (6, []), (7, []), (8, [])] rfl hQ hS T rfl rfl (by kernel_rfl) ?_
 refine D.q 9 [] hQ hS rfl (.none rfl) rfl rfl (by exact Rd.ix T rfl rfl rfl rfl rfl rfl hx11) rfl (by kernel_rfl) ?_
 refine D.ps 3 [(10, []), (11, []), (12, [])] rfl hQ hS T rfl rfl (by kernel_rfl) ?_
 refine D.e1 13 rfl (.none rfl) (by exact Eff1.bs T (enc := eI) (xs := ([w64 (2 * x11), w64 ((w64 (2 * x11)) + 1)] : List Int)) rfl rfl rfl rfl rfl rfl rfl rfl rfl rfl (fun _ _ => rfl) rfl rfl) (by kernel_rfl) rfl rfl ?_
 refine D.ps 1 [(14, [])] rfl hQ hS T rfl rfl (by kernel_rfl) ?_
 refine D.done (by kernel_rfl) ?_
 refine C.nx (C.ret ?_)
 exact C.fin T (rs' := [.o 0]) (H' := [(0, .val (.os 1 eI ([w64 (2 * x11), w64 ((w64 (2 * x11)) + 1)] : List Int)))]) (nl' := 1) [some 1] rfl rfl (.eq rfl) ⟨vL, trivial⟩ rfl rfl rfl rfl hβ ⟨([w64 (2 * x11), w64 ((w64 (2 * x11)) + 1)] : List Int), hm, rfl, rfl, rfl⟩
 refine U.start ?_
 refine U.ps 3 T rfl ?_
 refine hm.cs (fun hb5 hm => ?_) (fun hb5 hm => ?_)
 refine U.sks 5 2 false 7 hb5 rfl rfl rfl ?_
 refine U.r rfl (.none rfl) rfl rfl (by exact Rd.pk rfl rfl hb5 rfl) ?_
 refine U.done ?_
 exact St.wk (hJ4 _ hm) (Wk.f [some 0] ⟨bX, trivial⟩)
 refine U.pg 5 2 false 7 hb5 T rfl rfl rfl rfl ?_
 refine U.r rfl (.none rfl) rfl rfl (by exact Rd.pk' rfl rfl hb5 rfl) ?_
 refine U.done ?_
 exact St.wk (hJ4 _ hm) (Wk.f [some 0] ⟨bX, trivial⟩)
theorem T_taquinref14_with (l : List Int) (n : Int) (post : (List Int) → Prop) (hm : V_taquinref14_with l n post) :
    Tr Tryz.prog 169 [.sl 1 eI l, .i n] [] 0 (fun A H' k => ∃ y, post y ∧ A = (.o 0) ∧ H' = [(0, .val (.os 1 eI y))] ∧ k = 1) := by
 refine Tr.intro (n := 42) Tryz.func169 rfl Tryz.ntmps169 rfl (fun w0 ok F β hβ => ?_)
 unfold V_taquinref14_with at hm
 refine C.seq (U.start ?_)
 refine U.ps 1 T rfl ?_
 refine U.done (C.nx (C.seq (U.start ?_)))
 refine U.ps 1 T rfl ?_
 refine U.done (C.nx (C.seq (U.start ?_)))
 refine U.ps 1 T rfl ?_
 refine U.done (C.nx (C.seq (C.seq (U.start ?_))))
 refine U.ps 1 T rfl ?_
 refine U.done (C.nx ?_)
 refine C.jn (fun (x9 : List Int × Bool) => [(1, .i n), (5, .o 0), (6, .b x9.2)]) (fun (x9 : List Int × Bool) => [(0, .val (.os 1 eI x9.1))]) 1 hm (fun x9 hm => ?_) (fun J10 hm hJ10 => ?_)
 refine C.nx (C.seq (C.seq (U.start ?_)))
 refine U.ps 2 T rfl ?_
 refine U.done (C.nx ?_)
 refine C.jn (fun (x36 : List Int) => [(5, .o 0)]) (fun (x36 : List Int) => [(0, .val (.os 1 eI x36))]) 1 hm (fun x36 hm => ?_) (fun J37 hm hJ37 => ?_)
 refine C.nx (C.seq (U.start ?_))
 refine U.ps 2 T rfl ?_
 refine U.done (C.nx (C.ret ?_))
 exact C.fin T (rs' := [.o 0]) (H' := [(0, .val (.os 1 eI x36))]) (nl' := 1) [some 0] rfl rfl (.eq rfl) ⟨vL, trivial⟩ rfl rfl rfl rfl hβ ⟨x36, hm, rfl, rfl, rfl⟩
 refine C.ite rfl hm (fun hb38 hm => ?_) (fun hb38 hm => ?_)
 refine U.start ?_
 refine U.ps 2 T rfl ?_
 refine U.e1 rfl (.none rfl) (by exact Eff1.bs T (enc := eI) (xs := ([n] : List Int)) rfl rfl rfl rfl rfl rfl rfl rfl rfl rfl (fun _ _ => rfl) rfl rfl) ?_
 obtain ⟨hx41, hm⟩ := hm
 refine U.e1 rfl (.none rfl) (by exact Eff1.ap T rfl rfl rfl rfl rfl rfl (.inr ⟨_, rfl, rfl⟩) rfl rfl rfl (fun _ => rfl) rfl hx41) ?_
 refine U.ps 1 T rfl ?_
 refine U.done ?_
 exact St.wk (hJ37 _ hm) (Wk.f [some 2] ⟨vL, trivial⟩)
 refine C.skip ?_
 exact St.wk (hJ37 _ hm) (Wk.f [some 0] ⟨vL, trivial⟩)
 refine C.block ?_
 refine St.wk (C.loop (fun (s11 : List Int × Bool × Int) => [(0, .sl 1 eI l), (1, .i n), (5, .o 0), (6, .b s11.2.1), (7, .i s11.2.2)]) (fun (s11 : List Int × Bool × Int) => [(0, .val (.os 1 eI s11.1))]) hm (fun s11 Y12 hm => ?_)) (Wk.mk' [none] rfl rfl ⟨⟨_, rfl, (.eq rfl)⟩, ⟨_, rfl, (.eq rfl)⟩, ⟨_, rfl, (.nilO _ _ ⟨rfl, rfl⟩ rfl)⟩, ChkG.eqs rfl⟩ ⟨⟨_, rfl, .nil _ _⟩, trivial⟩ rfl)
 refine C.seq (C.seq (U.start ?_))
 refine U.ps 4 T rfl ?_
 refine U.done (C.nx ?_)
 refine C.ite rfl hm (fun hb15 hm => ?_) (fun hb15 hm => ?_)
 refine C.skip (C.nx (C.seq (C.block (C.seq (C.seq ?_)))))
 refine C.jn (fun (x16 : Bool) => [(0, .sl 1 eI l), (1, .i n), (5, .o 0), (6, .b s11.2.1), (7, .i s11.2.2), (23, .b x16)]) (fun (x16 : Bool) => [(0, .val (.os 1 eI s11.1))]) 1 hm (fun x16 hm => ?_) (fun J17 hm hJ17 => ?_)
 refine C.nx ?_
 refine C.jn (fun (x20 : List Int × Bool) => [(0, .sl 1 eI l), (1, .i n), (5, .o 0), (6, .b x20.2), (7, .i s11.2.2)]) (fun (x20 : List Int × Bool) => [(0, .val (.os 1 eI x20.1))]) 1 hm (fun x20 hm => ?_) (fun J21 hm hJ21 => ?_)
 refine C.nx (U.start ?_)
 refine U.ps 3 T rfl ?_
 obtain ⟨x30, hx30, hm⟩ := hm
 refine U.r rfl (.none rfl) rfl rfl (by exact Rd.ix T rfl rfl rfl rfl rfl rfl hx30) ?_
 refine U.ps 1 T rfl ?_
 refine U.e1 rfl (.none rfl) (by exact Eff1.bs T (enc := eI) (xs := ([x30] : List Int)) rfl rfl rfl rfl rfl rfl rfl rfl rfl rfl (fun _ _ => rfl) rfl rfl) ?_
 obtain ⟨hx31, hm⟩ := hm
 refine U.e1 rfl (.none rfl) (by exact Eff1.ap T rfl rfl rfl rfl rfl rfl (.inr ⟨_, rfl, rfl⟩) rfl rfl rfl (fun _ => rfl) rfl hx31) ?_
 refine U.ps 1 T rfl ?_
 refine U.done (C.bnx (C.nx (U.start ?_)))
 refine U.ps 3 T rfl ?_
 refine U.done (C.nx ?_)
 exact St.wk (C.next hm) (Wk.f [some 2] ⟨vL, trivial⟩)
 refine C.ite rfl hm (fun hb22 hm => ?_) (fun hb22 hm => ?_)
 refine C.seq (U.start ?_)
 refine U.ps 2 T rfl ?_
 refine U.e1 rfl (.none rfl) (by exact Eff1.bs T (enc := eI) (xs := ([n] : List Int)) rfl rfl rfl rfl rfl rfl rfl rfl rfl rfl (fun _ _ => rfl) rfl rfl) ?_
 obtain ⟨hx25, hm⟩ := hm
 refine U.e1 rfl (.none rfl) (by exact Eff1.ap T rfl rfl rfl rfl rfl rfl (.inr ⟨_, rfl, rfl⟩) rfl rfl rfl (fun _ => rfl) rfl hx25) ?_
 refine U.ps 1 T rfl ?_
 refine U.done (C.nx (U.start ?_))
 refine U.ps 1 T rfl ?_
 refine U.done ?_
 exact St.wk (hJ21 _ hm) (Wk.f [some 2] ⟨vL, trivial⟩)
 refine C.skip ?_
 exact St.wk (hJ21 _ hm) (Wk.f [some 0] ⟨vL, trivial⟩)
 refine U.start ?_
 refine U.ps 3 T rfl ?_
 refine hm.cs (fun hb18 hm => ?_) (fun hb18 hm => ?_)
 refine U.sks 6 2 true 16 (ntF hb18) rfl rfl rfl ?_
 refine U.r rfl (.none rfl) rfl rfl (by exact Rd.pk' rfl rfl (ntF hb18) rfl) ?_
 refine U.done ?_
 exact St.wk (hJ17 _ hm) (Wk.f [some 0] ⟨vL, trivial⟩)
 refine U.pg 2 2 true 16 (ntT hb18) T rfl rfl rfl rfl ?_
 obtain ⟨x19, hx19, hm⟩ := hm
 refine U.r rfl (.take 2 true 16 _ (ntT hb18) rfl rfl rfl) rfl rfl (by exact Rd.ix T rfl rfl rfl rfl rfl rfl hx19) ?_
 refine U.pg 3 2 true 16 (ntT hb18) T rfl rfl rfl rfl ?_
 refine U.r rfl (.none rfl) rfl rfl (by exact Rd.pk rfl rfl (ntT hb18) rfl) ?_
 refine U.done ?_
 exact St.wk (hJ17 _ hm) (Wk.f [some 0] ⟨vL, trivial⟩)
 refine C.exit (C.ex (C.ex (C.bex ?_)))
 exact St.wk (hJ10 _ hm) (Wk.f [some 0] ⟨vL, trivial⟩)
theorem T_taquinref14_Sorted (l : List Int) (post : (List Int) → Prop) (hm : V_taquinref14_Sorted l post) :
    Tr Tryz.prog 142 [.sl 1 eI l] [] 0 (fun A H' k => ∃ y, post y ∧ A = (.o 0) ∧ H' = [(0, .val (.os 1 eI y))] ∧ k = 1) := by
 refine Tr.intro (n := 18) Tryz.func142 rfl Tryz.ntmps142 rfl (fun w0 ok F β hβ => ?_)
 unfold V_taquinref14_Sorted at hm
 refine C.seq (U.start ?_)
 refine U.ps 1 T rfl ?_
 refine U.done (C.nx (C.seq (U.start ?_)))
 refine U.ps 1 T rfl ?_
 refine U.done (C.nx (C.seq (C.seq (U.start ?_))))
 refine U.ps 1 T rfl ?_
 refine U.done (C.nx ?_)
 refine C.jn (fun (x7 : List Int) => [(3, .o 0)]) (fun (x7 : List Int) => [(0, .val (.os 1 eI x7))]) 1 hm (fun x7 hm => ?_) (fun J8 hm hJ8 => ?_)
 refine C.nx (C.seq (U.start ?_))
 refine U.ps 2 T rfl ?_
 refine U.done (C.nx (C.ret ?_))
 exact C.fin T (rs' := [.o 0]) (H' := [(0, .val (.os 1 eI x7))]) (nl' := 1) [some 0] rfl rfl (.eq rfl) ⟨vL, trivial⟩ rfl rfl rfl rfl hβ ⟨x7, hm, rfl, rfl, rfl⟩
 refine C.block ?_
 refine St.wk (C.loop (fun (s9 : List Int × Int) => [(0, .sl 1 eI l), (3, .o 0), (4, .i s9.2)]) (fun (s9 : List Int × Int) => [(0, .val (.os 1 eI s9.1))]) hm (fun s9 Y10 hm => ?_)) (Wk.mk' [none] rfl rfl ⟨⟨_, rfl, (.eq rfl)⟩, ⟨_, rfl, (.nilO _ _ ⟨rfl, rfl⟩ rfl)⟩, ChkG.eqs rfl⟩ ⟨⟨_, rfl, .nil _ _⟩, trivial⟩ rfl)
 refine C.seq (C.seq (U.start ?_))
 refine U.ps 4 T rfl ?_
 refine U.done (C.nx ?_)
 refine C.ite rfl hm (fun hb13 hm => ?_) (fun hb13 hm => ?_)
 refine C.skip (C.nx (C.seq (C.block (U.start ?_))))
 refine U.ps 3 T rfl ?_
 obtain ⟨x16, hx16, hm⟩ := hm
 refine U.r rfl (.none rfl) rfl rfl (by exact Rd.ix T rfl rfl rfl rfl rfl rfl hx16) ?_
 refine U.ps 1 T rfl ?_
 refine U.e rfl (.none rfl) (by exact Eff.c [] (v := true) (T_taquinref14_with s9.1 x16 _ hm) en169 rfl rfl rfl (.cons (.fz rfl rfl rfl (.os fun _ => .cons (.ro rfl) .nil)) (.eq rfl)) trivial rfl rfl rfl rfl rfl rfl (fun _ _ => ⟨(.o _), ⟨.val (.os _ _ _ fun _ => (.cons (.v _) .nil)), trivial⟩⟩) (.inr ⟨rfl, rfl⟩) (fun _ => rfl) (fun _ => rfl) rfl) (fun x17' hm => ?_)
 obtain ⟨x17⟩ := x17'
 refine U.ps 1 T rfl ?_
 refine U.done (C.bnx (C.nx (U.start ?_)))
 refine U.ps 3 T rfl ?_
 refine U.done (C.nx ?_)
 exact St.wk (C.next hm) (Wk.f [some 1] ⟨vL, trivial⟩)
 refine C.exit (C.ex (C.ex (C.bex ?_)))
 exact St.wk (hJ8 _ hm) (Wk.f [some 0] ⟨vL, trivial⟩)
theorem T_taquinref14_All (st : ApiState) (post : (List Int) → Prop) (hm : V_taquinref14_All st post) :
    Tr Tryz.prog 93 [.agg (eApiState st)] [] 0 (fun A H' k => ∃ y, post y ∧ A = (.o 0) ∧ H' = [(0, .val (.os 1 eI y))] ∧ k = 1) := by
 refine Tr.intro (n := 45) Tryz.func93 rfl Tryz.ntmps93 rfl (fun w0 ok F β hβ => ?_)
 unfold V_taquinref14_All at hm
 refine C.seq (U.start ?_)
 refine U.e1 rfl (.none rfl) (by exact Eff1.box rfl rfl rfl rfl rfl) ?_
 refine U.ps 1 T rfl ?_
 refine U.done (C.nx (C.seq (U.start ?_)))
 refine U.ps 1 T rfl ?_
 refine U.done (C.nx (C.seq (C.seq (U.start ?_))))
 refine U.ps 1 T rfl ?_
 refine U.done (C.nx ?_)
 refine C.jn (fun (x7 : List Int) => [(1, .p 0 0), (3, .o 1)]) (fun (x7 : List Int) => [(0, .box (eApiState st)), (1, .val (.os 1 eI x7))]) 2 hm (fun x7 hm => ?_) (fun J8 hm hJ8 => ?_)
 refine C.nx (C.seq (C.seq (U.start ?_)))
 refine U.ps 1 T rfl ?_
 refine U.done (C.nx ?_)
 refine C.jn (fun (x22 : List Int) => [(1, .p 0 0), (3, .o 1)]) (fun (x22 : List Int) => [(0, .box (eApiState st)), (1, .val (.os 1 eI x22))]) 2 hm (fun x22 hm => ?_) (fun J23 hm hJ23 => ?_)
 refine C.nx (C.seq (C.seq (U.start ?_)))
 refine U.ps 1 T rfl ?_
 refine U.done (C.nx ?_)
 refine C.jn (fun (x37 : List Int) => [(3, .o 0)]) (fun (x37 : List Int) => [(0, .val (.os 1 eI x37))]) 1 hm (fun x37 hm => ?_) (fun J38 hm hJ38 => ?_)
 refine C.nx (C.seq (U.start ?_))
 refine U.ps 1 T rfl ?_
 refine U.e rfl (.none rfl) (by exact Eff.c [] (v := true) (T_taquinref14_Sorted x37 _ hm) en142 rfl rfl rfl (.cons (.fz rfl rfl rfl (.os fun _ => .cons (.ro rfl) .nil)) .nil) trivial rfl rfl rfl rfl rfl rfl (fun _ _ => ⟨(.o _), ⟨.val (.os _ _ _ fun _ => (.cons (.v _) .nil)), trivial⟩⟩) (.inr ⟨rfl, rfl⟩) (fun _ => rfl) (fun _ => rfl) rfl) (fun x52' hm => ?_)
 obtain ⟨x52⟩ := x52'
 refine U.ps 1 T rfl ?_
 refine U.done (C.nx (C.ret ?_))
 exact C.fin T (rs' := [.o 0]) (H' := [(0, .val (.os 1 eI x52))]) (nl' := 1) [some 1] rfl rfl (.eq rfl) ⟨vL, trivial⟩ rfl rfl rfl rfl hβ ⟨x52, hm, rfl, rfl, rfl⟩
 refine C.block ?_
 refine St.wk (C.loop (fun (s39 : List Int × Int) => [(1, .p 0 0), (3, .o 1), (6, .i s39.2)]) (fun (s39 : List Int × Int) => [(0, .box (eApiState st)), (1, .val (.os 1 eI s39.1))]) hm (fun s39 Y40 hm => ?_)) (Wk.f [some 0, some 1] ⟨bX, vL, trivial⟩)
 refine C.seq (C.seq (U.start ?_))
 refine U.ps 5 T rfl ?_
 refine U.done (C.nx ?_)
 refine C.ite rfl hm (fun hb43 hm => ?_) (fun hb43 hm => ?_)
 refine C.skip (C.nx (C.seq (C.block (U.start ?_))))
 refine U.ps 3 T rfl ?_
 refine U.e rfl (.none rfl) (by exact Eff.c [] (v := true) (T_taquinref14_Person st s39.2 _ hm) en141 rfl rfl rfl (.eq rfl) trivial rfl rfl rfl rfl rfl rfl (fun _ _ => ⟨(.o _), ⟨.val (.os _ _ _ fun _ => (.cons (.v _) .nil)), trivial⟩⟩) (.inr ⟨rfl, rfl⟩) (fun _ => rfl) (fun _ => rfl) rfl) (fun x46' hm => ?_)
 obtain ⟨x46⟩ := x46'
 obtain ⟨hx47, hm⟩ := hm
 refine U.e1 rfl (.none rfl) (by exact Eff1.ap T rfl rfl rfl rfl rfl rfl (.inr ⟨_, rfl, rfl⟩) rfl rfl rfl (fun _ => rfl) rfl hx47) ?_
 refine U.ps 1 T rfl ?_
 refine U.done (C.bnx (C.nx (U.start ?_)))
 refine U.ps 3 T rfl ?_
 refine U.done (C.nx ?_)
 exact St.wk (C.next hm) (Wk.f [some 0, some 3] ⟨bX, vL, trivial⟩)
 refine C.exit (C.ex (C.ex (C.bex ?_)))
 exact St.wk (hJ38 _ hm) (Wk.f [some 1] ⟨vL, trivial⟩)
 refine C.block ?_
 refine St.wk (C.loop (fun (s24 : List Int × Int) => [(1, .p 0 0), (3, .o 1), (5, .i s24.2)]) (fun (s24 : List Int × Int) => [(0, .box (eApiState st)), (1, .val (.os 1 eI s24.1))]) hm (fun s24 Y25 hm => ?_)) (Wk.f [some 0, some 1] ⟨bX, vL, trivial⟩)
 refine C.seq (C.seq (U.start ?_))
 refine U.ps 5 T rfl ?_
 refine U.done (C.nx ?_)
 refine C.ite rfl hm (fun hb28 hm => ?_) (fun hb28 hm => ?_)
 refine C.skip (C.nx (C.seq (C.block (U.start ?_))))
 refine U.ps 3 T rfl ?_
 refine U.e rfl (.none rfl) (by exact Eff.c [] (v := true) (T_taquinref14_Shelf st s24.2 _ hm) en140 rfl rfl rfl (.eq rfl) trivial rfl rfl rfl rfl rfl rfl (fun _ _ => ⟨(.o _), ⟨.val (.os _ _ _ fun _ => (.cons (.v _) .nil)), trivial⟩⟩) (.inr ⟨rfl, rfl⟩) (fun _ => rfl) (fun _ => rfl) rfl) (fun x31' hm => ?_)
 obtain ⟨x31⟩ := x31'
 obtain ⟨hx32, hm⟩ := hm
 refine U.e1 rfl (.none rfl) (by exact Eff1.ap T rfl rfl rfl rfl rfl rfl (.inr ⟨_, rfl, rfl⟩) rfl rfl rfl (fun _ => rfl) rfl hx32) ?_
 refine U.ps 1 T rfl ?_
 refine U.done (C.bnx (C.nx (U.start ?_)))
 refine U.ps 3 T rfl ?_
 refine U.done (C.nx ?_)
 exact St.wk (C.next hm) (Wk.f [some 0, some 3] ⟨bX, vL, trivial⟩)
 refine C.exit (C.ex (C.ex (C.bex ?_)))
 exact St.wk (hJ23 _ hm) (Wk.f [some 0, some 1] ⟨bX, vL, trivial⟩)
 refine C.block ?_
 refine St.wk (C.loop (fun (s9 : List Int × Int) => [(1, .p 0 0), (3, .o 1), (4, .i s9.2)]) (fun (s9 : List Int × Int) => [(0, .box (eApiState st)), (1, .val (.os 1 eI s9.1))]) hm (fun s9 Y10 hm => ?_)) (Wk.mk' [some 0, none] rfl rfl ⟨⟨_, rfl, (.eq rfl)⟩, ⟨_, rfl, (.nilO _ _ ⟨rfl, rfl⟩ rfl)⟩, ChkG.eqs rfl⟩ ⟨bX, ⟨_, rfl, .nil _ _⟩, trivial⟩ rfl)
 refine C.seq (C.seq (U.start ?_))
 refine U.ps 5 T rfl ?_
 refine U.done (C.nx ?_)
 refine C.ite rfl hm (fun hb13 hm => ?_) (fun hb13 hm => ?_)
 refine C.skip (C.nx (C.seq (C.block (U.start ?_))))
 refine U.ps 3 T rfl ?_
 refine U.e rfl (.none rfl) (by exact Eff.c [] (v := true) (T_taquinref14_Robot st s9.2 _ hm) en139 rfl rfl rfl (.eq rfl) trivial rfl rfl rfl rfl rfl rfl (fun _ _ => ⟨(.o _), ⟨.val (.os _ _ _ fun _ => (.cons (.v _) .nil)), trivial⟩⟩) (.inr ⟨rfl, rfl⟩) (fun _ => rfl) (fun _ => rfl) rfl) (fun x16' hm => ?_)
 obtain ⟨x16⟩ := x16'
 obtain ⟨hx17, hm⟩ := hm
 refine U.e1 rfl (.none rfl) (by exact Eff1.ap T rfl rfl rfl rfl rfl rfl (.inr ⟨_, rfl, rfl⟩) rfl rfl rfl (fun _ => rfl) rfl hx17) ?_
 refine U.ps 1 T rfl ?_
 refine U.done (C.bnx (C.nx (U.start ?_)))
 refine U.ps 3 T rfl ?_
 refine U.done (C.nx ?_)
 exact St.wk (C.next hm) (Wk.f [some 0, some 3] ⟨bX, vL, trivial⟩)
 refine C.exit (C.ex (C.ex (C.bex ?_)))
 exact St.wk (hJ8 _ hm) (Wk.f [some 0, some 1] ⟨bX, vL, trivial⟩)
theorem T_taquinref14_Clash (slots : List Int) (post : (Int × Bool) → Prop) (hm : V_taquinref14_Clash slots post) :
    Tr Tryz.prog 92 [.sl 1 eI slots] [] 0 (fun A H' k => ∃ y, post y ∧ A = (.tup [.i y.1, .b y.2]) ∧ H' = [] ∧ k = 0) := by
 refine Tr.intro (n := 46) Tryz.func92 rfl Tryz.ntmps92 rfl (fun w0 ok F β hβ => ?_)
 unfold V_taquinref14_Clash at hm
 refine C.seq (U.start ?_)
 refine U.ps 2 T rfl ?_
 refine U.done (C.nx (C.seq (U.start ?_)))
 refine U.ps 1 T rfl ?_
 refine U.done (C.nx (C.seq (U.start ?_)))
 refine U.ps 1 T rfl ?_
 refine U.done (C.nx (C.seq (C.seq (U.start ?_))))
 refine U.ps 1 T rfl ?_
 refine U.done (C.nx ?_)
 refine C.jn (fun (x9 : Bool × Int) => [(4, .b x9.1), (5, .i x9.2)]) (fun (x9 : Bool × Int) => []) 0 hm (fun x9 hm => ?_) (fun J10 hm hJ10 => ?_)
 refine C.nx (C.seq (U.start ?_))
 refine U.ps 4 T rfl ?_
 refine U.done (C.nx (C.ret ?_))
 exact C.f0 T (rs' := [.i ((x9.2, x9.1).1), .b ((x9.2, x9.1).2)]) hβ ⟨(x9.2, x9.1), hm, rfl, rfl, rfl⟩
 refine C.block ?_
 refine St.wk (C.loop (fun (s11 : Bool × Int × Int) => [(0, .sl 1 eI slots), (4, .b s11.1), (5, .i s11.2.1), (6, .i s11.2.2)]) (fun (s11 : Bool × Int × Int) => []) hm (fun s11 Y12 hm => ?_)) (Wk.e)
 refine C.seq (C.seq (U.start ?_))
 refine U.ps 4 T rfl ?_
 refine U.done (C.nx ?_)
 refine C.ite rfl hm (fun hb15 hm => ?_) (fun hb15 hm => ?_)
 refine C.skip (C.nx (C.seq ?_))
 refine C.jn (fun (x16 : Bool × Int) => [(0, .sl 1 eI slots), (4, .b x16.1), (5, .i x16.2), (6, .i s11.2.2)]) (fun (x16 : Bool × Int) => []) 0 hm (fun x16 hm => ?_) (fun J17 hm hJ17 => ?_)
 refine C.nx (U.start ?_)
 refine U.ps 3 T rfl ?_
 refine U.done (C.nx ?_)
 exact St.wk (C.next hm) (Wk.e)
 refine C.block (C.seq (U.start ?_))
 refine U.ps 1 T rfl ?_
 refine U.done (C.nx ?_)
 refine C.jn (fun (x20 : Bool × Int) => [(0, .sl 1 eI slots), (4, .b x20.1), (5, .i x20.2), (6, .i s11.2.2)]) (fun (x20 : Bool × Int) => []) 0 hm (fun x20 hm => ?_) (fun J21 hm hJ21 => ?_)
 refine C.bnx ?_
 exact St.wk (hJ17 _ hm) (Wk.e)
 refine C.block ?_
 refine St.wk (C.loop (fun (s22 : Bool × Int × Int) => [(0, .sl 1 eI slots), (4, .b s22.1), (5, .i s22.2.1), (6, .i s11.2.2), (7, .i s22.2.2)]) (fun (s22 : Bool × Int × Int) => []) hm (fun s22 Y23 hm => ?_)) (Wk.e)
 refine C.seq (C.seq (U.start ?_))
 refine U.ps 3 T rfl ?_
 refine U.done (C.nx ?_)
 refine C.ite rfl hm (fun hb26 hm => ?_) (fun hb26 hm => ?_)
 refine C.skip (C.nx (C.seq (C.block (C.seq ?_))))
 refine C.jn (fun (x27 : Bool) => [(0, .sl 1 eI slots), (4, .b s22.1), (5, .i s22.2.1), (6, .i s11.2.2), (7, .i s22.2.2), (39, .b x27)]) (fun (x27 : Bool) => []) 0 hm (fun x27 hm => ?_) (fun J28 hm hJ28 => ?_)
 refine C.nx ?_
 refine C.jn (fun (x33 : Bool × Int) => [(0, .sl 1 eI slots), (4, .b x33.1), (5, .i x33.2), (6, .i s11.2.2), (7, .i s22.2.2)]) (fun (x33 : Bool × Int) => []) 0 hm (fun x33 hm => ?_) (fun J34 hm hJ34 => ?_)
 refine C.bnx (C.nx (U.start ?_))
 refine U.ps 3 T rfl ?_
 refine U.done (C.nx ?_)
 exact St.wk (C.next hm) (Wk.e)
 refine C.ite rfl hm (fun hb35 hm => ?_) (fun hb35 hm => ?_)
 refine C.seq (U.start ?_)
 refine U.ps 2 T rfl ?_
 obtain ⟨x38, hx38, hm⟩ := hm
 refine U.r rfl (.none rfl) rfl rfl (by exact Rd.ix T rfl rfl rfl rfl rfl rfl hx38) ?_
 refine U.ps 2 T rfl ?_
 refine U.done (C.nx (U.start ?_))
 refine U.ps 1 T rfl ?_
 refine U.done ?_
 exact St.wk (hJ34 _ hm) (Wk.e)
 refine C.skip ?_
 exact St.wk (hJ34 _ hm) (Wk.e)
 refine D.beg 9999 [] [] mix rfl rfl (by kernel_rfl) (by repeat (first | exact NoPanicQ.body | exact NoPanicQ.rnd | refine NoPanicQ.th ?_ | refine NoPanicQ.blk ?_)) (fun hQ hS ws M' => ?_)
 refine D.ps 2 [(0, []), (1, [])] rfl hQ hS T rfl rfl (by kernel_rfl) ?_
 obtain ⟨x29, hx29, hm⟩ := hm
 refine D.q 2 [] hQ hS rfl (.none rfl) rfl rfl (by exact Rd.ix T rfl rfl rfl rfl rfl rfl hx29) rfl (by kernel_rfl) ?_
 refine D.ps 3 [(3, []), (4, []), (5, [])] rfl hQ hS T rfl rfl (by kernel_rfl) ?_
 obtain ⟨x30, hx30, hm⟩ := hm
 refine D.q 6 [] hQ hS rfl (.none rfl) rfl rfl (by exact Rd.ix T rfl rfl rfl rfl rfl rfl hx30) rfl (by kernel_rfl) ?_
 refine D.ps 3 [(7, []), (8, []), (9, [])] rfl hQ hS T rfl rfl (by kernel_rfl) ?_
 refine hm.cs (fun hb31 hm => ?_) (fun hb31 hm => ?_)
 refine D.q 10 [] hQ hS rfl (.take 9 true 28 _ hb31 rfl rfl rfl) rfl rfl (by exact Rd.p T rfl) rfl (by kernel_rfl) ?_
 refine D.q 11 [] hQ hS rfl (.take 9 true 28 _ hb31 rfl rfl rfl) rfl rfl (by exact Rd.p T rfl) rfl (by kernel_rfl) ?_
 refine D.q 12 [] hQ hS rfl (.take 9 true 28 _ hb31 rfl rfl rfl) rfl rfl (by exact Rd.p T rfl) rfl (by kernel_rfl) ?_
 refine hm.cs (fun hb32 hm => ?_) (fun hb32 hm => ?_)
 refine D.q 13 [] hQ hS rfl (.take 12 false 31 _ (ntF hb32) rfl rfl rfl) rfl rfl (by exact Rd.p T rfl) rfl (by kernel_rfl) ?_
 refine D.q 14 [] hQ hS rfl (.take 12 false 31 _ (ntF hb32) rfl rfl rfl) rfl rfl (by exact Rd.p T rfl) rfl (by kernel_rfl) ?_
 refine D.q 15 [] hQ hS rfl (.take 12 false 31 _ (ntF hb32) rfl rfl rfl) rfl rfl (by exact Rd.ix T rfl rfl rfl rfl rfl rfl hx29) rfl (by kernel_rfl) ?_
 refine D.q 16 [] hQ hS rfl (.take 12 false 31 _ (ntF hb32) rfl rfl rfl) rfl rfl (by exact Rd.l T rfl rfl rfl) rfl (by kernel_rfl) ?_
 refine D.q 17 [] hQ hS rfl (.take 12 false 31 _ (ntF hb32) rfl rfl rfl) rfl rfl (by exact Rd.p T rfl) rfl (by kernel_rfl) ?_
 refine D.q 18 [] hQ hS rfl (.take 12 false 31 _ (ntF hb32) rfl rfl rfl) rfl rfl (by exact Rd.p T rfl) rfl (by kernel_rfl) ?_
 refine D.q 19 [] hQ hS rfl (.take 9 true 28 _ hb31 rfl rfl rfl) rfl rfl (by exact Rd.pk' rfl rfl (ntF hb32) rfl) rfl (by kernel_rfl) ?_
 refine D.q 20 [] hQ hS rfl (.none rfl) rfl rfl (by exact Rd.pk rfl rfl hb31 rfl) rfl (by kernel_rfl) ?_
 refine D.done (by kernel_rfl) ?_
 exact St.wk (hJ28 _ hm) (Wk.e)
 refine D.sq 13 [] hQ hS rfl (.skip 12 false 31 _ (ntT hb32) rfl rfl rfl) rfl rfl (by kernel_rfl) ?_
 refine D.sq 14 [] hQ hS rfl (.skip 12 false 31 _ (ntT hb32) rfl rfl rfl) rfl rfl (by kernel_rfl) ?_
 refine D.sq 15 [] hQ hS rfl (.skip 12 false 31 _ (ntT hb32) rfl rfl rfl) rfl rfl (by kernel_rfl) ?_
 refine D.sq 16 [] hQ hS rfl (.skip 12 false 31 _ (ntT hb32) rfl rfl rfl) rfl rfl (by kernel_rfl) ?_
 refine D.sq 17 [] hQ hS rfl (.skip 12 false 31 _ (ntT hb32) rfl rfl rfl) rfl rfl (by kernel_rfl) ?_
 refine D.sq 18 [] hQ hS rfl (.skip 12 false 31 _ (ntT hb32) rfl rfl rfl) rfl rfl (by kernel_rfl) ?_
 refine D.q 19 [] hQ hS rfl (.take 9 true 28 _ hb31 rfl rfl rfl) rfl rfl (by exact Rd.pk rfl rfl (ntT hb32) rfl) rfl (by kernel_rfl) ?_
 refine D.q 20 [] hQ hS rfl (.none rfl) rfl rfl (by exact Rd.pk rfl rfl hb31 rfl) rfl (by kernel_rfl) ?_
 refine D.done (by kernel_rfl) ?_
 exact St.wk (hJ28 _ hm) (Wk.e)
 refine D.sq 10 [] hQ hS rfl (.skip 9 true 28 _ hb31 rfl rfl rfl) rfl rfl (by kernel_rfl) ?_
 refine D.sq 11 [] hQ hS rfl (.skip 9 true 28 _ hb31 rfl rfl rfl) rfl rfl (by kernel_rfl) ?_
 refine D.sq 12 [] hQ hS rfl (.skip 9 true 28 _ hb31 rfl rfl rfl) rfl rfl (by kernel_rfl) ?_
 refine D.sq 13 [] hQ hS rfl (.und 12 false 31 rfl rfl rfl) rfl rfl (by kernel_rfl) ?_
 refine D.sq 14 [] hQ hS rfl (.und 12 false 31 rfl rfl rfl) rfl rfl (by kernel_rfl) ?_
 refine D.sq 15 [] hQ hS rfl (.und 12 false 31 rfl rfl rfl) rfl rfl (by kernel_rfl) ?_
 refine D.sq 16 [] hQ hS rfl (.und 12 false 31 rfl rfl rfl) rfl rfl (by kernel_rfl) ?_
 refine D.sq 17 [] hQ hS rfl (.und 12 false 31 rfl rfl rfl) rfl rfl (by kernel_rfl) ?_
 refine D.sq 18 [] hQ hS rfl (.und 12 false 31 rfl rfl rfl) rfl rfl (by kernel_rfl) ?_
 refine D.sq 19 [] hQ hS rfl (.skip 9 true 28 _ hb31 rfl rfl rfl) rfl rfl (by kernel_rfl) ?_
 refine D.q 20 [] hQ hS rfl (.none rfl) rfl rfl (by exact Rd.pk' rfl rfl hb31 rfl) rfl (by kernel_rfl) ?_
 refine D.done (by kernel_rfl) ?_
 exact St.wk (hJ28 _ hm) (Wk.e)
 refine C.exit (C.ex (C.ex (C.bex ?_)))
 exact St.wk (hJ21 _ hm) (Wk.e)
 refine C.exit (C.ex (C.ex (C.bex ?_)))
 exact St.wk (hJ10 _ hm) (Wk.e)
theorem T_taquinref14_Right (s_1 : ApiSite) (st : ApiState) (post : Bool → Prop) (hm : V_taquinref14_Right s_1 st post) :
    Tr Tryz.prog 37 [.agg (eApiSite s_1), .agg (eApiState st)] [] 0 (fun A H' k => ∃ y, post y ∧ A = (.b y) ∧ H' = [] ∧ k = 0) := by
 refine Tr.intro (n := 183) Tryz.func37 rfl Tryz.ntmps37 rfl (fun w0 ok F β hβ => ?_)
 unfold V_taquinref14_Right at hm
 refine C.seq (U.start ?_)
 refine U.e1 rfl (.none rfl) (by exact Eff1.box rfl rfl rfl rfl rfl) ?_
 refine U.e1 rfl (.none rfl) (by exact Eff1.box rfl rfl rfl rfl rfl) ?_
 refine U.ps 1 T rfl ?_
 refine U.done (C.nx (C.seq (C.seq ?_)))
 refine C.jn (fun (x3 : Bool) => [(2, .p 0 0), (3, .p 1 0), (47, .b x3)]) (fun (x3 : Bool) => [(0, .box (eApiSite s_1)), (1, .box (eApiState st))]) 2 hm (fun x3 hm => ?_) (fun J4 hm hJ4 => ?_)
 refine C.nx ?_
 refine C.ite rfl hm (fun hb9 hm => ?_) (fun hb9 hm => ?_)
 refine C.seq (U.start ?_)
 refine U.ps 1 T rfl ?_
 refine U.done (C.nx (C.ret (C.rt ?_)))
 exact C.f0 T (rs' := [.b false]) hβ ⟨false, hm, rfl, rfl, rfl⟩
 refine C.skip (C.nx (C.seq (C.seq (U.start ?_))))
 refine U.ps 1 T rfl ?_
 refine U.done (C.nx ?_)
 refine C.jn (fun (x14 : Unit) => [(2, .p 0 0), (3, .p 1 0)]) (fun (x14 : Unit) => [(0, .box (eApiSite s_1)), (1, .box (eApiState st))]) 2 hm (fun x14 hm => ?_) (fun J15 hm hJ15 => ?_)
 refine C.nx (C.seq (C.seq (U.start ?_)))
 refine U.ps 1 T rfl ?_
 refine U.done (C.nx ?_)
 refine C.jn (fun (x31 : Unit) => [(2, .p 0 0), (3, .p 1 0)]) (fun (x31 : Unit) => [(0, .box (eApiSite s_1)), (1, .box (eApiState st))]) 2 hm (fun x31 hm => ?_) (fun J32 hm hJ32 => ?_)
 refine C.nx (C.seq (C.seq (U.start ?_)))
 refine U.ps 1 T rfl ?_
 refine U.done (C.nx ?_)
 refine C.jn (fun (x54 : Unit) => [(2, .p 0 0), (3, .p 1 0)]) (fun (x54 : Unit) => [(0, .box (eApiSite s_1)), (1, .box (eApiState st))]) 2 hm (fun x54 hm => ?_) (fun J55 hm hJ55 => ?_)
 refine C.nx (C.seq (U.start ?_))
 refine U.ps 1 T rfl ?_
 refine U.done (C.nx (C.seq (C.seq (U.start ?_))))
 refine U.ps 1 T rfl ?_
 refine U.done (C.nx ?_)
 refine C.jn (fun (x77 : Unit) => [(2, .p 0 0), (3, .p 1 0)]) (fun (x77 : Unit) => [(0, .box (eApiSite s_1)), (1, .box (eApiState st))]) 2 hm (fun x77 hm => ?_) (fun J78 hm hJ78 => ?_)
 refine C.nx (C.seq (U.start ?_))
 refine U.ps 1 T rfl ?_
 refine U.done (C.nx (C.seq (C.seq (U.start ?_))))
 refine U.ps 1 T rfl ?_
 refine U.done (C.nx ?_)
 refine C.jn (fun (x100 : Unit) => [(3, .p 0 0)]) (fun (x100 : Unit) => [(0, .box (eApiState st))]) 1 hm (fun x100 hm => ?_) (fun J101 hm hJ101 => ?_)
 refine C.nx (C.seq (U.start ?_))
 refine U.ps 1 T rfl ?_
 refine U.e rfl (.none rfl) (by exact Eff.c [] (v := true) (T_taquinref14_All st _ hm) en93 rfl rfl rfl (.eq rfl) trivial rfl rfl rfl rfl rfl rfl (fun _ _ => ⟨(.o _), ⟨.val (.os _ _ _ fun _ => (.cons (.v _) .nil)), trivial⟩⟩) (.inr ⟨rfl, rfl⟩) (fun _ => rfl) (fun _ => rfl) rfl) (fun x125' hm => ?_)
 obtain ⟨x125⟩ := x125'
 refine U.e rfl (.none rfl) (by exact Eff.k (T_taquinref14_Clash x125 _ hm) en92 rfl rfl rfl (.cons (.fz rfl rfl rfl (.os fun _ => .cons (.ro rfl) .nil)) .nil) (fun _ _ => ⟨(.tup (.cons (.v _) (.cons (.v _) .nil))), trivial⟩)) (fun x126' hm => ?_)
 obtain ⟨x126⟩ := x126'
 refine U.ps 5 T rfl ?_
 refine U.done (C.nx (C.seq (U.start ?_)))
 refine U.ps 3 T rfl ?_
 refine U.done (C.nx (C.ret ?_))
 exact C.f0 T (rs' := [.b (!x126.2)]) hβ ⟨!x126.2, hm, rfl, rfl, rfl⟩
 refine C.block ?_
 refine St.wk (C.loop (fun (s102 : Int × Int) => [(2, .p 0 0), (3, .p 1 0), (10, .i s102.1), (12, .i s102.2)]) (fun (s102 : Int × Int) => [(0, .box (eApiSite s_1)), (1, .box (eApiState st))]) hm (fun s102 Y103 hm => ?_)) (Wk.f [some 0, some 1] ⟨bX, bX, trivial⟩)
 refine C.seq (C.seq (U.start ?_))
 refine U.ps 5 T rfl ?_
 refine U.done (C.nx ?_)
 refine C.ite rfl hm (fun hb106 hm => ?_) (fun hb106 hm => ?_)
 refine C.skip (C.nx (C.seq (C.block (C.seq (U.start ?_)))))
 refine U.ps 3 T rfl ?_
 obtain ⟨x109, hx109, hm⟩ := hm
 refine U.r rfl (.none rfl) rfl rfl (by exact Rd.ix T rfl rfl rfl rfl rfl rfl hx109) ?_
 refine U.ps 1 T rfl ?_
 refine U.e1 rfl (.none rfl) (by exact Eff1.al T rfl rfl rfl rfl) ?_
 refine U.e1 rfl (.none rfl) (by exact Eff1.st T rfl rfl rfl rfl rfl rfl rfl rfl rfl rfl) ?_
 refine U.done (C.nx (C.seq (C.seq ?_)))
 refine C.jn (fun (x110 : Bool) => [(2, .p 0 0), (3, .p 1 0), (12, .i s102.2), (13, .p 2 0), (172, .b x110)]) (fun (x110 : Bool) => [(0, .box (eApiSite s_1)), (1, .box (eApiState st)), (2, .box [.i x109.Cell, .i x109.Left])]) 3 hm (fun x110 hm => ?_) (fun J111 hm hJ111 => ?_)
 refine C.nx ?_
 refine C.ite rfl hm (fun hb116 hm => ?_) (fun hb116 hm => ?_)
 refine C.seq (U.start ?_)
 refine U.ps 1 T rfl ?_
 refine U.done (C.nx (C.ret (C.rt (C.brt (C.rt (C.rt (C.brt (C.rt ?_))))))))
 exact C.f0 T (rs' := [.b false]) hβ ⟨false, hm, rfl, rfl, rfl⟩
 refine C.skip (C.nx (U.start ?_))
 refine U.ps 3 T rfl ?_
 refine U.done (C.bnx (C.nx (U.start ?_)))
 refine U.ps 3 T rfl ?_
 refine U.done (C.nx ?_)
 exact St.wk (C.next hm) (Wk.f [some 0, some 1] ⟨bX, bX, trivial⟩)
 refine U.start ?_
 refine U.ps 5 T rfl ?_
 refine hm.cs (fun hb112 hm => ?_) (fun hb112 hm => ?_)
 refine U.sks 6 4 false 155 hb112 rfl rfl rfl ?_
 refine U.r rfl (.none rfl) rfl rfl (by exact Rd.pk rfl rfl hb112 rfl) ?_
 refine U.ps 1 T rfl ?_
 refine U.sks 3 12 false 163 rfl rfl rfl rfl ?_
 refine U.r rfl (.none rfl) rfl rfl (by exact Rd.pk rfl rfl rfl rfl) ?_
 refine U.ps 1 T rfl ?_
 refine U.sks 3 17 false 168 rfl rfl rfl rfl ?_
 refine U.r rfl (.none rfl) rfl rfl (by exact Rd.pk rfl rfl rfl rfl) ?_
 refine U.done ?_
 exact St.wk (hJ111 _ hm) (Wk.f [some 0, some 1, some 2] ⟨bX, bX, bX, trivial⟩)
 refine U.pg 4 4 false 155 hb112 T rfl rfl rfl rfl ?_
 refine U.e rfl (.take 4 false 155 _ hb112 rfl rfl rfl) (by exact Eff.k (T_taquinref14_kind s_1.Floor x109.Cell _ hm) en90 rfl rfl rfl (.eq rfl) (fun _ _ => ⟨(.v _), trivial⟩)) (fun x113' hm => ?_)
 obtain ⟨x113⟩ := x113'
 refine U.pg 1 4 false 155 hb112 T rfl rfl rfl rfl ?_
 refine U.r rfl (.none rfl) rfl rfl (by exact Rd.pk' rfl rfl hb112 rfl) ?_
 refine U.ps 1 T rfl ?_
 refine hm.cs (fun hb114 hm => ?_) (fun hb114 hm => ?_)
 refine U.sks 3 12 false 163 hb114 rfl rfl rfl ?_
 refine U.r rfl (.none rfl) rfl rfl (by exact Rd.pk rfl rfl hb114 rfl) ?_
 refine U.ps 1 T rfl ?_
 refine U.sks 3 17 false 168 rfl rfl rfl rfl ?_
 refine U.r rfl (.none rfl) rfl rfl (by exact Rd.pk rfl rfl rfl rfl) ?_
 refine U.done ?_
 exact St.wk (hJ111 _ hm) (Wk.f [some 0, some 1, some 2] ⟨bX, bX, bX, trivial⟩)
 refine U.pg 3 12 false 163 hb114 T rfl rfl rfl rfl ?_
 refine U.r rfl (.none rfl) rfl rfl (by exact Rd.pk' rfl rfl hb114 rfl) ?_
 refine U.ps 1 T rfl ?_
 refine hm.cs (fun hb115 hm => ?_) (fun hb115 hm => ?_)
 refine U.sks 3 17 false 168 hb115 rfl rfl rfl ?_
 refine U.r rfl (.none rfl) rfl rfl (by exact Rd.pk rfl rfl hb115 rfl) ?_
 refine U.done ?_
 exact St.wk (hJ111 _ hm) (Wk.f [some 0, some 1, some 2] ⟨bX, bX, bX, trivial⟩)
 refine U.pg 3 17 false 168 hb115 T rfl rfl rfl rfl ?_
 refine U.r rfl (.none rfl) rfl rfl (by exact Rd.pk' rfl rfl hb115 rfl) ?_
 refine U.done ?_
 exact St.wk (hJ111 _ hm) (Wk.f [some 0, some 1, some 2] ⟨bX, bX, bX, trivial⟩)
 refine C.exit (C.ex (C.ex (C.bex ?_)))
 exact St.wk (hJ101 _ hm) (Wk.f [some 1] ⟨bX, trivial⟩)
 refine C.block ?_
 refine St.wk (C.loop (fun (s79 : Int × Int) => [(2, .p 0 0), (3, .p 1 0), (10, .i s79.1), (11, .i s79.2)]) (fun (s79 : Int × Int) => [(0, .box (eApiSite s_1)), (1, .box (eApiState st))]) hm (fun s79 Y80 hm => ?_)) (Wk.f [some 0, some 1] ⟨bX, bX, trivial⟩)
 refine C.seq (C.seq (U.start ?_))
 refine U.ps 5 T rfl ?_
 refine U.done (C.nx ?_)
 refine C.ite rfl hm (fun hb83 hm => ?_) (fun hb83 hm => ?_)
 refine C.skip (C.nx (C.seq (C.block (C.seq (C.seq ?_)))))
 refine C.jn (fun (x84 : Bool) => [(2, .p 0 0), (3, .p 1 0), (11, .i s79.2), (133, .b x84)]) (fun (x84 : Bool) => [(0, .box (eApiSite s_1)), (1, .box (eApiState st))]) 2 hm (fun x84 hm => ?_) (fun J85 hm hJ85 => ?_)
 refine C.nx ?_
 refine C.ite rfl hm (fun hb88 hm => ?_) (fun hb88 hm => ?_)
 refine C.seq (U.start ?_)
 refine U.ps 1 T rfl ?_
 refine U.done (C.nx (C.ret (C.rt (C.brt (C.rt (C.rt (C.brt (C.rt ?_))))))))
 exact C.f0 T (rs' := [.b false]) hβ ⟨false, hm, rfl, rfl, rfl⟩
 refine C.skip (C.nx (U.start ?_))
 refine U.ps 3 T rfl ?_
 obtain ⟨x93, hx93, hm⟩ := hm
 refine U.r rfl (.none rfl) rfl rfl (by exact Rd.ix T rfl rfl rfl rfl rfl rfl hx93) ?_
 refine U.ps 2 T rfl ?_
 refine U.done (C.bnx (C.nx (U.start ?_)))
 refine U.ps 3 T rfl ?_
 refine U.done (C.nx ?_)
 exact St.wk (C.next hm) (Wk.f [some 0, some 1] ⟨bX, bX, trivial⟩)
 refine D.beg 9999 [0, 1] [] mix rfl rfl (by kernel_rfl) (by repeat (first | exact NoPanicQ.body | exact NoPanicQ.rnd | refine NoPanicQ.th ?_ | refine NoPanicQ.blk ?_)) (fun hQ hS ws M' => ?_)
 refine D.ps 3 [(0, []), (1, []), (2, [])] rfl hQ hS T rfl rfl (by kernel_rfl) ?_
 obtain ⟨x86, hx86, hm⟩ := hm
 refine D.q 3 [] hQ hS rfl (.none rfl) rfl rfl (by exact Rd.ix T rfl rfl rfl rfl rfl rfl hx86) rfl (by kernel_rfl) ?_
 refine D.ps 4 [(4, []), (5, []), (6, []), (7, [])] rfl hQ hS T rfl rfl (by kernel_rfl) ?_
 refine hm.cs (fun hb87 hm => ?_) (fun hb87 hm => ?_)
 refine D.sq 8 [] hQ hS rfl (.skip 7 false 122 _ hb87 rfl rfl rfl) rfl rfl (by kernel_rfl) ?_
 refine D.sq 9 [] hQ hS rfl (.skip 7 false 122 _ hb87 rfl rfl rfl) rfl rfl (by kernel_rfl) ?_
 refine D.sq 10 [] hQ hS rfl (.skip 7 false 122 _ hb87 rfl rfl rfl) rfl rfl (by kernel_rfl) ?_
 refine D.sq 11 [] hQ hS rfl (.skip 7 false 122 _ hb87 rfl rfl rfl) rfl rfl (by kernel_rfl) ?_
 refine D.sq 12 [] hQ hS rfl (.skip 7 false 122 _ hb87 rfl rfl rfl) rfl rfl (by kernel_rfl) ?_
 refine D.sq 13 [] hQ hS rfl (.skip 7 false 122 _ hb87 rfl rfl rfl) rfl rfl (by kernel_rfl) ?_
 refine D.sq 14 [] hQ hS rfl (.skip 7 false 122 _ hb87 rfl rfl rfl) rfl rfl (by kernel_rfl) ?_
 refine D.sq 15 [] hQ hS rfl (.skip 7 false 122 _ hb87 rfl rfl rfl) rfl rfl (by kernel_rfl) ?_
 refine D.sq 16 [] hQ hS rfl (.skip 7 false 122 _ hb87 rfl rfl rfl) rfl rfl (by kernel_rfl) ?_
 refine D.sq 17 [] hQ hS rfl (.skip 7 false 122 _ hb87 rfl rfl rfl) rfl rfl (by kernel_rfl) ?_
 refine D.q 18 [] hQ hS rfl (.none rfl) rfl rfl (by exact Rd.pk rfl rfl hb87 rfl) rfl (by kernel_rfl) ?_
 refine D.done (by kernel_rfl) ?_
 exact St.wk (hJ85 _ hm) (Wk.f [some 0, some 1] ⟨bX, bX, trivial⟩)
 refine D.q 8 [] hQ hS rfl (.take 7 false 122 _ hb87 rfl rfl rfl) rfl rfl (by exact Rd.p T rfl) rfl (by kernel_rfl) ?_
 refine D.q 9 [] hQ hS rfl (.take 7 false 122 _ hb87 rfl rfl rfl) rfl rfl (by exact Rd.l T rfl rfl rfl) rfl (by kernel_rfl) ?_
 refine D.q 10 [] hQ hS rfl (.take 7 false 122 _ hb87 rfl rfl rfl) rfl rfl (by exact Rd.p T rfl) rfl (by kernel_rfl) ?_
 refine D.q 11 [] hQ hS rfl (.take 7 false 122 _ hb87 rfl rfl rfl) rfl rfl (by exact Rd.ix T rfl rfl rfl rfl rfl rfl hx86) rfl (by kernel_rfl) ?_
 refine D.q 12 [] hQ hS rfl (.take 7 false 122 _ hb87 rfl rfl rfl) rfl rfl (by exact Rd.l T rfl rfl rfl) rfl (by kernel_rfl) ?_
 refine D.q 13 [] hQ hS rfl (.take 7 false 122 _ hb87 rfl rfl rfl) rfl rfl (by exact Rd.p T rfl) rfl (by kernel_rfl) ?_
 refine D.q 14 [] hQ hS rfl (.take 7 false 122 _ hb87 rfl rfl rfl) rfl rfl (by exact Rd.p T rfl) rfl (by kernel_rfl) ?_
 refine D.q 15 [] hQ hS rfl (.take 7 false 122 _ hb87 rfl rfl rfl) rfl rfl (by exact Rd.l T rfl rfl rfl) rfl (by kernel_rfl) ?_
 refine D.q 16 [] hQ hS rfl (.take 7 false 122 _ hb87 rfl rfl rfl) rfl rfl (by exact Rd.p T rfl) rfl (by kernel_rfl) ?_
 refine D.q 17 [] hQ hS rfl (.take 7 false 122 _ hb87 rfl rfl rfl) rfl rfl (by exact Rd.p T rfl) rfl (by kernel_rfl) ?_
 refine D.q 18 [] hQ hS rfl (.none rfl) rfl rfl (by exact Rd.pk' rfl rfl hb87 rfl) rfl (by kernel_rfl) ?_
 refine D.done (by kernel_rfl) ?_
 exact St.wk (hJ85 _ hm) (Wk.f [some 0, some 1] ⟨bX, bX, trivial⟩)
 refine C.exit (C.ex (C.ex (C.bex ?_)))
 exact St.wk (hJ78 _ hm) (Wk.f [some 0, some 1] ⟨bX, bX, trivial⟩)
 refine C.block ?_
 refine St.wk (C.loop (fun (s56 : Int) => [(2, .p 0 0), (3, .p 1 0), (8, .i s56)]) (fun (s56 : Int) => [(0, .box (eApiSite s_1)), (1, .box (eApiState st))]) hm (fun s56 Y57 hm => ?_)) (Wk.f [some 0, some 1] ⟨bX, bX, trivial⟩)
 refine C.seq (C.seq (U.start ?_))
 refine U.ps 5 T rfl ?_
 refine U.done (C.nx ?_)
 refine C.ite rfl hm (fun hb60 hm => ?_) (fun hb60 hm => ?_)
 refine C.skip (C.nx (C.seq (C.block (C.seq ?_))))
 refine D.beg 9999 [0, 1] [] mix rfl rfl (by kernel_rfl) (by repeat (first | exact NoPanicQ.body | exact NoPanicQ.rnd | refine NoPanicQ.th ?_ | refine NoPanicQ.blk ?_)) (fun hQ hS ws M' => ?_)
 refine D.ps 5 [(0, []), (1, []), (2, []), (3, []), (4, [])] rfl hQ hS T rfl rfl (by kernel_rfl) ?_
 obtain ⟨x63, hx63, hm⟩ := hm
 refine D.q 5 [] hQ hS rfl (.none rfl) rfl rfl (by exact Rd.ix T rfl rfl rfl rfl rfl rfl hx63) rfl (by kernel_rfl) ?_
 refine D.ps 1 [(6, [])] rfl hQ hS T rfl rfl (by kernel_rfl) ?_
 refine D.e 7 rfl (.none rfl) (by exact Eff.k (T_taquinref14_kind s_1.Floor x63 _ hm) en90 rfl rfl rfl (.eq rfl) (fun _ _ => ⟨(.v _), trivial⟩)) (by kernel_rfl) rfl rfl (fun x64' hm => ?_)
 obtain ⟨x64⟩ := x64'
 refine D.ps 1 [(8, [])] rfl hQ hS T rfl rfl (by kernel_rfl) ?_
 refine D.done (by kernel_rfl) ?_
 refine C.nx (C.seq ?_)
 refine C.jn (fun (x65 : Bool) => [(2, .p 0 0), (3, .p 1 0), (8, .i s56), (107, .b x65)]) (fun (x65 : Bool) => [(0, .box (eApiSite s_1)), (1, .box (eApiState st))]) 2 hm (fun x65 hm => ?_) (fun J66 hm hJ66 => ?_)
 refine C.nx ?_
 refine C.ite rfl hm (fun hb68 hm => ?_) (fun hb68 hm => ?_)
 refine C.seq (U.start ?_)
 refine U.ps 1 T rfl ?_
 refine U.done (C.nx (C.ret (C.brt (C.rt (C.rt (C.brt (C.rt ?_)))))))
 exact C.f0 T (rs' := [.b false]) hβ ⟨false, hm, rfl, rfl, rfl⟩
 refine C.skip (C.bnx (C.nx (U.start ?_)))
 refine U.ps 3 T rfl ?_
 refine U.done (C.nx ?_)
 exact St.wk (C.next hm) (Wk.f [some 0, some 1] ⟨bX, bX, trivial⟩)
 refine U.start ?_
 refine U.ps 3 T rfl ?_
 refine hm.cs (fun hb67 hm => ?_) (fun hb67 hm => ?_)
 refine U.pg 2 2 true 104 hb67 T rfl rfl rfl rfl ?_
 refine U.r rfl (.none rfl) rfl rfl (by exact Rd.pk rfl rfl hb67 rfl) ?_
 refine U.done ?_
 exact St.wk (hJ66 _ hm) (Wk.f [some 0, some 1] ⟨bX, bX, trivial⟩)
 refine U.sks 2 2 true 104 hb67 rfl rfl rfl ?_
 refine U.r rfl (.none rfl) rfl rfl (by exact Rd.pk' rfl rfl hb67 rfl) ?_
 refine U.done ?_
 exact St.wk (hJ66 _ hm) (Wk.f [some 0, some 1] ⟨bX, bX, trivial⟩)
 refine C.exit (C.ex (C.ex (C.bex ?_)))
 exact St.wk (hJ55 _ hm) (Wk.f [some 0, some 1] ⟨bX, bX, trivial⟩)
 refine C.block ?_
 refine St.wk (C.loop (fun (s33 : Int) => [(2, .p 0 0), (3, .p 1 0), (6, .i s33)]) (fun (s33 : Int) => [(0, .box (eApiSite s_1)), (1, .box (eApiState st))]) hm (fun s33 Y34 hm => ?_)) (Wk.f [some 0, some 1] ⟨bX, bX, trivial⟩)
 refine C.seq (C.seq (U.start ?_))
 refine U.ps 5 T rfl ?_
 refine U.done (C.nx ?_)
 refine C.ite rfl hm (fun hb37 hm => ?_) (fun hb37 hm => ?_)
 refine C.skip (C.nx (C.seq (C.block (C.seq ?_))))
 refine D.beg 9999 [0, 1] [] mix rfl rfl (by kernel_rfl) (by repeat (first | exact NoPanicQ.body | exact NoPanicQ.rnd | refine NoPanicQ.th ?_ | refine NoPanicQ.blk ?_)) (fun hQ hS ws M' => ?_)
 refine D.ps 5 [(0, []), (1, []), (2, []), (3, []), (4, [])] rfl hQ hS T rfl rfl (by kernel_rfl) ?_
 obtain ⟨x40, hx40, hm⟩ := hm
 refine D.q 5 [] hQ hS rfl (.none rfl) rfl rfl (by exact Rd.ix T rfl rfl rfl rfl rfl rfl hx40) rfl (by kernel_rfl) ?_
 refine D.ps 1 [(6, [])] rfl hQ hS T rfl rfl (by kernel_rfl) ?_
 refine D.e 7 rfl (.none rfl) (by exact Eff.k (T_taquinref14_kind s_1.Floor x40 _ hm) en90 rfl rfl rfl (.eq rfl) (fun _ _ => ⟨(.v _), trivial⟩)) (by kernel_rfl) rfl rfl (fun x41' hm => ?_)
 obtain ⟨x41⟩ := x41'
 refine D.ps 1 [(8, [])] rfl hQ hS T rfl rfl (by kernel_rfl) ?_
 refine D.done (by kernel_rfl) ?_
 refine C.nx (C.seq ?_)
 refine C.jn (fun (x42 : Bool) => [(2, .p 0 0), (3, .p 1 0), (6, .i s33), (86, .b x42)]) (fun (x42 : Bool) => [(0, .box (eApiSite s_1)), (1, .box (eApiState st))]) 2 hm (fun x42 hm => ?_) (fun J43 hm hJ43 => ?_)
 refine C.nx ?_
 refine C.ite rfl hm (fun hb47 hm => ?_) (fun hb47 hm => ?_)
 refine C.seq (U.start ?_)
 refine U.ps 1 T rfl ?_
 refine U.done (C.nx (C.ret (C.brt (C.rt (C.rt (C.brt (C.rt ?_)))))))
 exact C.f0 T (rs' := [.b false]) hβ ⟨false, hm, rfl, rfl, rfl⟩
 refine C.skip (C.bnx (C.nx (U.start ?_)))
 refine U.ps 3 T rfl ?_
 refine U.done (C.nx ?_)
 exact St.wk (C.next hm) (Wk.f [some 0, some 1] ⟨bX, bX, trivial⟩)
 refine U.start ?_
 refine U.ps 2 T rfl ?_
 refine U.e rfl (.none rfl) (by exact Eff.k (T_taquinref14_Carrier st s33 _ hm) en91 rfl rfl rfl (.eq rfl) (fun _ _ => ⟨(.v _), trivial⟩)) (fun x44' hm => ?_)
 obtain ⟨x44⟩ := x44'
 refine U.ps 2 T rfl ?_
 refine hm.cs (fun hb45 hm => ?_) (fun hb45 hm => ?_)
 refine U.pg 2 4 true 79 hb45 T rfl rfl rfl rfl ?_
 refine U.r rfl (.none rfl) rfl rfl (by exact Rd.pk rfl rfl hb45 rfl) ?_
 refine U.ps 1 T rfl ?_
 refine hm.cs (fun hb46 hm => ?_) (fun hb46 hm => ?_)
 refine U.pg 2 8 true 83 hb46 T rfl rfl rfl rfl ?_
 refine U.r rfl (.none rfl) rfl rfl (by exact Rd.pk rfl rfl hb46 rfl) ?_
 refine U.done ?_
 exact St.wk (hJ43 _ hm) (Wk.f [some 0, some 1] ⟨bX, bX, trivial⟩)
 refine U.sks 2 8 true 83 hb46 rfl rfl rfl ?_
 refine U.r rfl (.none rfl) rfl rfl (by exact Rd.pk' rfl rfl hb46 rfl) ?_
 refine U.done ?_
 exact St.wk (hJ43 _ hm) (Wk.f [some 0, some 1] ⟨bX, bX, trivial⟩)
 refine U.sks 2 4 true 79 hb45 rfl rfl rfl ?_
 refine U.r rfl (.none rfl) rfl rfl (by exact Rd.pk' rfl rfl hb45 rfl) ?_
 refine U.ps 1 T rfl ?_
 refine U.sks 2 8 true 83 rfl rfl rfl rfl ?_
 refine U.r rfl (.none rfl) rfl rfl (by exact Rd.pk' rfl rfl rfl rfl) ?_
 refine U.done ?_
 exact St.wk (hJ43 _ hm) (Wk.f [some 0, some 1] ⟨bX, bX, trivial⟩)
 refine C.exit (C.ex (C.ex (C.bex ?_)))
 exact St.wk (hJ32 _ hm) (Wk.f [some 0, some 1] ⟨bX, bX, trivial⟩)
 refine C.block ?_
 refine St.wk (C.loop (fun (s16 : Int) => [(2, .p 0 0), (3, .p 1 0), (5, .i s16)]) (fun (s16 : Int) => [(0, .box (eApiSite s_1)), (1, .box (eApiState st))]) hm (fun s16 Y17 hm => ?_)) (Wk.f [some 0, some 1] ⟨bX, bX, trivial⟩)
 refine C.seq (C.seq (U.start ?_))
 refine U.ps 5 T rfl ?_
 refine U.done (C.nx ?_)
 refine C.ite rfl hm (fun hb20 hm => ?_) (fun hb20 hm => ?_)
 refine C.skip (C.nx (C.seq (C.block (C.seq (U.start ?_)))))
 refine U.ps 3 T rfl ?_
 refine U.e rfl (.none rfl) (by exact Eff.k (T_taquinref14_robot s_1 st s16 _ hm) en89 rfl rfl rfl (.eq rfl) (fun _ _ => ⟨(.v _), trivial⟩)) (fun x23' hm => ?_)
 obtain ⟨x23⟩ := x23'
 refine U.ps 1 T rfl ?_
 refine U.done (C.nx ?_)
 refine C.ite rfl hm (fun hb24 hm => ?_) (fun hb24 hm => ?_)
 refine C.seq (U.start ?_)
 refine U.ps 1 T rfl ?_
 refine U.done (C.nx (C.ret (C.brt (C.rt (C.rt (C.brt (C.rt ?_)))))))
 exact C.f0 T (rs' := [.b false]) hβ ⟨false, hm, rfl, rfl, rfl⟩
 refine C.skip (C.bnx (C.nx (U.start ?_)))
 refine U.ps 3 T rfl ?_
 refine U.done (C.nx ?_)
 exact St.wk (C.next hm) (Wk.f [some 0, some 1] ⟨bX, bX, trivial⟩)
 refine C.exit (C.ex (C.ex (C.bex ?_)))
 exact St.wk (hJ15 _ hm) (Wk.f [some 0, some 1] ⟨bX, bX, trivial⟩)
 refine U.start ?_
 refine U.ps 4 T rfl ?_
 refine hm.cs (fun hb5 hm => ?_) (fun hb5 hm => ?_)
 refine U.sks 3 3 false 19 hb5 rfl rfl rfl ?_
 refine U.r rfl (.none rfl) rfl rfl (by exact Rd.pk rfl rfl hb5 rfl) ?_
 refine U.ps 1 T rfl ?_
 refine U.sks 7 8 false 24 rfl rfl rfl rfl ?_
 refine U.r rfl (.none rfl) rfl rfl (by exact Rd.pk rfl rfl rfl rfl) ?_
 refine U.ps 1 T rfl ?_
 refine U.sks 7 17 false 33 rfl rfl rfl rfl ?_
 refine U.r rfl (.none rfl) rfl rfl (by exact Rd.pk rfl rfl rfl rfl) ?_
 refine U.ps 1 T rfl ?_
 refine U.sks 4 26 false 42 rfl rfl rfl rfl ?_
 refine U.r rfl (.none rfl) rfl rfl (by exact Rd.pk rfl rfl rfl rfl) ?_
 refine U.done ?_
 exact St.wk (hJ4 _ hm) (Wk.f [some 0, some 1] ⟨bX, bX, trivial⟩)
 refine U.pg 3 3 false 19 hb5 T rfl rfl rfl rfl ?_
 refine U.r rfl (.none rfl) rfl rfl (by exact Rd.pk' rfl rfl hb5 rfl) ?_
 refine U.ps 1 T rfl ?_
 refine hm.cs (fun hb6 hm => ?_) (fun hb6 hm => ?_)
 refine U.sks 7 8 false 24 hb6 rfl rfl rfl ?_
 refine U.r rfl (.none rfl) rfl rfl (by exact Rd.pk rfl rfl hb6 rfl) ?_
 refine U.ps 1 T rfl ?_
 refine U.sks 7 17 false 33 rfl rfl rfl rfl ?_
 refine U.r rfl (.none rfl) rfl rfl (by exact Rd.pk rfl rfl rfl rfl) ?_
 refine U.ps 1 T rfl ?_
 refine U.sks 4 26 false 42 rfl rfl rfl rfl ?_
 refine U.r rfl (.none rfl) rfl rfl (by exact Rd.pk rfl rfl rfl rfl) ?_
 refine U.done ?_
 exact St.wk (hJ4 _ hm) (Wk.f [some 0, some 1] ⟨bX, bX, trivial⟩)
 refine U.pg 7 8 false 24 hb6 T rfl rfl rfl rfl ?_
 refine U.r rfl (.none rfl) rfl rfl (by exact Rd.pk' rfl rfl hb6 rfl) ?_
 refine U.ps 1 T rfl ?_
 refine hm.cs (fun hb7 hm => ?_) (fun hb7 hm => ?_)
 refine U.sks 7 17 false 33 hb7 rfl rfl rfl ?_
 refine U.r rfl (.none rfl) rfl rfl (by exact Rd.pk rfl rfl hb7 rfl) ?_
 refine U.ps 1 T rfl ?_
 refine U.sks 4 26 false 42 rfl rfl rfl rfl ?_
 refine U.r rfl (.none rfl) rfl rfl (by exact Rd.pk rfl rfl rfl rfl) ?_
 refine U.done ?_
 exact St.wk (hJ4 _ hm) (Wk.f [some 0, some 1] ⟨bX, bX, trivial⟩)
 refine U.pg 7 17 false 33 hb7 T rfl rfl rfl rfl ?_
 refine U.r rfl (.none rfl) rfl rfl (by exact Rd.pk' rfl rfl hb7 rfl) ?_
 refine U.ps 1 T rfl ?_
 refine hm.cs (fun hb8 hm => ?_) (fun hb8 hm => ?_)
 refine U.sks 4 26 false 42 hb8 rfl rfl rfl ?_
 refine U.r rfl (.none rfl) rfl rfl (by exact Rd.pk rfl rfl hb8 rfl) ?_
 refine U.done ?_
 exact St.wk (hJ4 _ hm) (Wk.f [some 0, some 1] ⟨bX, bX, trivial⟩)
 refine U.pg 4 26 false 42 hb8 T rfl rfl rfl rfl ?_
 refine U.r rfl (.none rfl) rfl rfl (by exact Rd.pk' rfl rfl hb8 rfl) ?_
 refine U.done ?_
 exact St.wk (hJ4 _ hm) (Wk.f [some 0, some 1] ⟨bX, bX, trivial⟩)
theorem T_taquinlaw15_fair (s_1 : ApiSite) (st : ApiState) (post : Bool → Prop) (hm : V_taquinlaw15_fair s_1 st post) :
    Tr Tryz.prog 9 [.agg (eApiSite s_1), .agg (eApiState st)] [] 0 (fun A H' k => ∃ y, post y ∧ A = (.b y) ∧ H' = [] ∧ k = 0) := by
 refine Tr.intro (n := 20) Tryz.func9 rfl Tryz.ntmps9 rfl (fun w0 ok F β hβ => ?_)
 unfold V_taquinlaw15_fair at hm
 refine C.seq (U.start ?_)
 refine U.e1 rfl (.none rfl) (by exact Eff1.box rfl rfl rfl rfl rfl) ?_
 refine U.e1 rfl (.none rfl) (by exact Eff1.box rfl rfl rfl rfl rfl) ?_
 refine U.ps 1 T rfl ?_
 refine U.done (C.nx (C.seq ?_))
 refine C.jn (fun (x3 : Bool) => [(4, .b x3)]) (fun (x3 : Bool) => []) 0 hm (fun x3 hm => ?_) (fun J4 hm hJ4 => ?_)
 refine C.nx (C.ret ?_)
 exact C.f0 T (rs' := [.b x3]) hβ ⟨x3, hm, rfl, rfl, rfl⟩
 refine U.start ?_
 refine U.ps 1 T rfl ?_
 refine U.e rfl (.none rfl) (by exact Eff.k (T_taquinref11_Few s_1 60 30 _ hm) en34 rfl rfl rfl (.eq rfl) (fun _ _ => ⟨(.v _), trivial⟩)) (fun x5' hm => ?_)
 obtain ⟨x5⟩ := x5'
 refine U.ps 1 T rfl ?_
 refine hm.cs (fun hb6 hm => ?_) (fun hb6 hm => ?_)
 refine U.pg 1 2 true 7 hb6 T rfl rfl rfl rfl ?_
 refine U.e rfl (.take 2 true 7 _ hb6 rfl rfl rfl) (by exact Eff.k (T_taquinref11_Right s_1 _ hm) en35 rfl rfl rfl (.eq rfl) (fun _ _ => ⟨(.v _), trivial⟩)) (fun x7' hm => ?_)
 obtain ⟨x7⟩ := x7'
 refine U.r rfl (.none rfl) rfl rfl (by exact Rd.pk rfl rfl hb6 rfl) ?_
 refine U.ps 1 T rfl ?_
 refine hm.cs (fun hb8 hm => ?_) (fun hb8 hm => ?_)
 refine U.pg 1 6 true 11 hb8 T rfl rfl rfl rfl ?_
 refine U.e rfl (.take 6 true 11 _ hb8 rfl rfl rfl) (by exact Eff.k (T_taquinref14_Few st _ hm) en36 rfl rfl rfl (.eq rfl) (fun _ _ => ⟨(.v _), trivial⟩)) (fun x9' hm => ?_)
 obtain ⟨x9⟩ := x9'
 refine U.r rfl (.none rfl) rfl rfl (by exact Rd.pk rfl rfl hb8 rfl) ?_
 refine U.ps 1 T rfl ?_
 refine hm.cs (fun hb10 hm => ?_) (fun hb10 hm => ?_)
 refine U.pg 2 10 true 15 hb10 T rfl rfl rfl rfl ?_
 refine U.e rfl (.take 10 true 15 _ hb10 rfl rfl rfl) (by exact Eff.k (T_taquinref14_Right s_1 st _ hm) en37 rfl rfl rfl (.eq rfl) (fun _ _ => ⟨(.v _), trivial⟩)) (fun x11' hm => ?_)
 obtain ⟨x11⟩ := x11'
 refine U.r rfl (.none rfl) rfl rfl (by exact Rd.pk rfl rfl hb10 rfl) ?_
 refine U.ps 1 T rfl ?_
 refine U.done ?_
 exact St.wk (hJ4 _ hm) (Wk.e)
 refine U.sks 3 10 true 15 hb10 rfl rfl rfl ?_
 refine U.r rfl (.none rfl) rfl rfl (by exact Rd.pk' rfl rfl hb10 rfl) ?_
 refine U.ps 1 T rfl ?_
 refine U.done ?_
 exact St.wk (hJ4 _ hm) (Wk.e)
 refine U.sks 2 6 true 11 hb8 rfl rfl rfl ?_
 refine U.r rfl (.none rfl) rfl rfl (by exact Rd.pk' rfl rfl hb8 rfl) ?_
 refine U.ps 1 T rfl ?_
 refine U.sks 3 10 true 15 rfl rfl rfl rfl ?_
 refine U.r rfl (.none rfl) rfl rfl (by exact Rd.pk' rfl rfl rfl rfl) ?_
 refine U.ps 1 T rfl ?_
 refine U.done ?_
 exact St.wk (hJ4 _ hm) (Wk.e)
 refine U.sks 2 2 true 7 hb6 rfl rfl rfl ?_
 refine U.r rfl (.none rfl) rfl rfl (by exact Rd.pk' rfl rfl hb6 rfl) ?_
 refine U.ps 1 T rfl ?_
 refine U.sks 2 6 true 11 rfl rfl rfl rfl ?_
 refine U.r rfl (.none rfl) rfl rfl (by exact Rd.pk' rfl rfl rfl rfl) ?_
 refine U.ps 1 T rfl ?_
 refine U.sks 3 10 true 15 rfl rfl rfl rfl ?_
 refine U.r rfl (.none rfl) rfl rfl (by exact Rd.pk' rfl rfl rfl rfl) ?_
 refine U.ps 1 T rfl ?_
 refine U.done ?_
 exact St.wk (hJ4 _ hm) (Wk.e)
theorem T_rules_beside_1 (c : Int) (post : Bool → Prop) (hm : V_rules_beside_1 c post) :
    Tr Tryz.prog 129 [.i c] [] 0 (fun A H' k => ∃ y, post y ∧ A = (.b y) ∧ H' = [] ∧ k = 0) := by
 refine Tr.intro (n := 5) Tryz.func129 rfl Tryz.ntmps129 rfl (fun w0 ok F β hβ => ?_)
 unfold V_rules_beside_1 at hm
 refine C.seq (U.start ?_)
 refine U.ps 1 T rfl ?_
 refine U.done (C.nx (C.seq (U.start ?_)))
 refine U.ps 3 T rfl ?_
 refine U.done (C.nx (C.ret ?_))
 exact C.f0 T (rs' := [.b (decide (c < 0))]) hβ ⟨decide (c < 0), hm, rfl, rfl, rfl⟩
theorem T_slices_IndexFunc_int_int__rules_beside_1 (s_1 : List Int) (post : Int → Prop) (hm : V_slices_IndexFunc_int_int__rules_beside_1 s_1 post) :
    Tr Tryz.prog 163 [.sl 1 eI s_1, .fn (.func 129) [] []] [] 0 (fun A H' k => ∃ y, post y ∧ A = (.i y) ∧ H' = [] ∧ k = 0) := by
 refine Tr.intro (n := 19) Tryz.func163 rfl Tryz.ntmps163 rfl (fun w0 ok F β hβ => ?_)
 unfold V_slices_IndexFunc_int_int__rules_beside_1 at hm
 refine C.seq (U.start ?_)
 refine U.ps 1 T rfl ?_
 refine U.done (C.nx (C.seq (C.seq (U.start ?_))))
 refine U.ps 3 T rfl ?_
 refine U.done (C.nx ?_)
 refine C.jn (fun (x5 : Unit) => []) (fun (x5 : Unit) => []) 0 hm (fun x5 hm => ?_) (fun J6 hm hJ6 => ?_)
 refine C.nx (C.seq (U.start ?_))
 refine U.ps 1 T rfl ?_
 refine U.done (C.nx (C.ret ?_))
 exact C.f0 T (rs' := [.i (-1)]) hβ ⟨(-1), hm, rfl, rfl, rfl⟩
 refine C.block ?_
 refine St.wk (C.loop (fun (s7 : Int) => [(0, .sl 1 eI s_1), (1, .fn (.func 129) [] []), (7, .i (s_1.length : Int)), (8, .i s7)]) (fun (s7 : Int) => []) hm (fun s7 Y8 hm => ?_)) (Wk.e)
 refine C.seq (U.start ?_)
 refine U.ps 1 T rfl ?_
 refine U.done (C.nx (C.seq ?_))
 refine C.ite rfl hm (fun hb11 hm => ?_) (fun hb11 hm => ?_)
 refine C.skip (C.nx (C.seq (C.block (C.seq (U.start ?_)))))
 refine U.ps 2 T rfl ?_
 refine U.done (C.nx (C.seq (U.start ?_)))
 refine U.ps 3 T rfl ?_
 obtain ⟨x16, hx16, hm⟩ := hm
 refine U.r rfl (.none rfl) rfl rfl (by exact Rd.ix T rfl rfl rfl rfl rfl rfl hx16) ?_
 refine U.ps 1 T rfl ?_
 refine U.e rfl (.none rfl) (by exact Eff.k (T_rules_beside_1 x16 _ hm) en129 rfl rfl rfl (.eq rfl) (fun _ _ => ⟨(.v _), trivial⟩)) (fun x17' hm => ?_)
 obtain ⟨x17⟩ := x17'
 refine U.done (C.nx ?_)
 refine C.ite rfl hm (fun hb18 hm => ?_) (fun hb18 hm => ?_)
 refine C.seq (U.start ?_)
 refine U.ps 2 T rfl ?_
 refine U.done (C.nx (C.ret (C.brt (C.rt (C.rt (C.brt (C.rt ?_)))))))
 exact C.f0 T (rs' := [.i s7]) hβ ⟨s7, hm, rfl, rfl, rfl⟩
 refine C.skip (C.bnx (C.nx (U.start ?_)))
 refine U.ps 2 T rfl ?_
 refine U.done (C.nx ?_)
 exact St.wk (C.next hm) (Wk.e)
 refine C.exit (C.ex (C.ex (C.bex ?_)))
 exact St.wk (hJ6 _ hm) (Wk.mk' [] rfl rfl trivial trivial rfl)
theorem T_slices_DeleteFunc_int_int__o0_rules_beside_1 (s_1 : List Int) (post : (List Int) → Prop) (hm : V_slices_DeleteFunc_int_int__o0_rules_beside_1 s_1 post) :
    Tr Tryz.prog 128 [.o 0, .fn (.func 129) [] []] [(0, .val (.os 1 eI s_1))] 1 (fun A H' k => ∃ y, post y ∧ A = (.o 1) ∧ H' = [(1, .val (.os 1 eI y))] ∧ k = 2) := by
 refine Tr.intro (n := 42) Tryz.func128 rfl Tryz.ntmps128 rfl (fun w0 ok F β hβ => ?_)
 unfold V_slices_DeleteFunc_int_int__o0_rules_beside_1 at hm
 refine C.seq (U.start ?_)
 refine U.ps 1 T rfl ?_
 refine U.done (C.nx (C.seq (U.start ?_)))
 refine U.ps 2 T rfl ?_
 refine U.e rfl (.none rfl) (by exact Eff.k (T_slices_IndexFunc_int_int__rules_beside_1 s_1 _ hm) en163 rfl rfl rfl (.cons (.fz rfl rfl rfl (.os fun _ => .cons (.ro rfl) .nil)) (.eq rfl)) (fun _ _ => ⟨(.v _), trivial⟩)) (fun x5' hm => ?_)
 obtain ⟨x5⟩ := x5'
 refine U.ps 1 T rfl ?_
 refine U.done (C.nx (C.seq (C.seq (U.start ?_))))
 refine U.ps 2 T rfl ?_
 refine U.done (C.nx ?_)
 refine C.ite rfl hm (fun hb8 hm => ?_) (fun hb8 hm => ?_)
 refine C.seq (U.start ?_)
 refine U.ps 2 T rfl ?_
 refine U.done (C.nx (C.ret (C.rt ?_)))
 exact C.fin T (rs' := [.o 1]) (H' := [(1, .val (.os 1 eI s_1))]) (nl' := 2) [some 0, some 0] rfl rfl (.eq rfl) ⟨vL, trivial⟩ rfl rfl rfl rfl hβ ⟨s_1, hm, rfl, rfl, rfl⟩
 refine C.skip (C.nx (C.seq (C.seq (U.start ?_))))
 refine U.ps 3 T rfl ?_
 refine U.done (C.nx ?_)
 refine C.jn (fun (x13 : List Int × Int) => [(0, .o 0), (5, .i x13.2)]) (fun (x13 : List Int × Int) => [(0, .val (.os 1 eI x13.1))]) 1 hm (fun x13 hm => ?_) (fun J14 hm hJ14 => ?_)
 refine C.nx (C.seq (U.start ?_))
 refine U.ps 2 T rfl ?_
 obtain ⟨hx38, hm⟩ := hm
 refine U.r rfl (.none rfl) rfl rfl (by exact Rd.vw T rfl rfl rfl rfl rfl rfl (.some _ rfl) (.none _) hx38) ?_
 obtain ⟨hx39, hm⟩ := hm
 refine U.e1 rfl (.none rfl) (by exact Eff1.clv T (z0 := 0) rfl rfl rfl rfl rfl rfl rfl (fun _ => rfl) rfl hx39) ?_
 refine U.done (C.nx (C.seq (U.start ?_)))
 refine U.ps 2 T rfl ?_
 obtain ⟨hx42, hm⟩ := hm
 refine U.e1 rfl (.none rfl) (by exact Eff1.sw T rfl rfl rfl rfl rfl rfl rfl rfl (.none _) (.some _ rfl) hx42) ?_
 refine U.ps 1 T rfl ?_
 refine U.done (C.nx (C.ret ?_))
 exact C.fin T (rs' := [.o 1]) (H' := [(1, .val (.os 1 eI (sub (x13.1.take (Int.toNat x13.2) ++ (List.replicate (Int.toNat ((x13.1.length : Int) - x13.2)) 0 ++ x13.1.drop ((Int.toNat x13.2) + (Int.toNat ((x13.1.length : Int) - x13.2))))) 0 x13.2)))]) (nl' := 2) [some 0, some 1] rfl rfl (.eq rfl) ⟨vL, trivial⟩ rfl rfl rfl rfl hβ ⟨(sub (x13.1.take (Int.toNat x13.2) ++ (List.replicate (Int.toNat ((x13.1.length : Int) - x13.2)) 0 ++ x13.1.drop ((Int.toNat x13.2) + (Int.toNat ((x13.1.length : Int) - x13.2))))) 0 x13.2), hm, rfl, rfl, rfl⟩
 refine C.block ?_
 refine St.wk (C.loop (fun (s15 : List Int × Int × Int) => [(0, .o 0), (1, .fn (.func 129) [] []), (5, .i s15.2.1), (6, .i s15.2.2)]) (fun (s15 : List Int × Int × Int) => [(0, .val (.os 1 eI s15.1))]) hm (fun s15 Y16 hm => ?_)) (Wk.f [some 0] ⟨vL, trivial⟩)
 refine C.seq (C.seq (U.start ?_))
 refine U.ps 4 T rfl ?_
 refine U.done (C.nx ?_)
 refine C.ite rfl hm (fun hb19 hm => ?_) (fun hb19 hm => ?_)
 refine C.skip (C.nx (C.seq (C.block (C.seq (U.start ?_)))))
 refine U.ps 2 T rfl ?_
 obtain ⟨x22, hx22, hm⟩ := hm
 refine U.r rfl (.none rfl) rfl rfl (by exact Rd.io T rfl rfl rfl rfl rfl rfl rfl hx22) ?_
 refine U.r rfl (.none rfl) rfl rfl (by exact Rd.le T rfl rfl rfl (idx_some hx22).2.2 rfl rfl rfl) ?_
 refine U.ps 1 T rfl ?_
 refine U.done (C.nx (C.seq (U.start ?_)))
 refine U.ps 2 T rfl ?_
 refine U.e rfl (.none rfl) (by exact Eff.k (T_rules_beside_1 x22 _ hm) en129 rfl rfl rfl (.eq rfl) (fun _ _ => ⟨(.v _), trivial⟩)) (fun x25' hm => ?_)
 obtain ⟨x25⟩ := x25'
 refine U.ps 1 T rfl ?_
 refine U.done (C.nx ?_)
 refine C.jn (fun (x26 : List Int × Int) => [(0, .o 0), (1, .fn (.func 129) [] []), (5, .i x26.2), (6, .i s15.2.2)]) (fun (x26 : List Int × Int) => [(0, .val (.os 1 eI x26.1))]) 1 hm (fun x26 hm => ?_) (fun J27 hm hJ27 => ?_)
 refine C.bnx (C.nx (U.start ?_))
 refine U.ps 3 T rfl ?_
 refine U.done (C.nx ?_)
 exact St.wk (C.next hm) (Wk.f [some 0] ⟨vL, trivial⟩)
 refine C.ite rfl hm (fun hb28 hm => ?_) (fun hb28 hm => ?_)
 refine C.seq (U.start ?_)
 refine U.ps 3 T rfl ?_
 obtain ⟨x31, hx31, hm⟩ := hm
 refine U.r rfl (.none rfl) rfl rfl (by exact Rd.io T rfl rfl rfl rfl rfl rfl rfl hx31) ?_
 refine U.e1 rfl (.none rfl) (by exact Eff1.se T (z' := x22) rfl rfl rfl (idx_some hx31).2.2 rfl rfl rfl rfl rfl rfl rfl rfl (fun _ => rfl) rfl) ?_
 refine U.done (C.nx (U.start ?_))
 refine U.ps 3 T rfl ?_
 refine U.done ?_
 exact St.wk (hJ27 _ hm) (Wk.f [some 0] ⟨vL, trivial⟩)
 refine C.skip ?_
 exact St.wk (hJ27 _ hm) (Wk.f [some 0] ⟨vL, trivial⟩)
 refine C.exit (C.ex (C.ex (C.bex ?_)))
 exact St.wk (hJ14 _ hm) (Wk.f [some 0] ⟨vL, trivial⟩)
end Go.Proofs.YtenbhocpjlmimaaGreat
