/- The walks: each Go function does what its verification condition says (written by a program of the prover). -/
import Derived.Test.YtbekicmmgohfbaaGreatW0
import Derived.KernelRfl
set_option maxRecDepth 100000
set_option maxHeartbeats 8000000
set_option linter.unusedVariables false
set_option linter.unusedSimpArgs false
namespace Go.Proofs.YtbekicmmgohfbaaGreat
open Go Go.Taq
theorem T_taquinref11_rightZones (s_1 : ApiSite) (post : Bool → Prop) (hm : V_taquinref11_rightZones s_1 post) :
    Tr Tryz.prog 33 [.agg (eApiSite s_1)] [] 0 (fun A H' k => ∃ y, post y ∧ A = (.b y) ∧ H' = [] ∧ k = 0) := by
 refine Tr.intro (n := 112) Tryz.func33 rfl Tryz.ntmps33 rfl (fun w0 ok F β hβ => ?_)
 unfold V_taquinref11_rightZones at hm
 refine C.seq (U.start ?_)
 refine U.e1 rfl (.none rfl) (by exact Eff1.box rfl rfl rfl rfl rfl) ?_
 refine U.ps 1 T rfl ?_
 refine U.done (C.nx (C.seq (C.seq (U.start ?_))))
 refine U.ps 1 T rfl ?_
 refine U.done (C.nx ?_)
 refine C.jn (fun (x5 : Unit) => [(1, .p 0 0)]) (fun (x5 : Unit) => [(0, .box (eApiSite s_1))]) 1 hm (fun x5 hm => ?_) (fun J6 hm hJ6 => ?_)
 refine C.nx (C.seq (U.start ?_))
 refine U.ps 5 T rfl ?_
 refine U.done (C.nx (C.ret ?_))
 exact C.f0 T (rs' := [.b (decide ((s_1.Zones.length : Int) ≤ 64))]) hβ ⟨decide ((s_1.Zones.length : Int) ≤ 64), hm, rfl, rfl, rfl⟩
 refine C.block ?_
 refine St.wk (C.loop (fun (s7 : Int) => [(1, .p 0 0), (3, .i s7)]) (fun (s7 : Int) => [(0, .box (eApiSite s_1))]) hm (fun s7 Y8 hm => ?_)) (Wk.f [some 0] ⟨bX, trivial⟩)
 refine C.seq (C.seq (U.start ?_))
 refine U.ps 5 T rfl ?_
 refine U.done (C.nx ?_)
 refine C.ite rfl hm (fun hb11 hm => ?_) (fun hb11 hm => ?_)
 refine C.skip (C.nx (C.seq ?_))
 refine C.jn (fun (x12 : Unit) => [(1, .p 0 0), (3, .i s7)]) (fun (x12 : Unit) => [(0, .box (eApiSite s_1))]) 1 hm (fun x12 hm => ?_) (fun J13 hm hJ13 => ?_)
 refine C.nx (U.start ?_)
 refine U.ps 3 T rfl ?_
 refine U.done (C.nx ?_)
 exact St.wk (C.next hm) (Wk.f [some 0] ⟨bX, trivial⟩)
 refine C.block (C.seq (U.start ?_))
 refine U.ps 3 T rfl ?_
 obtain ⟨x16, hx16, hm⟩ := hm
 refine U.r rfl (.none rfl) rfl rfl (by exact Rd.ix T rfl rfl rfl rfl rfl rfl hx16) ?_
 refine U.ps 1 T rfl ?_
 refine U.e1 rfl (.none rfl) (by exact Eff1.al T rfl rfl rfl rfl) ?_
 refine U.e1 rfl (.none rfl) (by exact Eff1.st T rfl rfl rfl rfl rfl rfl rfl rfl rfl rfl) ?_
 refine U.done (C.nx (C.seq (C.seq ?_)))
 refine C.jn (fun (x17 : Bool) => [(1, .p 0 0), (3, .i s7), (4, .p 1 0), (59, .b x17)]) (fun (x17 : Bool) => [(0, .box (eApiSite s_1)), (1, .box (eApiZone x16))]) 2 hm (fun x17 hm => ?_) (fun J18 hm hJ18 => ?_)
 refine C.nx ?_
 refine C.ite rfl hm (fun hb29 hm => ?_) (fun hb29 hm => ?_)
 refine C.seq (U.start ?_)
 refine U.ps 1 T rfl ?_
 refine U.done (C.nx (C.ret (C.rt (C.brt (C.rt (C.rt (C.brt (C.rt ?_))))))))
 exact C.f0 T (rs' := [.b false]) hβ ⟨false, hm, rfl, rfl, rfl⟩
 refine C.skip (C.nx (C.seq (U.start ?_)))
 refine U.ps 1 T rfl ?_
 refine U.done (C.nx ?_)
 refine C.jn (fun (x34 : Unit) => [(1, .p 0 0), (3, .i s7)]) (fun (x34 : Unit) => [(0, .box (eApiSite s_1))]) 1 hm (fun x34 hm => ?_) (fun J35 hm hJ35 => ?_)
 refine C.bnx ?_
 exact St.wk (hJ13 _ hm) (Wk.f [some 0] ⟨bX, trivial⟩)
 refine C.block ?_
 refine St.wk (C.loop (fun (s36 : Int) => [(1, .p 0 0), (3, .i s7), (4, .p 1 0), (5, .i s36)]) (fun (s36 : Int) => [(0, .box (eApiSite s_1)), (1, .box (eApiZone x16))]) hm (fun s36 Y37 hm => ?_)) (Wk.f [some 0, some 1] ⟨bX, bX, trivial⟩)
 refine C.seq (C.seq (U.start ?_))
 refine U.ps 5 T rfl ?_
 refine U.done (C.nx ?_)
 refine C.ite rfl hm (fun hb40 hm => ?_) (fun hb40 hm => ?_)
 refine C.skip (C.nx (C.seq (C.block (C.seq (U.start ?_)))))
 refine U.ps 3 T rfl ?_
 obtain ⟨x43, hx43, hm⟩ := hm
 refine U.r rfl (.none rfl) rfl rfl (by exact Rd.ix T rfl rfl rfl rfl rfl rfl hx43) ?_
 refine U.ps 2 T rfl ?_
 refine U.done (C.nx (C.seq (C.seq ?_)))
 refine C.jn (fun (x44 : Bool) => [(1, .p 0 0), (3, .i s7), (4, .p 1 0), (5, .i s36), (6, .i x43), (91, .b x44)]) (fun (x44 : Bool) => [(0, .box (eApiSite s_1)), (1, .box (eApiZone x16))]) 2 hm (fun x44 hm => ?_) (fun J45 hm hJ45 => ?_)
 refine C.nx ?_
 refine C.ite rfl hm (fun hb50 hm => ?_) (fun hb50 hm => ?_)
 refine C.seq (U.start ?_)
 refine U.ps 1 T rfl ?_
 refine U.done (C.nx (C.ret (C.rt (C.brt (C.rt (C.rt (C.brt (C.brt (C.rt (C.rt (C.brt (C.rt ?_))))))))))))
 exact C.f0 T (rs' := [.b false]) hβ ⟨false, hm, rfl, rfl, rfl⟩
 refine C.skip (C.nx (C.seq ?_))
 refine C.jn (fun (x53 : Bool) => [(1, .p 0 0), (3, .i s7), (4, .p 1 0), (5, .i s36), (107, .b x53)]) (fun (x53 : Bool) => [(0, .box (eApiSite s_1)), (1, .box (eApiZone x16))]) 2 hm (fun x53 hm => ?_) (fun J54 hm hJ54 => ?_)
 refine C.nx ?_
 refine C.ite rfl hm (fun hb60 hm => ?_) (fun hb60 hm => ?_)
 refine C.seq (U.start ?_)
 refine U.ps 1 T rfl ?_
 refine U.done (C.nx (C.ret (C.brt (C.rt (C.rt (C.brt (C.brt (C.rt (C.rt (C.brt (C.rt ?_)))))))))))
 exact C.f0 T (rs' := [.b false]) hβ ⟨false, hm, rfl, rfl, rfl⟩
 refine C.skip (C.bnx (C.nx (U.start ?_)))
 refine U.ps 3 T rfl ?_
 refine U.done (C.nx ?_)
 exact St.wk (C.next hm) (Wk.f [some 0, some 1] ⟨bX, bX, trivial⟩)
 refine U.start ?_
 refine U.ps 4 T rfl ?_
 obtain ⟨x55, hx55, hm⟩ := hm
 refine U.r rfl (.none rfl) rfl rfl (by exact Rd.ix T rfl rfl rfl rfl rfl rfl hx55) ?_
 refine U.ps 1 T rfl ?_
 refine U.e rfl (.none rfl) (by exact Eff.k (T_taquinref11_zoned x55 _ hm) en69 rfl rfl rfl (.eq rfl) (fun _ _ => ⟨(.v _), trivial⟩)) (fun x56' hm => ?_)
 obtain ⟨x56⟩ := x56'
 refine U.ps 2 T rfl ?_
 refine hm.cs (fun hb57 hm => ?_) (fun hb57 hm => ?_)
 refine U.pg 3 8 false 100 (ntF hb57) T rfl rfl rfl rfl ?_
 obtain ⟨hx58, hm⟩ := hm
 refine U.r rfl (.take 8 false 100 _ (ntF hb57) rfl rfl rfl) rfl rfl (by exact Rd.so T rfl rfl rfl rfl rfl (.none _) (.some _ rfl) hx58) ?_
 refine U.pg 1 8 false 100 (ntF hb57) T rfl rfl rfl rfl ?_
 refine U.e rfl (.take 8 false 100 _ (ntF hb57) rfl rfl rfl) (by exact Eff.k (T_taquinref11_zoneAt (sub s_1.Zones 0 s7) x43 _ hm) en70 rfl rfl rfl (.eq rfl) (fun _ _ => ⟨(.v _), trivial⟩)) (fun x59' hm => ?_)
 obtain ⟨x59⟩ := x59'
 refine U.r rfl (.none rfl) rfl rfl (by exact Rd.pk' rfl rfl (ntF hb57) rfl) ?_
 refine U.done ?_
 exact St.wk (hJ54 _ hm) (Wk.f [some 0, some 1] ⟨bX, bX, trivial⟩)
 refine U.sks 6 8 false 100 (ntT hb57) rfl rfl rfl ?_
 refine U.r rfl (.none rfl) rfl rfl (by exact Rd.pk rfl rfl (ntT hb57) rfl) ?_
 refine U.done ?_
 exact St.wk (hJ54 _ hm) (Wk.f [some 0, some 1] ⟨bX, bX, trivial⟩)
 refine U.start ?_
 refine U.ps 3 T rfl ?_
 refine U.e rfl (.none rfl) (by exact Eff.k (T_taquinref07_Is s_1.Floor x43 _ hm) en36 rfl rfl rfl (.eq rfl) (fun _ _ => ⟨(.v _), trivial⟩)) (fun x46' hm => ?_)
 obtain ⟨x46⟩ := x46'
 refine U.ps 2 T rfl ?_
 refine hm.cs (fun hb47 hm => ?_) (fun hb47 hm => ?_)
 refine U.pg 3 5 false 77 (ntF hb47) T rfl rfl rfl rfl ?_
 refine hm.cs (fun hb48 hm => ?_) (fun hb48 hm => ?_)
 refine U.pg 5 8 true 80 hb48 T rfl rfl rfl rfl ?_
 obtain ⟨x49, hx49, hm⟩ := hm
 refine U.r rfl (.take 8 true 80 _ hb48 rfl rfl rfl) rfl rfl (by exact Rd.ix T rfl rfl rfl rfl rfl rfl hx49) ?_
 refine U.pg 3 8 true 80 hb48 T rfl rfl rfl rfl ?_
 refine U.r rfl (.take 5 false 77 _ (ntF hb47) rfl rfl rfl) rfl rfl (by exact Rd.pk rfl rfl hb48 rfl) ?_
 refine U.r rfl (.none rfl) rfl rfl (by exact Rd.pk' rfl rfl (ntF hb47) rfl) ?_
 refine U.done ?_
 exact St.wk (hJ45 _ hm) (Wk.f [some 0, some 1] ⟨bX, bX, trivial⟩)
 refine U.sks 9 8 true 80 hb48 rfl rfl rfl ?_
 refine U.r rfl (.take 5 false 77 _ (ntF hb47) rfl rfl rfl) rfl rfl (by exact Rd.pk' rfl rfl hb48 rfl) ?_
 refine U.r rfl (.none rfl) rfl rfl (by exact Rd.pk' rfl rfl (ntF hb47) rfl) ?_
 refine U.done ?_
 exact St.wk (hJ45 _ hm) (Wk.f [some 0, some 1] ⟨bX, bX, trivial⟩)
 refine U.sks 3 5 false 77 (ntT hb47) rfl rfl rfl ?_
 refine U.sku 9 8 true 80 rfl rfl rfl ?_
 refine U.sks 1 5 false 77 (ntT hb47) rfl rfl rfl ?_
 refine U.r rfl (.none rfl) rfl rfl (by exact Rd.pk rfl rfl (ntT hb47) rfl) ?_
 refine U.done ?_
 exact St.wk (hJ45 _ hm) (Wk.f [some 0, some 1] ⟨bX, bX, trivial⟩)
 refine C.exit (C.ex (C.ex (C.bex ?_)))
 exact St.wk (hJ35 _ hm) (Wk.f [some 0] ⟨bX, trivial⟩)
 refine D.beg 9999 [0, 1] [] mix rfl rfl (by kernel_rfl) (by repeat (first | exact NoPanicQ.body | exact NoPanicQ.rnd | refine NoPanicQ.th ?_ | refine NoPanicQ.blk ?_)) (fun hQ hS ws M' => ?_)
 refine D.ps 2 [(0, []), (1, [])] rfl hQ hS T rfl rfl (by kernel_rfl) ?_
 refine D.e 2 rfl (.none rfl) (by exact Eff.k (T_taquinref11_Name x16.Name _ hm) en34 rfl rfl rfl (.eq rfl) (fun _ _ => ⟨(.v _), trivial⟩)) (by kernel_rfl) rfl rfl (fun x19' hm => ?_)
 obtain ⟨x19⟩ := x19'
 refine D.ps 2 [(3, []), (4, [])] rfl hQ hS T rfl rfl (by kernel_rfl) ?_
 refine hm.cs (fun hb20 hm => ?_) (fun hb20 hm => ?_)
 refine D.q 5 [] hQ hS rfl (.take 4 false 23 _ (ntF hb20) rfl rfl rfl) rfl rfl (by exact Rd.p T rfl) rfl (by kernel_rfl) ?_
 refine D.q 6 [] hQ hS rfl (.take 4 false 23 _ (ntF hb20) rfl rfl rfl) rfl rfl (by exact Rd.l T rfl rfl rfl) rfl (by kernel_rfl) ?_
 refine D.q 7 [] hQ hS rfl (.take 4 false 23 _ (ntF hb20) rfl rfl rfl) rfl rfl (by exact Rd.p T rfl) rfl (by kernel_rfl) ?_
 obtain ⟨hx21, hm⟩ := hm
 refine D.q 8 [] hQ hS rfl (.take 4 false 23 _ (ntF hb20) rfl rfl rfl) rfl rfl (by exact Rd.so T rfl rfl rfl rfl rfl (.none _) (.some _ rfl) hx21) rfl (by kernel_rfl) ?_
 refine D.q 9 [] hQ hS rfl (.take 4 false 23 _ (ntF hb20) rfl rfl rfl) rfl rfl (by exact Rd.p T rfl) rfl (by kernel_rfl) ?_
 refine D.q 10 [] hQ hS rfl (.take 4 false 23 _ (ntF hb20) rfl rfl rfl) rfl rfl (by exact Rd.l T rfl rfl rfl) rfl (by kernel_rfl) ?_
 refine D.e 11 rfl (.take 4 false 23 _ (ntF hb20) rfl rfl rfl) (by exact Eff.k (T_taquinref11_named (sub s_1.Zones 0 s7) x16.Name _ hm) en67 rfl rfl rfl (.eq rfl) (fun _ _ => ⟨(.v _), trivial⟩)) (by kernel_rfl) rfl rfl (fun x22' hm => ?_)
 obtain ⟨x22⟩ := x22'
 refine D.q 12 [] hQ hS rfl (.take 4 false 23 _ (ntF hb20) rfl rfl rfl) rfl rfl (by exact Rd.p T rfl) rfl (by kernel_rfl) ?_
 refine D.q 13 [] hQ hS rfl (.none rfl) rfl rfl (by exact Rd.pk' rfl rfl (ntF hb20) rfl) rfl (by kernel_rfl) ?_
 refine D.ps 1 [(14, [])] rfl hQ hS T rfl rfl (by kernel_rfl) ?_
 refine hm.cs (fun hb23 hm => ?_) (fun hb23 hm => ?_)
 refine D.sq 15 [] hQ hS rfl (.skip 14 false 33 _ hb23 rfl rfl rfl) rfl rfl (by kernel_rfl) ?_
 refine D.sq 16 [] hQ hS rfl (.skip 14 false 33 _ hb23 rfl rfl rfl) rfl rfl (by kernel_rfl) ?_
 refine D.sq 17 [] hQ hS rfl (.skip 14 false 33 _ hb23 rfl rfl rfl) rfl rfl (by kernel_rfl) ?_
 refine D.sq 18 [] hQ hS rfl (.skip 14 false 33 _ hb23 rfl rfl rfl) rfl rfl (by kernel_rfl) ?_
 refine D.q 19 [] hQ hS rfl (.none rfl) rfl rfl (by exact Rd.pk rfl rfl hb23 rfl) rfl (by kernel_rfl) ?_
 refine D.ps 1 [(20, [])] rfl hQ hS T rfl rfl (by kernel_rfl) ?_
 refine D.sq 21 [] hQ hS rfl (.skip 20 false 39 _ rfl rfl rfl rfl) rfl rfl (by kernel_rfl) ?_
 refine D.sq 22 [] hQ hS rfl (.skip 20 false 39 _ rfl rfl rfl rfl) rfl rfl (by kernel_rfl) ?_
 refine D.sq 23 [] hQ hS rfl (.skip 20 false 39 _ rfl rfl rfl rfl) rfl rfl (by kernel_rfl) ?_
 refine D.q 24 [] hQ hS rfl (.none rfl) rfl rfl (by exact Rd.pk rfl rfl rfl rfl) rfl (by kernel_rfl) ?_
 refine D.ps 1 [(25, [])] rfl hQ hS T rfl rfl (by kernel_rfl) ?_
 refine D.sq 26 [] hQ hS rfl (.skip 25 false 44 _ rfl rfl rfl rfl) rfl rfl (by kernel_rfl) ?_
 refine D.sq 27 [] hQ hS rfl (.skip 25 false 44 _ rfl rfl rfl rfl) rfl rfl (by kernel_rfl) ?_
 refine D.sq 28 [] hQ hS rfl (.skip 25 false 44 _ rfl rfl rfl rfl) rfl rfl (by kernel_rfl) ?_
 refine D.q 29 [] hQ hS rfl (.none rfl) rfl rfl (by exact Rd.pk rfl rfl rfl rfl) rfl (by kernel_rfl) ?_
 refine D.ps 1 [(30, [])] rfl hQ hS T rfl rfl (by kernel_rfl) ?_
 refine D.sq 31 [] hQ hS rfl (.skip 30 false 49 _ rfl rfl rfl rfl) rfl rfl (by kernel_rfl) ?_
 refine D.sq 32 [] hQ hS rfl (.skip 30 false 49 _ rfl rfl rfl rfl) rfl rfl (by kernel_rfl) ?_
 refine D.sq 33 [] hQ hS rfl (.skip 30 false 49 _ rfl rfl rfl rfl) rfl rfl (by kernel_rfl) ?_
 refine D.q 34 [] hQ hS rfl (.none rfl) rfl rfl (by exact Rd.pk rfl rfl rfl rfl) rfl (by kernel_rfl) ?_
 refine D.ps 1 [(35, [])] rfl hQ hS T rfl rfl (by kernel_rfl) ?_
 refine D.sq 36 [] hQ hS rfl (.skip 35 false 54 _ rfl rfl rfl rfl) rfl rfl (by kernel_rfl) ?_
 refine D.sq 37 [] hQ hS rfl (.skip 35 false 54 _ rfl rfl rfl rfl) rfl rfl (by kernel_rfl) ?_
 refine D.sq 38 [] hQ hS rfl (.skip 35 false 54 _ rfl rfl rfl rfl) rfl rfl (by kernel_rfl) ?_
 refine D.sq 39 [] hQ hS rfl (.skip 35 false 54 _ rfl rfl rfl rfl) rfl rfl (by kernel_rfl) ?_
 refine D.q 40 [] hQ hS rfl (.none rfl) rfl rfl (by exact Rd.pk rfl rfl rfl rfl) rfl (by kernel_rfl) ?_
 refine D.done (by kernel_rfl) ?_
 exact St.wk (hJ18 _ hm) (Wk.f [some 0, some 1] ⟨bX, bX, trivial⟩)
 refine D.q 15 [] hQ hS rfl (.take 14 false 33 _ hb23 rfl rfl rfl) rfl rfl (by exact Rd.p T rfl) rfl (by kernel_rfl) ?_
 refine D.q 16 [] hQ hS rfl (.take 14 false 33 _ hb23 rfl rfl rfl) rfl rfl (by exact Rd.l T rfl rfl rfl) rfl (by kernel_rfl) ?_
 refine D.q 17 [] hQ hS rfl (.take 14 false 33 _ hb23 rfl rfl rfl) rfl rfl (by exact Rd.p T rfl) rfl (by kernel_rfl) ?_
 refine D.q 18 [] hQ hS rfl (.take 14 false 33 _ hb23 rfl rfl rfl) rfl rfl (by exact Rd.p T rfl) rfl (by kernel_rfl) ?_
 refine D.q 19 [] hQ hS rfl (.none rfl) rfl rfl (by exact Rd.pk' rfl rfl hb23 rfl) rfl (by kernel_rfl) ?_
 refine D.ps 1 [(20, [])] rfl hQ hS T rfl rfl (by kernel_rfl) ?_
 refine hm.cs (fun hb24 hm => ?_) (fun hb24 hm => ?_)
 refine D.sq 21 [] hQ hS rfl (.skip 20 false 39 _ hb24 rfl rfl rfl) rfl rfl (by kernel_rfl) ?_
 refine D.sq 22 [] hQ hS rfl (.skip 20 false 39 _ hb24 rfl rfl rfl) rfl rfl (by kernel_rfl) ?_
 refine D.sq 23 [] hQ hS rfl (.skip 20 false 39 _ hb24 rfl rfl rfl) rfl rfl (by kernel_rfl) ?_
 refine D.q 24 [] hQ hS rfl (.none rfl) rfl rfl (by exact Rd.pk rfl rfl hb24 rfl) rfl (by kernel_rfl) ?_
 refine D.ps 1 [(25, [])] rfl hQ hS T rfl rfl (by kernel_rfl) ?_
 refine D.sq 26 [] hQ hS rfl (.skip 25 false 44 _ rfl rfl rfl rfl) rfl rfl (by kernel_rfl) ?_
 refine D.sq 27 [] hQ hS rfl (.skip 25 false 44 _ rfl rfl rfl rfl) rfl rfl (by kernel_rfl) ?_
 refine D.sq 28 [] hQ hS rfl (.skip 25 false 44 _ rfl rfl rfl rfl) rfl rfl (by kernel_rfl) ?_
 refine D.q 29 [] hQ hS rfl (.none rfl) rfl rfl (by exact Rd.pk rfl rfl rfl rfl) rfl (by kernel_rfl) ?_
 refine D.ps 1 [(30, [])] rfl hQ hS T rfl rfl (by kernel_rfl) ?_
 refine D.sq 31 [] hQ hS rfl (.skip 30 false 49 _ rfl rfl rfl rfl) rfl rfl (by kernel_rfl) ?_
 refine D.sq 32 [] hQ hS rfl (.skip 30 false 49 _ rfl rfl rfl rfl) rfl rfl (by kernel_rfl) ?_
 refine D.sq 33 [] hQ hS rfl (.skip 30 false 49 _ rfl rfl rfl rfl) rfl rfl (by kernel_rfl) ?_
 refine D.q 34 [] hQ hS rfl (.none rfl) rfl rfl (by exact Rd.pk rfl rfl rfl rfl) rfl (by kernel_rfl) ?_
 refine D.ps 1 [(35, [])] rfl hQ hS T rfl rfl (by kernel_rfl) ?_
 refine D.sq 36 [] hQ hS rfl (.skip 35 false 54 _ rfl rfl rfl rfl) rfl rfl (by kernel_rfl) ?_
 refine D.sq 37 [] hQ hS rfl (.skip 35 false 54 _ rfl rfl rfl rfl) rfl rfl (by kernel_rfl) ?_
 refine D.sq 38 [] hQ hS rfl (.skip 35 false 54 _ rfl rfl rfl rfl) rfl rfl (by kernel_rfl) ?_
 refine D.sq 39 [] hQ hS rfl (.skip 35 false 54 _ rfl rfl rfl rfl) rfl rfl (by kernel_rfl) ?_
 refine D.q 40 [] hQ hS rfl (.none rfl) rfl rfl (by exact Rd.pk rfl rfl rfl rfl) rfl (by kernel_rfl) ?_
 refine D.done (by kernel_rfl) ?_
 exact St.wk (hJ18 _ hm) (Wk.f [some 0, some 1] ⟨bX, bX, trivial⟩)
 refine D.q 21 [] hQ hS rfl (.take 20 false 39 _ hb24 rfl rfl rfl) rfl rfl (by exact Rd.p T rfl) rfl (by kernel_rfl) ?_
 refine D.q 22 [] hQ hS rfl (.take 20 false 39 _ hb24 rfl rfl rfl) rfl rfl (by exact Rd.l T rfl rfl rfl) rfl (by kernel_rfl) ?_
 refine D.q 23 [] hQ hS rfl (.take 20 false 39 _ hb24 rfl rfl rfl) rfl rfl (by exact Rd.p T rfl) rfl (by kernel_rfl) ?_
 refine D.q 24 [] hQ hS rfl (.none rfl) rfl rfl (by exact Rd.pk' rfl rfl hb24 rfl) rfl (by kernel_rfl) ?_
 refine D.ps 1 [(25, [])] rfl hQ hS T rfl rfl (by kernel_rfl) ?_
 refine hm.cs (fun hb25 hm => ?_) (fun hb25 hm => ?_)
 refine D.sq 26 [] hQ hS rfl (.skip 25 false 44 _ hb25 rfl rfl rfl) rfl rfl (by kernel_rfl) ?_
 refine D.sq 27 [] hQ hS rfl (.skip 25 false 44 _ hb25 rfl rfl rfl) rfl rfl (by kernel_rfl) ?_
 refine D.sq 28 [] hQ hS rfl (.skip 25 false 44 _ hb25 rfl rfl rfl) rfl rfl (by kernel_rfl) ?_
 refine D.q 29 [] hQ hS rfl (.none rfl) rfl rfl (by exact Rd.pk rfl rfl hb25 rfl) rfl (by kernel_rfl) ?_
 refine D.ps 1 [(30, [])] rfl hQ hS T rfl rfl (by kernel_rfl) ?_
 refine D.sq 31 [] hQ hS rfl (.skip 30 false 49 _ rfl rfl rfl rfl) rfl rfl (by kernel_rfl) ?_
 refine D.sq 32 [] hQ hS rfl (.skip 30 false 49 _ rfl rfl rfl rfl) rfl rfl (by kernel_rfl) ?_
 refine D.sq 33 [] hQ hS rfl (.skip 30 false 49 _ rfl rfl rfl rfl) rfl rfl (by kernel_rfl) ?_
 refine D.q 34 [] hQ hS rfl (.none rfl) rfl rfl (by exact Rd.pk rfl rfl rfl rfl) rfl (by kernel_rfl) ?_
 refine D.ps 1 [(35, [])] rfl hQ hS T rfl rfl (by kernel_rfl) ?_
 refine D.sq 36 [] hQ hS rfl (.skip 35 false 54 _ rfl rfl rfl rfl) rfl rfl (by kernel_rfl) ?_
 refine D.sq 37 [] hQ hS rfl (.skip 35 false 54 _ rfl rfl rfl rfl) rfl rfl (by kernel_rfl) ?_
 refine D.sq 38 [] hQ hS rfl (.skip 35 false 54 _ rfl rfl rfl rfl) rfl rfl (by kernel_rfl) ?_
 refine D.sq 39 [] hQ hS rfl (.skip 35 false 54 _ rfl rfl rfl rfl) rfl rfl (by kernel_rfl) ?_
 refine D.q 40 [] hQ hS rfl (.none rfl) rfl rfl (by exact Rd.pk rfl rfl rfl rfl) rfl (by kernel_rfl) ?_
 refine D.done (by kernel_rfl) ?_
 exact St.wk (hJ18 _ hm) (Wk.f [some 0, some 1] ⟨bX, bX, trivial⟩)
 refine D.q 26 [] hQ hS rfl (.take 25 false 44 _ hb25 rfl rfl rfl) rfl rfl (by exact Rd.p T rfl) rfl (by kernel_rfl) ?_
 refine D.q 27 [] hQ hS rfl (.take 25 false 44 _ hb25 rfl rfl rfl) rfl rfl (by exact Rd.l T rfl rfl rfl) rfl (by kernel_rfl) ?_
 refine D.q 28 [] hQ hS rfl (.take 25 false 44 _ hb25 rfl rfl rfl) rfl rfl (by exact Rd.p T rfl) rfl (by kernel_rfl) ?_
 refine D.q 29 [] hQ hS rfl (.none rfl) rfl rfl (by exact Rd.pk' rfl rfl hb25 rfl) rfl (by kernel_rfl) ?_
 refine D.ps 1 [(30, [])] rfl hQ hS T rfl rfl (by kernel_rfl) ?_
 refine hm.cs (fun hb26 hm => ?_) (fun hb26 hm => ?_)
 refine D.sq 31 [] hQ hS rfl (.skip 30 false 49 _ hb26 rfl rfl rfl) rfl rfl (by kernel_rfl) ?_
 refine D.sq 32 [] hQ hS rfl (.skip 30 false 49 _ hb26 rfl rfl rfl) rfl rfl (by kernel_rfl) ?_
 refine D.sq 33 [] hQ hS rfl (.skip 30 false 49 _ hb26 rfl rfl rfl) rfl rfl (by kernel_rfl) ?_
 refine D.q 34 [] hQ hS rfl (.none rfl) rfl rfl (by exact Rd.pk rfl rfl hb26 rfl) rfl (by kernel_rfl) ?_
 refine D.ps 1 [(35, [])] rfl hQ hS T rfl rfl (by kernel_rfl) ?_
 refine D.sq 36 [] hQ hS rfl (.skip 35 false 54 _ rfl rfl rfl rfl) rfl rfl (by kernel_rfl) ?_
 refine D.sq 37 [] hQ hS rfl (.skip 35 false 54 _ rfl rfl rfl rfl) rfl rfl (by kernel_rfl) ?_
 refine D.sq 38 [] hQ hS rfl (.skip 35 false 54 _ rfl rfl rfl rfl) rfl rfl (by kernel_rfl) ?_
 refine D.sq 39 [] hQ hS rfl (.skip 35 false 54 _ rfl rfl rfl rfl) rfl rfl (by kernel_rfl) ?_
 refine D.q 40 [] hQ hS rfl (.none rfl) rfl rfl (by exact Rd.pk rfl rfl rfl rfl) rfl (by kernel_rfl) ?_
 refine D.done (by kernel_rfl) ?_
 exact St.wk (hJ18 _ hm) (Wk.f [some 0, some 1] ⟨bX, bX, trivial⟩)
 refine D.q 31 [] hQ hS rfl (.take 30 false 49 _ hb26 rfl rfl rfl) rfl rfl (by exact Rd.p T rfl) rfl (by kernel_rfl) ?_
 refine D.q 32 [] hQ hS rfl (.take 30 false 49 _ hb26 rfl rfl rfl) rfl rfl (by exact Rd.l T rfl rfl rfl) rfl (by kernel_rfl) ?_
 refine D.q 33 [] hQ hS rfl (.take 30 false 49 _ hb26 rfl rfl rfl) rfl rfl (by exact Rd.p T rfl) rfl (by kernel_rfl) ?_
 refine D.q 34 [] hQ hS rfl (.none rfl) rfl rfl (by exact Rd.pk' rfl rfl hb26 rfl) rfl (by kernel_rfl) ?_
 refine D.ps 1 [(35, [])] rfl hQ hS T rfl rfl (by kernel_rfl) ?_
 refine hm.cs (fun hb27 hm => ?_) (fun hb27 hm => ?_)
 refine D.sq 36 [] hQ hS rfl (.skip 35 false 54 _ hb27 rfl rfl rfl) rfl rfl (by kernel_rfl) ?_
 refine D.sq 37 [] hQ hS rfl (.skip 35 false 54 _ hb27 rfl rfl rfl) rfl rfl (by kernel_rfl) ?_
 refine D.sq 38 [] hQ hS rfl (.skip 35 false 54 _ hb27 rfl rfl rfl) rfl rfl (by kernel_rfl) ?_
 refine D.sq 39 [] hQ hS rfl (.skip 35 false 54 _ hb27 rfl rfl rfl) rfl rfl (by kernel_rfl) ?_
 refine D.q 40 [] hQ hS rfl (.none rfl) rfl rfl (by exact Rd.pk rfl rfl hb27 rfl) rfl (by kernel_rfl) ?_
 refine D.done (by kernel_rfl) ?_
 exact St.wk (hJ18 _ hm) (Wk.f [some 0, some 1] ⟨bX, bX, trivial⟩)
 refine D.q 36 [] hQ hS rfl (.take 35 false 54 _ hb27 rfl rfl rfl) rfl rfl (by exact Rd.p T rfl) rfl (by kernel_rfl) ?_
 refine D.q 37 [] hQ hS rfl (.take 35 false 54 _ hb27 rfl rfl rfl) rfl rfl (by exact Rd.l T rfl rfl rfl) rfl (by kernel_rfl) ?_
 refine D.e 38 rfl (.take 35 false 54 _ hb27 rfl rfl rfl) (by exact Eff.k (T_taquinref11_spans x16.Shut _ hm) en68 rfl rfl rfl (.eq rfl) (fun _ _ => ⟨(.v _), trivial⟩)) (by kernel_rfl) rfl rfl (fun x28' hm => ?_)
 obtain ⟨x28⟩ := x28'
 refine D.q 39 [] hQ hS rfl (.take 35 false 54 _ hb27 rfl rfl rfl) rfl rfl (by exact Rd.p T rfl) rfl (by kernel_rfl) ?_
 refine D.q 40 [] hQ hS rfl (.none rfl) rfl rfl (by exact Rd.pk' rfl rfl hb27 rfl) rfl (by kernel_rfl) ?_
 refine D.done (by kernel_rfl) ?_
 exact St.wk (hJ18 _ hm) (Wk.f [some 0, some 1] ⟨bX, bX, trivial⟩)
 refine D.sq 5 [] hQ hS rfl (.skip 4 false 23 _ (ntT hb20) rfl rfl rfl) rfl rfl (by kernel_rfl) ?_
 refine D.sq 6 [] hQ hS rfl (.skip 4 false 23 _ (ntT hb20) rfl rfl rfl) rfl rfl (by kernel_rfl) ?_
 refine D.sq 7 [] hQ hS rfl (.skip 4 false 23 _ (ntT hb20) rfl rfl rfl) rfl rfl (by kernel_rfl) ?_
 refine D.sq 8 [] hQ hS rfl (.skip 4 false 23 _ (ntT hb20) rfl rfl rfl) rfl rfl (by kernel_rfl) ?_
 refine D.sq 9 [] hQ hS rfl (.skip 4 false 23 _ (ntT hb20) rfl rfl rfl) rfl rfl (by kernel_rfl) ?_
 refine D.sq 10 [] hQ hS rfl (.skip 4 false 23 _ (ntT hb20) rfl rfl rfl) rfl rfl (by kernel_rfl) ?_
 refine D.sq 11 [] hQ hS rfl (.skip 4 false 23 _ (ntT hb20) rfl rfl rfl) rfl rfl (by kernel_rfl) ?_
 refine D.sq 12 [] hQ hS rfl (.skip 4 false 23 _ (ntT hb20) rfl rfl rfl) rfl rfl (by kernel_rfl) ?_
 refine D.q 13 [] hQ hS rfl (.none rfl) rfl rfl (by exact Rd.pk rfl rfl (ntT hb20) rfl) rfl (by kernel_rfl) ?_
 refine D.ps 1 [(14, [])] rfl hQ hS T rfl rfl (by kernel_rfl) ?_
 refine D.sq 15 [] hQ hS rfl (.skip 14 false 33 _ rfl rfl rfl rfl) rfl rfl (by kernel_rfl) ?_
 refine D.sq 16 [] hQ hS rfl (.skip 14 false 33 _ rfl rfl rfl rfl) rfl rfl (by kernel_rfl) ?_
 refine D.sq 17 [] hQ hS rfl (.skip 14 false 33 _ rfl rfl rfl rfl) rfl rfl (by kernel_rfl) ?_
 refine D.sq 18 [] hQ hS rfl (.skip 14 false 33 _ rfl rfl rfl rfl) rfl rfl (by kernel_rfl) ?_
 refine D.q 19 [] hQ hS rfl (.none rfl) rfl rfl (by exact Rd.pk rfl rfl rfl rfl) rfl (by kernel_rfl) ?_
 refine D.ps 1 [(20, [])] rfl hQ hS T rfl rfl (by kernel_rfl) ?_
 refine D.sq 21 [] hQ hS rfl (.skip 20 false 39 _ rfl rfl rfl rfl) rfl rfl (by kernel_rfl) ?_
 refine D.sq 22 [] hQ hS rfl (.skip 20 false 39 _ rfl rfl rfl rfl) rfl rfl (by kernel_rfl) ?_
 refine D.sq 23 [] hQ hS rfl (.skip 20 false 39 _ rfl rfl rfl rfl) rfl rfl (by kernel_rfl) ?_
 refine D.q 24 [] hQ hS rfl (.none rfl) rfl rfl (by exact Rd.pk rfl rfl rfl rfl) rfl (by kernel_rfl) ?_
 refine D.ps 1 [(25, [])] rfl hQ hS T rfl rfl (by kernel_rfl) ?_
 refine D.sq 26 [] hQ hS rfl (.skip 25 false 44 _ rfl rfl rfl rfl) rfl rfl (by kernel_rfl) ?_
 refine D.sq 27 [] hQ hS rfl (.skip 25 false 44 _ rfl rfl rfl rfl) rfl rfl (by kernel_rfl) ?_
 refine D.sq 28 [] hQ hS rfl (.skip 25 false 44 _ rfl rfl rfl rfl) rfl rfl (by kernel_rfl) ?_
 refine D.q 29 [] hQ hS rfl (.none rfl) rfl rfl (by exact Rd.pk rfl rfl rfl rfl) rfl (by kernel_rfl) ?_
 refine D.ps 1 [(30, [])] rfl hQ hS T rfl rfl (by kernel_rfl) ?_
 refine D.sq 31 [] hQ hS rfl (.skip 30 false 49 _ rfl rfl rfl rfl) rfl rfl (by kernel_rfl) ?_
 refine D.sq 32 [] hQ hS rfl (.skip 30 false 49 _ rfl rfl rfl rfl) rfl rfl (by kernel_rfl) ?_
 refine D.sq 33 [] hQ hS rfl (.skip 30 false 49 _ rfl rfl rfl rfl) rfl rfl (by kernel_rfl) ?_
 refine D.q 34 [] hQ hS rfl (.none rfl) rfl rfl (by exact Rd.pk rfl rfl rfl rfl) rfl (by kernel_rfl) ?_
 refine D.ps 1 [(35, [])] rfl hQ hS T rfl rfl (by kernel_rfl) ?_
 refine D.sq 36 [] hQ hS rfl (.skip 35 false 54 _ rfl rfl rfl rfl) rfl rfl (by kernel_rfl) ?_
 refine D.sq 37 [] hQ hS rfl (.skip 35 false 54 _ rfl rfl rfl rfl) rfl rfl (by kernel_rfl) ?_
 refine D.sq 38 [] hQ hS rfl (.skip 35 false 54 _ rfl rfl rfl rfl) rfl rfl (by kernel_rfl) ?_
 refine D.sq 39 [] hQ hS rfl (.skip 35 false 54 _ rfl rfl rfl rfl) rfl rfl (by kernel_rfl) ?_
 refine D.q 40 [] hQ hS rfl (.none rfl) rfl rfl (by exact Rd.pk rfl rfl rfl rfl) rfl (by kernel_rfl) ?_
 refine D.done (by kernel_rfl) ?_
 exact St.wk (hJ18 _ hm) (Wk.f [some 0, some 1] ⟨bX, bX, trivial⟩)
 refine C.exit (C.ex (C.ex (C.bex ?_)))
 exact St.wk (hJ6 _ hm) (Wk.f [some 0] ⟨bX, trivial⟩)
theorem T_taquinref11_Apart (l : List ApiApart) (a : ByteArray) (b : ByteArray) (post : Bool → Prop) (hm : V_taquinref11_Apart l a b post) :
    Tr Tryz.prog 35 [.sl 2 eApiApart l, .v (.string a), .v (.string b)] [] 0 (fun A H' k => ∃ y, post y ∧ A = (.b y) ∧ H' = [] ∧ k = 0) := by
 refine Tr.intro (n := 56) Tryz.func35 rfl Tryz.ntmps35 rfl (fun w0 ok F β hβ => ?_)
 unfold V_taquinref11_Apart at hm
 refine C.seq (U.start ?_)
 refine U.ps 1 T rfl ?_
 refine U.done (C.nx (C.seq (C.seq (U.start ?_))))
 refine U.ps 1 T rfl ?_
 refine U.done (C.nx ?_)
 refine C.jn (fun (x5 : Unit) => []) (fun (x5 : Unit) => []) 0 hm (fun x5 hm => ?_) (fun J6 hm hJ6 => ?_)
 refine C.nx (C.seq (U.start ?_))
 refine U.ps 1 T rfl ?_
 refine U.done (C.nx (C.ret ?_))
 exact C.f0 T (rs' := [.b false]) hβ ⟨false, hm, rfl, rfl, rfl⟩
 refine C.block ?_
 refine St.wk (C.loop (fun (s7 : Int) => [(0, .sl 2 eApiApart l), (1, .v (.string a)), (2, .v (.string b)), (7, .i s7)]) (fun (s7 : Int) => []) hm (fun s7 Y8 hm => ?_)) (Wk.e)
 refine C.seq (C.seq ?_)
 refine C.jn (fun (x9 : Bool) => [(0, .sl 2 eApiApart l), (1, .v (.string a)), (2, .v (.string b)), (7, .i s7), (19, .b x9)]) (fun (x9 : Bool) => []) 0 hm (fun x9 hm => ?_) (fun J10 hm hJ10 => ?_)
 refine C.nx ?_
 refine C.ite rfl hm (fun hb13 hm => ?_) (fun hb13 hm => ?_)
 refine C.skip (C.nx (C.seq (C.block (C.seq ?_))))
 refine C.jn (fun (x14 : Bool) => [(0, .sl 2 eApiApart l), (1, .v (.string a)), (2, .v (.string b)), (7, .i s7), (55, .b x14)]) (fun (x14 : Bool) => []) 0 hm (fun x14 hm => ?_) (fun J15 hm hJ15 => ?_)
 refine C.nx ?_
 refine C.ite rfl hm (fun hb21 hm => ?_) (fun hb21 hm => ?_)
 refine C.seq (U.start ?_)
 refine U.ps 1 T rfl ?_
 refine U.done (C.nx (C.ret (C.brt (C.rt (C.rt (C.brt (C.rt ?_)))))))
 exact C.f0 T (rs' := [.b true]) hβ ⟨true, hm, rfl, rfl, rfl⟩
 refine C.skip (C.bnx (C.nx (U.start ?_)))
 refine U.ps 3 T rfl ?_
 refine U.done (C.nx ?_)
 exact St.wk (C.next hm) (Wk.e)
 refine U.start ?_
 refine U.ps 2 T rfl ?_
 obtain ⟨x16, hx16, hm⟩ := hm
 refine U.r rfl (.none rfl) rfl rfl (by exact Rd.ix T rfl rfl rfl rfl rfl rfl hx16) ?_
 refine U.ps 5 T rfl ?_
 refine hm.cs (fun hb17 hm => ?_) (fun hb17 hm => ?_)
 refine U.pg 2 7 true 29 hb17 T rfl rfl rfl rfl ?_
 refine U.r rfl (.take 7 true 29 _ hb17 rfl rfl rfl) rfl rfl (by exact Rd.ix T rfl rfl rfl rfl rfl rfl hx16) ?_
 refine U.pg 4 7 true 29 hb17 T rfl rfl rfl rfl ?_
 refine U.r rfl (.none rfl) rfl rfl (by exact Rd.pk rfl rfl hb17 rfl) ?_
 refine U.ps 1 T rfl ?_
 refine hm.cs (fun hb18 hm => ?_) (fun hb18 hm => ?_)
 refine U.sks 8 16 false 38 hb18 rfl rfl rfl ?_
 refine U.sku 7 24 true 46 rfl rfl rfl ?_
 refine U.sks 1 16 false 38 hb18 rfl rfl rfl ?_
 refine U.r rfl (.none rfl) rfl rfl (by exact Rd.pk rfl rfl hb18 rfl) ?_
 refine U.done ?_
 exact St.wk (hJ15 _ hm) (Wk.e)
 refine U.pg 2 16 false 38 hb18 T rfl rfl rfl rfl ?_
 refine U.r rfl (.take 16 false 38 _ hb18 rfl rfl rfl) rfl rfl (by exact Rd.ix T rfl rfl rfl rfl rfl rfl hx16) ?_
 refine U.pg 5 16 false 38 hb18 T rfl rfl rfl rfl ?_
 refine hm.cs (fun hb19 hm => ?_) (fun hb19 hm => ?_)
 refine U.pg 2 24 true 46 hb19 T rfl rfl rfl rfl ?_
 refine U.r rfl (.take 24 true 46 _ hb19 rfl rfl rfl) rfl rfl (by exact Rd.ix T rfl rfl rfl rfl rfl rfl hx16) ?_
 refine U.pg 4 24 true 46 hb19 T rfl rfl rfl rfl ?_
 refine U.r rfl (.take 16 false 38 _ hb18 rfl rfl rfl) rfl rfl (by exact Rd.pk rfl rfl hb19 rfl) ?_
 refine U.r rfl (.none rfl) rfl rfl (by exact Rd.pk' rfl rfl hb18 rfl) ?_
 refine U.done ?_
 exact St.wk (hJ15 _ hm) (Wk.e)
 refine U.sks 7 24 true 46 hb19 rfl rfl rfl ?_
 refine U.r rfl (.take 16 false 38 _ hb18 rfl rfl rfl) rfl rfl (by exact Rd.pk' rfl rfl hb19 rfl) ?_
 refine U.r rfl (.none rfl) rfl rfl (by exact Rd.pk' rfl rfl hb18 rfl) ?_
 refine U.done ?_
 exact St.wk (hJ15 _ hm) (Wk.e)
 refine U.sks 7 7 true 29 hb17 rfl rfl rfl ?_
 refine U.r rfl (.none rfl) rfl rfl (by exact Rd.pk' rfl rfl hb17 rfl) ?_
 refine U.ps 1 T rfl ?_
 refine U.pg 2 16 false 38 rfl T rfl rfl rfl rfl ?_
 refine U.r rfl (.take 16 false 38 _ rfl rfl rfl rfl) rfl rfl (by exact Rd.ix T rfl rfl rfl rfl rfl rfl hx16) ?_
 refine U.pg 5 16 false 38 rfl T rfl rfl rfl rfl ?_
 refine hm.cs (fun hb20 hm => ?_) (fun hb20 hm => ?_)
 refine U.pg 2 24 true 46 hb20 T rfl rfl rfl rfl ?_
 refine U.r rfl (.take 24 true 46 _ hb20 rfl rfl rfl) rfl rfl (by exact Rd.ix T rfl rfl rfl rfl rfl rfl hx16) ?_
 refine U.pg 4 24 true 46 hb20 T rfl rfl rfl rfl ?_
 refine U.r rfl (.take 16 false 38 _ rfl rfl rfl rfl) rfl rfl (by exact Rd.pk rfl rfl hb20 rfl) ?_
 refine U.r rfl (.none rfl) rfl rfl (by exact Rd.pk' rfl rfl rfl rfl) ?_
 refine U.done ?_
 exact St.wk (hJ15 _ hm) (Wk.e)
 refine U.sks 7 24 true 46 hb20 rfl rfl rfl ?_
 refine U.r rfl (.take 16 false 38 _ rfl rfl rfl rfl) rfl rfl (by exact Rd.pk' rfl rfl hb20 rfl) ?_
 refine U.r rfl (.none rfl) rfl rfl (by exact Rd.pk' rfl rfl rfl rfl) ?_
 refine U.done ?_
 exact St.wk (hJ15 _ hm) (Wk.e)
 refine C.exit (C.ex (C.ex (C.bex ?_)))
 exact St.wk (hJ6 _ hm) (Wk.mk' [] rfl rfl trivial trivial rfl)
 refine U.start ?_
 refine U.ps 5 T rfl ?_
 refine hm.cs (fun hb11 hm => ?_) (fun hb11 hm => ?_)
 refine U.pg 2 4 true 12 hb11 T rfl rfl rfl rfl ?_
 refine U.r rfl (.none rfl) rfl rfl (by exact Rd.pk rfl rfl hb11 rfl) ?_
 refine U.ps 1 T rfl ?_
 refine hm.cs (fun hb12 hm => ?_) (fun hb12 hm => ?_)
 refine U.sks 2 8 true 16 (ntF hb12) rfl rfl rfl ?_
 refine U.r rfl (.none rfl) rfl rfl (by exact Rd.pk' rfl rfl (ntF hb12) rfl) ?_
 refine U.done ?_
 exact St.wk (hJ10 _ hm) (Wk.e)
 refine U.pg 2 8 true 16 (ntT hb12) T rfl rfl rfl rfl ?_
 refine U.r rfl (.none rfl) rfl rfl (by exact Rd.pk rfl rfl (ntT hb12) rfl) ?_
 refine U.done ?_
 exact St.wk (hJ10 _ hm) (Wk.e)
 refine U.sks 2 4 true 12 hb11 rfl rfl rfl ?_
 refine U.r rfl (.none rfl) rfl rfl (by exact Rd.pk' rfl rfl hb11 rfl) ?_
 refine U.ps 1 T rfl ?_
 refine U.sks 2 8 true 16 rfl rfl rfl rfl ?_
 refine U.r rfl (.none rfl) rfl rfl (by exact Rd.pk' rfl rfl rfl rfl) ?_
 refine U.done ?_
 exact St.wk (hJ10 _ hm) (Wk.e)
theorem T_taquinref11_stands (kind : Int) (post : Bool → Prop) (hm : V_taquinref11_stands kind post) :
    Tr Tryz.prog 37 [.i kind] [] 0 (fun A H' k => ∃ y, post y ∧ A = (.b y) ∧ H' = [] ∧ k = 0) := by
 refine Tr.intro (n := 9) Tryz.func37 rfl Tryz.ntmps37 rfl (fun w0 ok F β hβ => ?_)
 unfold V_taquinref11_stands at hm
 refine C.seq (U.start ?_)
 refine U.ps 1 T rfl ?_
 refine U.done (C.nx (C.seq ?_))
 refine C.jn (fun (x3 : Bool) => [(2, .b x3)]) (fun (x3 : Bool) => []) 0 hm (fun x3 hm => ?_) (fun J4 hm hJ4 => ?_)
 refine C.nx (C.ret ?_)
 exact C.f0 T (rs' := [.b x3]) hβ ⟨x3, hm, rfl, rfl, rfl⟩
 refine U.start ?_
 refine U.ps 3 T rfl ?_
 refine hm.cs (fun hb5 hm => ?_) (fun hb5 hm => ?_)
 refine U.sks 2 2 false 5 hb5 rfl rfl rfl ?_
 refine U.r rfl (.none rfl) rfl rfl (by exact Rd.pk rfl rfl hb5 rfl) ?_
 refine U.ps 1 T rfl ?_
 refine U.done ?_
 exact St.wk (hJ4 _ hm) (Wk.e)
 refine U.pg 2 2 false 5 hb5 T rfl rfl rfl rfl ?_
 refine U.r rfl (.none rfl) rfl rfl (by exact Rd.pk' rfl rfl hb5 rfl) ?_
 refine U.ps 1 T rfl ?_
 refine U.done ?_
 exact St.wk (hJ4 _ hm) (Wk.e)
theorem T_taquinref11_shelfAt (l : List ApiShelf) (c : Int) (post : Int → Prop) (hm : V_taquinref11_shelfAt l c post) :
    Tr Tryz.prog 38 [.sl 2 eApiShelf l, .i c] [] 0 (fun A H' k => ∃ y, post y ∧ A = (.i y) ∧ H' = [] ∧ k = 0) := by
 refine Tr.intro (n := 20) Tryz.func38 rfl Tryz.ntmps38 rfl (fun w0 ok F β hβ => ?_)
 unfold V_taquinref11_shelfAt at hm
 refine C.seq (U.start ?_)
 refine U.ps 1 T rfl ?_
 refine U.done (C.nx (C.seq (C.seq (U.start ?_))))
 refine U.ps 1 T rfl ?_
 refine U.done (C.nx ?_)
 refine C.jn (fun (x5 : Unit) => []) (fun (x5 : Unit) => []) 0 hm (fun x5 hm => ?_) (fun J6 hm hJ6 => ?_)
 refine C.nx (C.seq (U.start ?_))
 refine U.ps 1 T rfl ?_
 refine U.done (C.nx (C.ret ?_))
 exact C.f0 T (rs' := [.i (-1)]) hβ ⟨(-1), hm, rfl, rfl, rfl⟩
 refine C.block ?_
 refine St.wk (C.loop (fun (s7 : Int) => [(0, .sl 2 eApiShelf l), (1, .i c), (5, .i s7)]) (fun (s7 : Int) => []) hm (fun s7 Y8 hm => ?_)) (Wk.e)
 refine C.seq (C.seq (U.start ?_))
 refine U.ps 4 T rfl ?_
 refine U.done (C.nx ?_)
 refine C.ite rfl hm (fun hb11 hm => ?_) (fun hb11 hm => ?_)
 refine C.skip (C.nx (C.seq (C.block (C.seq (U.start ?_)))))
 refine U.ps 2 T rfl ?_
 obtain ⟨x14, hx14, hm⟩ := hm
 refine U.r rfl (.none rfl) rfl rfl (by exact Rd.ix T rfl rfl rfl rfl rfl rfl hx14) ?_
 refine U.ps 4 T rfl ?_
 refine U.done (C.nx ?_)
 refine C.ite rfl hm (fun hb15 hm => ?_) (fun hb15 hm => ?_)
 refine C.seq (U.start ?_)
 refine U.ps 2 T rfl ?_
 refine U.done (C.nx (C.ret (C.brt (C.rt (C.rt (C.brt (C.rt ?_)))))))
 exact C.f0 T (rs' := [.i s7]) hβ ⟨s7, hm, rfl, rfl, rfl⟩
 refine C.skip (C.bnx (C.nx (U.start ?_)))
 refine U.ps 3 T rfl ?_
 refine U.done (C.nx ?_)
 exact St.wk (C.next hm) (Wk.e)
 refine C.exit (C.ex (C.ex (C.bex ?_)))
 exact St.wk (hJ6 _ hm) (Wk.mk' [] rfl rfl trivial trivial rfl)
theorem T_taquinref11_robotAt (l : List ApiStart) (c : Int) (post : Bool → Prop) (hm : V_taquinref11_robotAt l c post) :
    Tr Tryz.prog 39 [.sl 2 eApiStart l, .i c] [] 0 (fun A H' k => ∃ y, post y ∧ A = (.b y) ∧ H' = [] ∧ k = 0) := by
 refine Tr.intro (n := 19) Tryz.func39 rfl Tryz.ntmps39 rfl (fun w0 ok F β hβ => ?_)
 unfold V_taquinref11_robotAt at hm
 refine C.seq (U.start ?_)
 refine U.ps 1 T rfl ?_
 refine U.done (C.nx (C.seq (C.seq (U.start ?_))))
 refine U.ps 1 T rfl ?_
 refine U.done (C.nx ?_)
 refine C.jn (fun (x5 : Unit) => []) (fun (x5 : Unit) => []) 0 hm (fun x5 hm => ?_) (fun J6 hm hJ6 => ?_)
 refine C.nx (C.seq (U.start ?_))
 refine U.ps 1 T rfl ?_
 refine U.done (C.nx (C.ret ?_))
 exact C.f0 T (rs' := [.b false]) hβ ⟨false, hm, rfl, rfl, rfl⟩
 refine C.block ?_
 refine St.wk (C.loop (fun (s7 : Int) => [(0, .sl 2 eApiStart l), (1, .i c), (5, .i s7)]) (fun (s7 : Int) => []) hm (fun s7 Y8 hm => ?_)) (Wk.e)
 refine C.seq (C.seq (U.start ?_))
 refine U.ps 4 T rfl ?_
 refine U.done (C.nx ?_)
 refine C.ite rfl hm (fun hb11 hm => ?_) (fun hb11 hm => ?_)
 refine C.skip (C.nx (C.seq (C.block (C.seq (U.start ?_)))))
 refine U.ps 2 T rfl ?_
 obtain ⟨x14, hx14, hm⟩ := hm
 refine U.r rfl (.none rfl) rfl rfl (by exact Rd.ix T rfl rfl rfl rfl rfl rfl hx14) ?_
 refine U.ps 4 T rfl ?_
 refine U.done (C.nx ?_)
 refine C.ite rfl hm (fun hb15 hm => ?_) (fun hb15 hm => ?_)
 refine C.seq (U.start ?_)
 refine U.ps 1 T rfl ?_
 refine U.done (C.nx (C.ret (C.brt (C.rt (C.rt (C.brt (C.rt ?_)))))))
 exact C.f0 T (rs' := [.b true]) hβ ⟨true, hm, rfl, rfl, rfl⟩
 refine C.skip (C.bnx (C.nx (U.start ?_)))
 refine U.ps 3 T rfl ?_
 refine U.done (C.nx ?_)
 exact St.wk (C.next hm) (Wk.e)
 refine C.exit (C.ex (C.ex (C.bex ?_)))
 exact St.wk (hJ6 _ hm) (Wk.mk' [] rfl rfl trivial trivial rfl)
theorem T_taquinref11_blanks (s_1 : ApiSite) (z : ApiZone) (post : Int → Prop) (hm : V_taquinref11_blanks s_1 z post) :
    Tr Tryz.prog 40 [.agg (eApiSite s_1), .agg (eApiZone z)] [] 0 (fun A H' k => ∃ y, post y ∧ A = (.i y) ∧ H' = [] ∧ k = 0) := by
 refine Tr.intro (n := 39) Tryz.func40 rfl Tryz.ntmps40 rfl (fun w0 ok F β hβ => ?_)
 unfold V_taquinref11_blanks at hm
 refine C.seq (U.start ?_)
 refine U.e1 rfl (.none rfl) (by exact Eff1.box rfl rfl rfl rfl rfl) ?_
 refine U.e1 rfl (.none rfl) (by exact Eff1.box rfl rfl rfl rfl rfl) ?_
 refine U.ps 1 T rfl ?_
 refine U.done (C.nx (C.seq (U.start ?_)))
 refine U.ps 1 T rfl ?_
 refine U.done (C.nx (C.seq (C.seq (U.start ?_))))
 refine U.ps 1 T rfl ?_
 refine U.done (C.nx ?_)
 refine C.jn (fun (x7 : Int) => [(5, .i x7)]) (fun (x7 : Int) => []) 0 hm (fun x7 hm => ?_) (fun J8 hm hJ8 => ?_)
 refine C.nx (C.seq (U.start ?_))
 refine U.ps 2 T rfl ?_
 refine U.done (C.nx (C.ret ?_))
 exact C.f0 T (rs' := [.i x7]) hβ ⟨x7, hm, rfl, rfl, rfl⟩
 refine C.block ?_
 refine St.wk (C.loop (fun (s9 : Int × Int) => [(2, .p 0 0), (3, .p 1 0), (5, .i s9.1), (6, .i s9.2)]) (fun (s9 : Int × Int) => [(0, .box (eApiSite s_1)), (1, .box (eApiZone z))]) hm (fun s9 Y10 hm => ?_)) (Wk.f [some 0, some 1] ⟨bX, bX, trivial⟩)
 refine C.seq (C.seq (U.start ?_))
 refine U.ps 5 T rfl ?_
 refine U.done (C.nx ?_)
 refine C.ite rfl hm (fun hb13 hm => ?_) (fun hb13 hm => ?_)
 refine C.skip (C.nx (C.seq (C.block (C.seq ?_))))
 refine C.jn (fun (x14 : Bool) => [(2, .p 0 0), (3, .p 1 0), (5, .i s9.1), (6, .i s9.2), (35, .b x14)]) (fun (x14 : Bool) => [(0, .box (eApiSite s_1)), (1, .box (eApiZone z))]) 2 hm (fun x14 hm => ?_) (fun J15 hm hJ15 => ?_)
 refine C.nx ?_
 refine C.jn (fun (x21 : Int) => [(2, .p 0 0), (3, .p 1 0), (5, .i x21), (6, .i s9.2)]) (fun (x21 : Int) => [(0, .box (eApiSite s_1)), (1, .box (eApiZone z))]) 2 hm (fun x21 hm => ?_) (fun J22 hm hJ22 => ?_)
 refine C.bnx (C.nx (U.start ?_))
 refine U.ps 3 T rfl ?_
 refine U.done (C.nx ?_)
 exact St.wk (C.next hm) (Wk.f [some 0, some 1] ⟨bX, bX, trivial⟩)
 refine C.ite rfl hm (fun hb23 hm => ?_) (fun hb23 hm => ?_)
 refine U.start ?_
 refine U.ps 3 T rfl ?_
 refine U.done ?_
 exact St.wk (hJ22 _ hm) (Wk.f [some 0, some 1] ⟨bX, bX, trivial⟩)
 refine C.skip ?_
 exact St.wk (hJ22 _ hm) (Wk.f [some 0, some 1] ⟨bX, bX, trivial⟩)
 refine D.beg 9999 [0, 1] [] mix rfl rfl (by kernel_rfl) (by repeat (first | exact NoPanicQ.body | exact NoPanicQ.rnd | refine NoPanicQ.th ?_ | refine NoPanicQ.blk ?_)) (fun hQ hS ws M' => ?_)
 refine D.ps 6 [(0, []), (1, []), (2, []), (3, []), (4, []), (5, [])] rfl hQ hS T rfl rfl (by kernel_rfl) ?_
 obtain ⟨x16, hx16, hm⟩ := hm
 refine D.q 6 [] hQ hS rfl (.none rfl) rfl rfl (by exact Rd.ix T rfl rfl rfl rfl rfl rfl hx16) rfl (by kernel_rfl) ?_
 refine D.ps 1 [(7, [])] rfl hQ hS T rfl rfl (by kernel_rfl) ?_
 obtain ⟨x17, hx17, hm⟩ := hm
 refine D.q 8 [] hQ hS rfl (.none rfl) rfl rfl (by exact Rd.ix T rfl rfl rfl rfl rfl rfl hx17) rfl (by kernel_rfl) ?_
 refine D.ps 1 [(9, [])] rfl hQ hS T rfl rfl (by kernel_rfl) ?_
 refine D.e 10 rfl (.none rfl) (by exact Eff.k (T_taquinref11_stands x17 _ hm) en37 rfl rfl rfl (.eq rfl) (fun _ _ => ⟨(.v _), trivial⟩)) (by kernel_rfl) rfl rfl (fun x18' hm => ?_)
 obtain ⟨x18⟩ := x18'
 refine D.ps 1 [(11, [])] rfl hQ hS T rfl rfl (by kernel_rfl) ?_
 refine hm.cs (fun hb19 hm => ?_) (fun hb19 hm => ?_)
 refine D.q 12 [] hQ hS rfl (.take 11 true 25 _ hb19 rfl rfl rfl) rfl rfl (by exact Rd.p T rfl) rfl (by kernel_rfl) ?_
 refine D.q 13 [] hQ hS rfl (.take 11 true 25 _ hb19 rfl rfl rfl) rfl rfl (by exact Rd.l T rfl rfl rfl) rfl (by kernel_rfl) ?_
 refine D.q 14 [] hQ hS rfl (.take 11 true 25 _ hb19 rfl rfl rfl) rfl rfl (by exact Rd.p T rfl) rfl (by kernel_rfl) ?_
 refine D.q 15 [] hQ hS rfl (.take 11 true 25 _ hb19 rfl rfl rfl) rfl rfl (by exact Rd.l T rfl rfl rfl) rfl (by kernel_rfl) ?_
 refine D.q 16 [] hQ hS rfl (.take 11 true 25 _ hb19 rfl rfl rfl) rfl rfl (by exact Rd.p T rfl) rfl (by kernel_rfl) ?_
 refine D.q 17 [] hQ hS rfl (.take 11 true 25 _ hb19 rfl rfl rfl) rfl rfl (by exact Rd.ix T rfl rfl rfl rfl rfl rfl hx16) rfl (by kernel_rfl) ?_
 refine D.q 18 [] hQ hS rfl (.take 11 true 25 _ hb19 rfl rfl rfl) rfl rfl (by exact Rd.l T rfl rfl rfl) rfl (by kernel_rfl) ?_
 refine D.e 19 rfl (.take 11 true 25 _ hb19 rfl rfl rfl) (by exact Eff.k (T_taquinref11_shelfAt s_1.Shelves x16 _ hm) en38 rfl rfl rfl (.eq rfl) (fun _ _ => ⟨(.v _), trivial⟩)) (by kernel_rfl) rfl rfl (fun x20' hm => ?_)
 obtain ⟨x20⟩ := x20'
 refine D.q 20 [] hQ hS rfl (.take 11 true 25 _ hb19 rfl rfl rfl) rfl rfl (by exact Rd.p T rfl) rfl (by kernel_rfl) ?_
 refine D.q 21 [] hQ hS rfl (.none rfl) rfl rfl (by exact Rd.pk rfl rfl hb19 rfl) rfl (by kernel_rfl) ?_
 refine D.done (by kernel_rfl) ?_
 exact St.wk (hJ15 _ hm) (Wk.f [some 0, some 1] ⟨bX, bX, trivial⟩)
 refine D.sq 12 [] hQ hS rfl (.skip 11 true 25 _ hb19 rfl rfl rfl) rfl rfl (by kernel_rfl) ?_
 refine D.sq 13 [] hQ hS rfl (.skip 11 true 25 _ hb19 rfl rfl rfl) rfl rfl (by kernel_rfl) ?_
 refine D.sq 14 [] hQ hS rfl (.skip 11 true 25 _ hb19 rfl rfl rfl) rfl rfl (by kernel_rfl) ?_
 refine D.sq 15 [] hQ hS rfl (.skip 11 true 25 _ hb19 rfl rfl rfl) rfl rfl (by kernel_rfl) ?_
 refine D.sq 16 [] hQ hS rfl (.skip 11 true 25 _ hb19 rfl rfl rfl) rfl rfl (by kernel_rfl) ?_
 refine D.sq 17 [] hQ hS rfl (.skip 11 true 25 _ hb19 rfl rfl rfl) rfl rfl (by kernel_rfl) ?_
 refine D.sq 18 [] hQ hS rfl (.skip 11 true 25 _ hb19 rfl rfl rfl) rfl rfl (by kernel_rfl) ?_
 refine D.sq 19 [] hQ hS rfl (.skip 11 true 25 _ hb19 rfl rfl rfl) rfl rfl (by kernel_rfl) ?_
 refine D.sq 20 [] hQ hS rfl (.skip 11 true 25 _ hb19 rfl rfl rfl) rfl rfl (by kernel_rfl) ?_
 refine D.q 21 [] hQ hS rfl (.none rfl) rfl rfl (by exact Rd.pk' rfl rfl hb19 rfl) rfl (by kernel_rfl) ?_
 refine D.done (by kernel_rfl) ?_
 exact St.wk (hJ15 _ hm) (Wk.f [some 0, some 1] ⟨bX, bX, trivial⟩)
 refine C.exit (C.ex (C.ex (C.bex ?_)))
 exact St.wk (hJ8 _ hm) (Wk.e)
theorem T_taquinref07_At (f : ApiFloor) (c : Int) (post : (Int × Int × Int) → Prop) (hm : V_taquinref07_At f c post) :
    Tr Tryz.prog 93 [.agg (eApiFloor f), .i c] [] 0 (fun A H' k => ∃ y, post y ∧ A = (.tup [.i y.1, .i y.2.1, .i y.2.2]) ∧ H' = [] ∧ k = 0) := by
 refine Tr.intro (n := 29) Tryz.func93 rfl Tryz.ntmps93 rfl (fun w0 ok F β hβ => ?_)
 unfold V_taquinref07_At at hm
 refine C.seq (U.start ?_)
 refine U.e1 rfl (.none rfl) (by exact Eff1.box rfl rfl rfl rfl rfl) ?_
 refine U.ps 3 T rfl ?_
 refine U.done (C.nx (C.seq (C.seq (U.start ?_))))
 refine U.ps 2 T rfl ?_
 refine U.e rfl (.none rfl) (by exact Eff.k (T_taquinref07_Is f c _ hm) en36 rfl rfl rfl (.eq rfl) (fun _ _ => ⟨(.v _), trivial⟩)) (fun x5' hm => ?_)
 obtain ⟨x5⟩ := x5'
 refine U.ps 1 T rfl ?_
 refine U.done (C.nx ?_)
 refine C.ite rfl hm (fun hb6 hm => ?_) (fun hb6 hm => ?_)
 refine C.seq (U.start ?_)
 refine U.ps 3 T rfl ?_
 refine U.done (C.nx (C.ret (C.rt ?_)))
 exact C.f0 T (rs' := [.i ((0, 0, 0).1), .i ((0, 0, 0).2.1), .i ((0, 0, 0).2.2)]) hβ ⟨(0, 0, 0), hm, rfl, rfl, rfl⟩
 refine C.skip (C.nx (C.seq ?_))
 refine D.beg 9999 [0] [] mix rfl rfl (by kernel_rfl) (by repeat (first | exact NoPanicQ.body | exact NoPanicQ.rnd | refine NoPanicQ.th ?_ | refine NoPanicQ.blk ?_)) (fun hQ hS ws M' => ?_)
 refine D.ps 3 [(0, []), (1, []), (2, [])] rfl hQ hS T rfl rfl (by kernel_rfl) ?_
 obtain ⟨hx11, hm⟩ := hm
 refine D.q 3 [] hQ hS rfl (.none rfl) rfl rfl (by exact Rd.rm rfl rfl rfl rfl hx11) rfl (by kernel_rfl) ?_
 refine D.ps 3 [(4, []), (5, []), (6, [])] rfl hQ hS T rfl rfl (by kernel_rfl) ?_
 obtain ⟨hx12, hm⟩ := hm
 refine D.q 7 [] hQ hS rfl (.none rfl) rfl rfl (by exact Rd.dv rfl rfl rfl rfl hx12) rfl (by kernel_rfl) ?_
 refine D.ps 2 [(8, []), (9, [])] rfl hQ hS T rfl rfl (by kernel_rfl) ?_
 obtain ⟨hx13, hm⟩ := hm
 refine D.q 10 [] hQ hS rfl (.none rfl) rfl rfl (by exact Rd.rm rfl rfl rfl rfl hx13) rfl (by kernel_rfl) ?_
 refine D.ps 3 [(11, []), (12, []), (13, [])] rfl hQ hS T rfl rfl (by kernel_rfl) ?_
 obtain ⟨hx14, hm⟩ := hm
 refine D.q 14 [] hQ hS rfl (.none rfl) rfl rfl (by exact Rd.dv rfl rfl rfl rfl hx14) rfl (by kernel_rfl) ?_
 refine D.ps 2 [(15, []), (16, [])] rfl hQ hS T rfl rfl (by kernel_rfl) ?_
 obtain ⟨hx15, hm⟩ := hm
 refine D.q 17 [] hQ hS rfl (.none rfl) rfl rfl (by exact Rd.dv rfl rfl rfl rfl hx15) rfl (by kernel_rfl) ?_
 refine D.ps 3 [(18, []), (19, []), (20, [])] rfl hQ hS T rfl rfl (by kernel_rfl) ?_
 refine D.done (by kernel_rfl) ?_
 refine C.nx (C.ret ?_)
 exact C.f0 T (rs' := [.i ((c.tmod f.W, (w64 (c.tdiv f.W)).tmod f.H, w64 ((w64 (c.tdiv f.W)).tdiv f.H)).1), .i ((c.tmod f.W, (w64 (c.tdiv f.W)).tmod f.H, w64 ((w64 (c.tdiv f.W)).tdiv f.H)).2.1), .i ((c.tmod f.W, (w64 (c.tdiv f.W)).tmod f.H, w64 ((w64 (c.tdiv f.W)).tdiv f.H)).2.2)]) hβ ⟨(c.tmod f.W, (w64 (c.tdiv f.W)).tmod f.H, w64 ((w64 (c.tdiv f.W)).tdiv f.H)), hm, rfl, rfl, rfl⟩
theorem T_taquinref07_Cell (f : ApiFloor) (x_1 : Int) (y_1 : Int) (z : Int) (post : Int → Prop) (hm : V_taquinref07_Cell f x_1 y_1 z post) :
    Tr Tryz.prog 94 [.agg (eApiFloor f), .i x_1, .i y_1, .i z] [] 0 (fun A H' k => ∃ y, post y ∧ A = (.i y) ∧ H' = [] ∧ k = 0) := by
 refine Tr.intro (n := 48) Tryz.func94 rfl Tryz.ntmps94 rfl (fun w0 ok F β hβ => ?_)
 unfold V_taquinref07_Cell at hm
 refine C.seq (U.start ?_)
 refine U.e1 rfl (.none rfl) (by exact Eff1.box rfl rfl rfl rfl rfl) ?_
 refine U.ps 1 T rfl ?_
 refine U.done (C.nx (C.seq (C.seq ?_)))
 refine C.jn (fun (x3 : Bool) => [(1, .i x_1), (2, .i y_1), (3, .i z), (4, .p 0 0), (36, .b x3)]) (fun (x3 : Bool) => [(0, .box (eApiFloor f))]) 1 hm (fun x3 hm => ?_) (fun J4 hm hJ4 => ?_)
 refine C.nx ?_
 refine C.ite rfl hm (fun hb10 hm => ?_) (fun hb10 hm => ?_)
 refine C.seq (U.start ?_)
 refine U.ps 1 T rfl ?_
 refine U.done (C.nx (C.ret (C.rt ?_)))
 exact C.f0 T (rs' := [.i (-1)]) hβ ⟨(-1), hm, rfl, rfl, rfl⟩
 refine C.skip (C.nx (C.seq (U.start ?_)))
 refine U.ps 12 T rfl ?_
 refine U.done (C.nx (C.ret ?_))
 exact C.f0 T (rs' := [.i (w64 ((w64 ((w64 ((w64 (z * f.H)) + y_1)) * f.W)) + x_1))]) hβ ⟨w64 ((w64 ((w64 ((w64 (z * f.H)) + y_1)) * f.W)) + x_1), hm, rfl, rfl, rfl⟩
 refine U.start ?_
 refine U.ps 3 T rfl ?_
 refine hm.cs (fun hb5 hm => ?_) (fun hb5 hm => ?_)
 refine U.sks 4 2 false 11 hb5 rfl rfl rfl ?_
 refine U.r rfl (.none rfl) rfl rfl (by exact Rd.pk rfl rfl hb5 rfl) ?_
 refine U.ps 1 T rfl ?_
 refine U.sks 2 8 false 17 rfl rfl rfl rfl ?_
 refine U.r rfl (.none rfl) rfl rfl (by exact Rd.pk rfl rfl rfl rfl) ?_
 refine U.ps 1 T rfl ?_
 refine U.sks 4 12 false 21 rfl rfl rfl rfl ?_
 refine U.r rfl (.none rfl) rfl rfl (by exact Rd.pk rfl rfl rfl rfl) ?_
 refine U.ps 1 T rfl ?_
 refine U.sks 2 18 false 27 rfl rfl rfl rfl ?_
 refine U.r rfl (.none rfl) rfl rfl (by exact Rd.pk rfl rfl rfl rfl) ?_
 refine U.ps 1 T rfl ?_
 refine U.sks 4 22 false 31 rfl rfl rfl rfl ?_
 refine U.r rfl (.none rfl) rfl rfl (by exact Rd.pk rfl rfl rfl rfl) ?_
 refine U.done ?_
 exact St.wk (hJ4 _ hm) (Wk.f [some 0] ⟨bX, trivial⟩)
 refine U.pg 4 2 false 11 hb5 T rfl rfl rfl rfl ?_
 refine U.r rfl (.none rfl) rfl rfl (by exact Rd.pk' rfl rfl hb5 rfl) ?_
 refine U.ps 1 T rfl ?_
 refine hm.cs (fun hb6 hm => ?_) (fun hb6 hm => ?_)
 refine U.sks 2 8 false 17 hb6 rfl rfl rfl ?_
 refine U.r rfl (.none rfl) rfl rfl (by exact Rd.pk rfl rfl hb6 rfl) ?_
 refine U.ps 1 T rfl ?_
 refine U.sks 4 12 false 21 rfl rfl rfl rfl ?_
 refine U.r rfl (.none rfl) rfl rfl (by exact Rd.pk rfl rfl rfl rfl) ?_
 refine U.ps 1 T rfl ?_
 refine U.sks 2 18 false 27 rfl rfl rfl rfl ?_
 refine U.r rfl (.none rfl) rfl rfl (by exact Rd.pk rfl rfl rfl rfl) ?_
 refine U.ps 1 T rfl ?_
 refine U.sks 4 22 false 31 rfl rfl rfl rfl ?_
 refine U.r rfl (.none rfl) rfl rfl (by exact Rd.pk rfl rfl rfl rfl) ?_
 refine U.done ?_
 exact St.wk (hJ4 _ hm) (Wk.f [some 0] ⟨bX, trivial⟩)
 refine U.pg 2 8 false 17 hb6 T rfl rfl rfl rfl ?_
 refine U.r rfl (.none rfl) rfl rfl (by exact Rd.pk' rfl rfl hb6 rfl) ?_
 refine U.ps 1 T rfl ?_
 refine hm.cs (fun hb7 hm => ?_) (fun hb7 hm => ?_)
 refine U.sks 4 12 false 21 hb7 rfl rfl rfl ?_
 refine U.r rfl (.none rfl) rfl rfl (by exact Rd.pk rfl rfl hb7 rfl) ?_
 refine U.ps 1 T rfl ?_
 refine U.sks 2 18 false 27 rfl rfl rfl rfl ?_
 refine U.r rfl (.none rfl) rfl rfl (by exact Rd.pk rfl rfl rfl rfl) ?_
 refine U.ps 1 T rfl ?_
 refine U.sks 4 22 false 31 rfl rfl rfl rfl ?_
 refine U.r rfl (.none rfl) rfl rfl (by exact Rd.pk rfl rfl rfl rfl) ?_
 refine U.done ?_
 exact St.wk (hJ4 _ hm) (Wk.f [some 0] ⟨bX, trivial⟩)
 refine U.pg 4 12 false 21 hb7 T rfl rfl rfl rfl ?_
 refine U.r rfl (.none rfl) rfl rfl (by exact Rd.pk' rfl rfl hb7 rfl) ?_
 refine U.ps 1 T rfl ?_
 refine hm.cs (fun hb8 hm => ?_) (fun hb8 hm => ?_)
 refine U.sks 2 18 false 27 hb8 rfl rfl rfl ?_
 refine U.r rfl (.none rfl) rfl rfl (by exact Rd.pk rfl rfl hb8 rfl) ?_
 refine U.ps 1 T rfl ?_
 refine U.sks 4 22 false 31 rfl rfl rfl rfl ?_
 refine U.r rfl (.none rfl) rfl rfl (by exact Rd.pk rfl rfl rfl rfl) ?_
 refine U.done ?_
 exact St.wk (hJ4 _ hm) (Wk.f [some 0] ⟨bX, trivial⟩)
 refine U.pg 2 18 false 27 hb8 T rfl rfl rfl rfl ?_
 refine U.r rfl (.none rfl) rfl rfl (by exact Rd.pk' rfl rfl hb8 rfl) ?_
 refine U.ps 1 T rfl ?_
 refine hm.cs (fun hb9 hm => ?_) (fun hb9 hm => ?_)
 refine U.sks 4 22 false 31 hb9 rfl rfl rfl ?_
 refine U.r rfl (.none rfl) rfl rfl (by exact Rd.pk rfl rfl hb9 rfl) ?_
 refine U.done ?_
 exact St.wk (hJ4 _ hm) (Wk.f [some 0] ⟨bX, trivial⟩)
 refine U.pg 4 22 false 31 hb9 T rfl rfl rfl rfl ?_
 refine U.r rfl (.none rfl) rfl rfl (by exact Rd.pk' rfl rfl hb9 rfl) ?_
 refine U.done ?_
 exact St.wk (hJ4 _ hm) (Wk.f [some 0] ⟨bX, trivial⟩)
theorem T_taquinref07_Beside (f : ApiFloor) (c : Int) (d : Int) (post : Int → Prop) (hm : V_taquinref07_Beside f c d post) :
    Tr Tryz.prog 72 [.agg (eApiFloor f), .i c, .i d] [] 0 (fun A H' k => ∃ y, post y ∧ A = (.i y) ∧ H' = [] ∧ k = 0) := by
 refine Tr.intro (n := 70) Tryz.func72 rfl Tryz.ntmps72 rfl (fun w0 ok F β hβ => ?_)
 unfold V_taquinref07_Beside at hm
 refine C.seq (U.start ?_)
 refine U.e1 rfl (.none rfl) (by exact Eff1.box rfl rfl rfl rfl rfl) ?_
 refine U.ps 1 T rfl ?_
 refine U.done (C.nx (C.seq (C.seq (U.start ?_))))
 refine U.ps 2 T rfl ?_
 refine U.e rfl (.none rfl) (by exact Eff.k (T_taquinref07_Is f c _ hm) en36 rfl rfl rfl (.eq rfl) (fun _ _ => ⟨(.v _), trivial⟩)) (fun x5' hm => ?_)
 obtain ⟨x5⟩ := x5'
 refine U.ps 1 T rfl ?_
 refine U.done (C.nx ?_)
 refine C.ite rfl hm (fun hb6 hm => ?_) (fun hb6 hm => ?_)
 refine C.seq (U.start ?_)
 refine U.ps 1 T rfl ?_
 refine U.done (C.nx (C.ret (C.rt ?_)))
 exact C.f0 T (rs' := [.i (-1)]) hβ ⟨(-1), hm, rfl, rfl, rfl⟩
 refine C.skip (C.nx (C.seq (U.start ?_)))
 refine U.ps 2 T rfl ?_
 refine U.e rfl (.none rfl) (by exact Eff.k (T_taquinref07_At f c _ hm) en93 rfl rfl rfl (.eq rfl) (fun _ _ => ⟨(.tup (.cons (.v _) (.cons (.v _) (.cons (.v _) .nil)))), trivial⟩)) (fun x11' hm => ?_)
 obtain ⟨x11⟩ := x11'
 refine U.ps 7 T rfl ?_
 refine U.done (C.nx (C.seq (C.seq (U.start ?_))))
 refine U.ps 1 T rfl ?_
 refine U.done (C.nx (C.block (C.seq (U.start ?_))))
 refine U.ps 2 T rfl ?_
 refine U.done (C.nx ?_)
 refine C.ite rfl hm (fun hb16 hm => ?_) (fun hb16 hm => ?_)
 refine C.seq (U.start ?_)
 refine U.ps 5 T rfl ?_
 refine U.e rfl (.none rfl) (by exact Eff.k (T_taquinref07_Cell f (w64 (x11.1 + 1)) x11.2.1 x11.2.2 _ hm) en94 rfl rfl rfl (.eq rfl) (fun _ _ => ⟨(.v _), trivial⟩)) (fun x19' hm => ?_)
 obtain ⟨x19⟩ := x19'
 refine U.ps 1 T rfl ?_
 refine U.done (C.nx (C.ret (C.brt (C.rt ?_))))
 exact C.f0 T (rs' := [.i x19]) hβ ⟨x19, hm, rfl, rfl, rfl⟩
 refine C.seq (U.start ?_)
 refine U.ps 2 T rfl ?_
 refine U.done (C.nx ?_)
 refine C.ite rfl hm (fun hb22 hm => ?_) (fun hb22 hm => ?_)
 refine C.seq (U.start ?_)
 refine U.ps 5 T rfl ?_
 refine U.e rfl (.none rfl) (by exact Eff.k (T_taquinref07_Cell f x11.1 (w64 (x11.2.1 + 1)) x11.2.2 _ hm) en94 rfl rfl rfl (.eq rfl) (fun _ _ => ⟨(.v _), trivial⟩)) (fun x25' hm => ?_)
 obtain ⟨x25⟩ := x25'
 refine U.ps 1 T rfl ?_
 refine U.done (C.nx (C.ret (C.brt (C.rt ?_))))
 exact C.f0 T (rs' := [.i x25]) hβ ⟨x25, hm, rfl, rfl, rfl⟩
 refine C.seq (U.start ?_)
 refine U.ps 2 T rfl ?_
 refine U.done (C.nx ?_)
 refine C.ite rfl hm (fun hb28 hm => ?_) (fun hb28 hm => ?_)
 refine C.seq (U.start ?_)
 refine U.ps 5 T rfl ?_
 refine U.e rfl (.none rfl) (by exact Eff.k (T_taquinref07_Cell f (w64 (x11.1 - 1)) x11.2.1 x11.2.2 _ hm) en94 rfl rfl rfl (.eq rfl) (fun _ _ => ⟨(.v _), trivial⟩)) (fun x31' hm => ?_)
 obtain ⟨x31⟩ := x31'
 refine U.ps 1 T rfl ?_
 refine U.done (C.nx (C.ret (C.brt (C.rt ?_))))
 exact C.f0 T (rs' := [.i x31]) hβ ⟨x31, hm, rfl, rfl, rfl⟩
 refine C.seq (U.start ?_)
 refine U.ps 2 T rfl ?_
 refine U.done (C.nx ?_)
 refine C.ite rfl hm (fun hb34 hm => ?_) (fun hb34 hm => ?_)
 refine C.seq (U.start ?_)
 refine U.ps 5 T rfl ?_
 refine U.e rfl (.none rfl) (by exact Eff.k (T_taquinref07_Cell f x11.1 (w64 (x11.2.1 - 1)) x11.2.2 _ hm) en94 rfl rfl rfl (.eq rfl) (fun _ _ => ⟨(.v _), trivial⟩)) (fun x37' hm => ?_)
 obtain ⟨x37⟩ := x37'
 refine U.ps 1 T rfl ?_
 refine U.done (C.nx (C.ret (C.brt (C.rt ?_))))
 exact C.f0 T (rs' := [.i x37]) hβ ⟨x37, hm, rfl, rfl, rfl⟩
 refine C.seq (U.start ?_)
 refine U.ps 2 T rfl ?_
 refine U.done (C.nx ?_)
 refine C.ite rfl hm (fun hb40 hm => ?_) (fun hb40 hm => ?_)
 refine C.seq (U.start ?_)
 refine U.ps 5 T rfl ?_
 refine U.e rfl (.none rfl) (by exact Eff.k (T_taquinref07_Cell f x11.1 x11.2.1 (w64 (x11.2.2 + 1)) _ hm) en94 rfl rfl rfl (.eq rfl) (fun _ _ => ⟨(.v _), trivial⟩)) (fun x43' hm => ?_)
 obtain ⟨x43⟩ := x43'
 refine U.ps 1 T rfl ?_
 refine U.done (C.nx (C.ret (C.brt (C.rt ?_))))
 exact C.f0 T (rs' := [.i x43]) hβ ⟨x43, hm, rfl, rfl, rfl⟩
 refine C.seq (U.start ?_)
 refine U.ps 2 T rfl ?_
 refine U.done (C.nx ?_)
 refine C.ite rfl hm (fun hb46 hm => ?_) (fun hb46 hm => ?_)
 refine C.seq (U.start ?_)
 refine U.ps 5 T rfl ?_
 refine U.e rfl (.none rfl) (by exact Eff.k (T_taquinref07_Cell f x11.1 x11.2.1 (w64 (x11.2.2 - 1)) _ hm) en94 rfl rfl rfl (.eq rfl) (fun _ _ => ⟨(.v _), trivial⟩)) (fun x49' hm => ?_)
 obtain ⟨x49⟩ := x49'
 refine U.ps 1 T rfl ?_
 refine U.done (C.nx (C.ret (C.brt (C.rt ?_))))
 exact C.f0 T (rs' := [.i x49]) hβ ⟨x49, hm, rfl, rfl, rfl⟩
 refine C.skip (C.bnx (C.nx (C.seq (U.start ?_))))
 refine U.ps 1 T rfl ?_
 refine U.done (C.nx (C.ret ?_))
 exact C.f0 T (rs' := [.i (-1)]) hβ ⟨(-1), hm, rfl, rfl, rfl⟩
theorem T_taquinref11_Beside (s_1 : ApiSite) (post : Int → Prop) (hm : V_taquinref11_Beside s_1 post) :
    Tr Tryz.prog 41 [.agg (eApiSite s_1)] [] 0 (fun A H' k => ∃ y, post y ∧ A = (.i y) ∧ H' = [] ∧ k = 0) := by
 refine Tr.intro (n := 62) Tryz.func41 rfl Tryz.ntmps41 rfl (fun w0 ok F β hβ => ?_)
 unfold V_taquinref11_Beside at hm
 refine C.seq (U.start ?_)
 refine U.e1 rfl (.none rfl) (by exact Eff1.box rfl rfl rfl rfl rfl) ?_
 refine U.ps 1 T rfl ?_
 refine U.done (C.nx (C.seq (C.seq (U.start ?_))))
 refine U.ps 1 T rfl ?_
 refine U.done (C.nx ?_)
 refine C.jn (fun (x5 : Unit) => []) (fun (x5 : Unit) => []) 0 hm (fun x5 hm => ?_) (fun J6 hm hJ6 => ?_)
 refine C.nx (C.seq (U.start ?_))
 refine U.ps 1 T rfl ?_
 refine U.done (C.nx (C.ret ?_))
 exact C.f0 T (rs' := [.i (-1)]) hβ ⟨(-1), hm, rfl, rfl, rfl⟩
 refine C.block ?_
 refine St.wk (C.loop (fun (s7 : Int) => [(1, .p 0 0), (3, .i s7)]) (fun (s7 : Int) => [(0, .box (eApiSite s_1))]) hm (fun s7 Y8 hm => ?_)) (Wk.f [some 0] ⟨bX, trivial⟩)
 refine C.seq (C.seq (U.start ?_))
 refine U.ps 5 T rfl ?_
 refine U.done (C.nx ?_)
 refine C.ite rfl hm (fun hb11 hm => ?_) (fun hb11 hm => ?_)
 refine C.skip (C.nx (C.seq ?_))
 refine C.jn (fun (x12 : Unit) => [(1, .p 0 0), (3, .i s7)]) (fun (x12 : Unit) => [(0, .box (eApiSite s_1))]) 1 hm (fun x12 hm => ?_) (fun J13 hm hJ13 => ?_)
 refine C.nx (U.start ?_)
 refine U.ps 3 T rfl ?_
 refine U.done (C.nx ?_)
 exact St.wk (C.next hm) (Wk.f [some 0] ⟨bX, trivial⟩)
 refine C.block (C.seq (U.start ?_))
 refine U.ps 1 T rfl ?_
 refine U.done (C.nx ?_)
 refine C.jn (fun (x16 : Unit) => [(1, .p 0 0), (3, .i s7)]) (fun (x16 : Unit) => [(0, .box (eApiSite s_1))]) 1 hm (fun x16 hm => ?_) (fun J17 hm hJ17 => ?_)
 refine C.bnx ?_
 exact St.wk (hJ13 _ hm) (Wk.f [some 0] ⟨bX, trivial⟩)
 refine C.block ?_
 refine St.wk (C.loop (fun (s18 : Int) => [(1, .p 0 0), (3, .i s7), (4, .i s18)]) (fun (s18 : Int) => [(0, .box (eApiSite s_1))]) hm (fun s18 Y19 hm => ?_)) (Wk.f [some 0] ⟨bX, trivial⟩)
 refine C.seq (C.seq (U.start ?_))
 refine U.ps 2 T rfl ?_
 refine U.done (C.nx ?_)
 refine C.ite rfl hm (fun hb22 hm => ?_) (fun hb22 hm => ?_)
 refine C.skip (C.nx (C.seq (C.block (C.seq ?_))))
 refine D.beg 9999 [0] [] mix rfl rfl (by kernel_rfl) (by repeat (first | exact NoPanicQ.body | exact NoPanicQ.rnd | refine NoPanicQ.th ?_ | refine NoPanicQ.blk ?_)) (fun hQ hS ws M' => ?_)
 refine D.ps 5 [(0, []), (1, []), (2, []), (3, []), (4, [])] rfl hQ hS T rfl rfl (by kernel_rfl) ?_
 obtain ⟨x25, hx25, hm⟩ := hm
 refine D.q 5 [] hQ hS rfl (.none rfl) rfl rfl (by exact Rd.ix T rfl rfl rfl rfl rfl rfl hx25) rfl (by kernel_rfl) ?_
 refine D.ps 3 [(6, []), (7, []), (8, [])] rfl hQ hS T rfl rfl (by kernel_rfl) ?_
 refine D.e 9 rfl (.none rfl) (by exact Eff.k (T_taquinref07_Beside s_1.Floor x25.Cell s18 _ hm) en72 rfl rfl rfl (.eq rfl) (fun _ _ => ⟨(.v _), trivial⟩)) (by kernel_rfl) rfl rfl (fun x26' hm => ?_)
 obtain ⟨x26⟩ := x26'
 refine D.ps 1 [(10, [])] rfl hQ hS T rfl rfl (by kernel_rfl) ?_
 refine D.done (by kernel_rfl) ?_
 refine C.nx (C.seq (U.start ?_))
 refine U.ps 3 T rfl ?_
 refine U.e rfl (.none rfl) (by exact Eff.k (T_taquinref11_shelfAt s_1.Shelves x26 _ hm) en38 rfl rfl rfl (.eq rfl) (fun _ _ => ⟨(.v _), trivial⟩)) (fun x29' hm => ?_)
 obtain ⟨x29⟩ := x29'
 refine U.ps 1 T rfl ?_
 refine U.done (C.nx (C.seq ?_))
 refine C.jn (fun (x30 : Bool) => [(1, .p 0 0), (3, .i s7), (4, .i s18), (60, .b x30)]) (fun (x30 : Bool) => [(0, .box (eApiSite s_1))]) 1 hm (fun x30 hm => ?_) (fun J31 hm hJ31 => ?_)
 refine C.nx ?_
 refine C.ite rfl hm (fun hb37 hm => ?_) (fun hb37 hm => ?_)
 refine C.seq (U.start ?_)
 refine U.ps 2 T rfl ?_
 refine U.done (C.nx (C.ret (C.brt (C.rt (C.rt (C.brt (C.brt (C.rt (C.rt (C.brt (C.rt ?_)))))))))))
 exact C.f0 T (rs' := [.i s7]) hβ ⟨s7, hm, rfl, rfl, rfl⟩
 refine C.skip (C.bnx (C.nx (U.start ?_)))
 refine U.ps 3 T rfl ?_
 refine U.done (C.nx ?_)
 exact St.wk (C.next hm) (Wk.f [some 0] ⟨bX, trivial⟩)
 refine D.beg 9999 [0] [] mix rfl rfl (by kernel_rfl) (by repeat (first | exact NoPanicQ.body | exact NoPanicQ.rnd | refine NoPanicQ.th ?_ | refine NoPanicQ.blk ?_)) (fun hQ hS ws M' => ?_)
 refine D.ps 3 [(0, []), (1, []), (2, [])] rfl hQ hS T rfl rfl (by kernel_rfl) ?_
 refine hm.cs (fun hb32 hm => ?_) (fun hb32 hm => ?_)
 refine D.q 3 [] hQ hS rfl (.take 2 true 34 _ hb32 rfl rfl rfl) rfl rfl (by exact Rd.p T rfl) rfl (by kernel_rfl) ?_
 refine D.q 4 [] hQ hS rfl (.take 2 true 34 _ hb32 rfl rfl rfl) rfl rfl (by exact Rd.p T rfl) rfl (by kernel_rfl) ?_
 refine D.q 5 [] hQ hS rfl (.none rfl) rfl rfl (by exact Rd.pk rfl rfl hb32 rfl) rfl (by kernel_rfl) ?_
 refine D.ps 1 [(6, [])] rfl hQ hS T rfl rfl (by kernel_rfl) ?_
 refine hm.cs (fun hb33 hm => ?_) (fun hb33 hm => ?_)
 refine D.q 7 [] hQ hS rfl (.take 6 true 38 _ hb33 rfl rfl rfl) rfl rfl (by exact Rd.p T rfl) rfl (by kernel_rfl) ?_
 refine D.q 8 [] hQ hS rfl (.take 6 true 38 _ hb33 rfl rfl rfl) rfl rfl (by exact Rd.p T rfl) rfl (by kernel_rfl) ?_
 refine D.q 9 [] hQ hS rfl (.take 6 true 38 _ hb33 rfl rfl rfl) rfl rfl (by exact Rd.p T rfl) rfl (by kernel_rfl) ?_
 refine D.q 10 [] hQ hS rfl (.none rfl) rfl rfl (by exact Rd.pk rfl rfl hb33 rfl) rfl (by kernel_rfl) ?_
 refine D.ps 1 [(11, [])] rfl hQ hS T rfl rfl (by kernel_rfl) ?_
 refine hm.cs (fun hb34 hm => ?_) (fun hb34 hm => ?_)
 refine D.q 12 [] hQ hS rfl (.take 11 true 43 _ hb34 rfl rfl rfl) rfl rfl (by exact Rd.p T rfl) rfl (by kernel_rfl) ?_
 refine D.q 13 [] hQ hS rfl (.take 11 true 43 _ hb34 rfl rfl rfl) rfl rfl (by exact Rd.l T rfl rfl rfl) rfl (by kernel_rfl) ?_
 refine D.q 14 [] hQ hS rfl (.take 11 true 43 _ hb34 rfl rfl rfl) rfl rfl (by exact Rd.p T rfl) rfl (by kernel_rfl) ?_
 refine D.q 15 [] hQ hS rfl (.take 11 true 43 _ hb34 rfl rfl rfl) rfl rfl (by exact Rd.l T rfl rfl rfl) rfl (by kernel_rfl) ?_
 refine D.q 16 [] hQ hS rfl (.take 11 true 43 _ hb34 rfl rfl rfl) rfl rfl (by exact Rd.p T rfl) rfl (by kernel_rfl) ?_
 refine D.q 17 [] hQ hS rfl (.take 11 true 43 _ hb34 rfl rfl rfl) rfl rfl (by exact Rd.ix T rfl rfl rfl rfl rfl rfl hx25) rfl (by kernel_rfl) ?_
 refine D.q 18 [] hQ hS rfl (.take 11 true 43 _ hb34 rfl rfl rfl) rfl rfl (by exact Rd.p T rfl) rfl (by kernel_rfl) ?_
 refine D.q 19 [] hQ hS rfl (.take 11 true 43 _ hb34 rfl rfl rfl) rfl rfl (by exact Rd.l T rfl rfl rfl) rfl (by kernel_rfl) ?_
 refine D.q 20 [] hQ hS rfl (.take 11 true 43 _ hb34 rfl rfl rfl) rfl rfl (by exact Rd.p T rfl) rfl (by kernel_rfl) ?_
 refine D.q 21 [] hQ hS rfl (.take 11 true 43 _ hb34 rfl rfl rfl) rfl rfl (by exact Rd.l T rfl rfl rfl) rfl (by kernel_rfl) ?_
 refine D.q 22 [] hQ hS rfl (.take 11 true 43 _ hb34 rfl rfl rfl) rfl rfl (by exact Rd.p T rfl) rfl (by kernel_rfl) ?_
 refine D.q 23 [] hQ hS rfl (.take 11 true 43 _ hb34 rfl rfl rfl) rfl rfl (by exact Rd.p T rfl) rfl (by kernel_rfl) ?_
 obtain ⟨x35, hx35, hm⟩ := hm
 refine D.q 24 [] hQ hS rfl (.take 11 true 43 _ hb34 rfl rfl rfl) rfl rfl (by exact Rd.ix T rfl rfl rfl rfl rfl rfl hx35) rfl (by kernel_rfl) ?_
 refine D.q 25 [] hQ hS rfl (.take 11 true 43 _ hb34 rfl rfl rfl) rfl rfl (by exact Rd.p T rfl) rfl (by kernel_rfl) ?_
 refine D.q 26 [] hQ hS rfl (.take 11 true 43 _ hb34 rfl rfl rfl) rfl rfl (by exact Rd.l T rfl rfl rfl) rfl (by kernel_rfl) ?_
 refine D.e 27 rfl (.take 11 true 43 _ hb34 rfl rfl rfl) (by exact Eff.k (T_taquinref11_Apart s_1.Aparts x25.Class x35.Class _ hm) en35 rfl rfl rfl (.eq rfl) (fun _ _ => ⟨(.v _), trivial⟩)) (by kernel_rfl) rfl rfl (fun x36' hm => ?_)
 obtain ⟨x36⟩ := x36'
 refine D.q 28 [] hQ hS rfl (.none rfl) rfl rfl (by exact Rd.pk rfl rfl hb34 rfl) rfl (by kernel_rfl) ?_
 refine D.done (by kernel_rfl) ?_
 exact St.wk (hJ31 _ hm) (Wk.f [some 0] ⟨bX, trivial⟩)
 refine D.sq 12 [] hQ hS rfl (.skip 11 true 43 _ hb34 rfl rfl rfl) rfl rfl (by kernel_rfl) ?_
 refine D.sq 13 [] hQ hS rfl (.skip 11 true 43 _ hb34 rfl rfl rfl) rfl rfl (by kernel_rfl) ?_
 refine D.sq 14 [] hQ hS rfl (.skip 11 true 43 _ hb34 rfl rfl rfl) rfl rfl (by kernel_rfl) ?_
 refine D.sq 15 [] hQ hS rfl (.skip 11 true 43 _ hb34 rfl rfl rfl) rfl rfl (by kernel_rfl) ?_
 refine D.sq 16 [] hQ hS rfl (.skip 11 true 43 _ hb34 rfl rfl rfl) rfl rfl (by kernel_rfl) ?_
 refine D.sq 17 [] hQ hS rfl (.skip 11 true 43 _ hb34 rfl rfl rfl) rfl rfl (by kernel_rfl) ?_
 refine D.sq 18 [] hQ hS rfl (.skip 11 true 43 _ hb34 rfl rfl rfl) rfl rfl (by kernel_rfl) ?_
 refine D.sq 19 [] hQ hS rfl (.skip 11 true 43 _ hb34 rfl rfl rfl) rfl rfl (by kernel_rfl) ?_
 refine D.sq 20 [] hQ hS rfl (.skip 11 true 43 _ hb34 rfl rfl rfl) rfl rfl (by kernel_rfl) ?_
 refine D.sq 21 [] hQ hS rfl (.skip 11 true 43 _ hb34 rfl rfl rfl) rfl rfl (by kernel_rfl) ?_
 refine D.sq 22 [] hQ hS rfl (.skip 11 true 43 _ hb34 rfl rfl rfl) rfl rfl (by kernel_rfl) ?_
 refine D.sq 23 [] hQ hS rfl (.skip 11 true 43 _ hb34 rfl rfl rfl) rfl rfl (by kernel_rfl) ?_
 refine D.sq 24 [] hQ hS rfl (.skip 11 true 43 _ hb34 rfl rfl rfl) rfl rfl (by kernel_rfl) ?_
 refine D.sq 25 [] hQ hS rfl (.skip 11 true 43 _ hb34 rfl rfl rfl) rfl rfl (by kernel_rfl) ?_
 refine D.sq 26 [] hQ hS rfl (.skip 11 true 43 _ hb34 rfl rfl rfl) rfl rfl (by kernel_rfl) ?_
 refine D.sq 27 [] hQ hS rfl (.skip 11 true 43 _ hb34 rfl rfl rfl) rfl rfl (by kernel_rfl) ?_
 refine D.q 28 [] hQ hS rfl (.none rfl) rfl rfl (by exact Rd.pk' rfl rfl hb34 rfl) rfl (by kernel_rfl) ?_
 refine D.done (by kernel_rfl) ?_
 exact St.wk (hJ31 _ hm) (Wk.f [some 0] ⟨bX, trivial⟩)
 refine D.sq 7 [] hQ hS rfl (.skip 6 true 38 _ hb33 rfl rfl rfl) rfl rfl (by kernel_rfl) ?_
 refine D.sq 8 [] hQ hS rfl (.skip 6 true 38 _ hb33 rfl rfl rfl) rfl rfl (by kernel_rfl) ?_
 refine D.sq 9 [] hQ hS rfl (.skip 6 true 38 _ hb33 rfl rfl rfl) rfl rfl (by kernel_rfl) ?_
 refine D.q 10 [] hQ hS rfl (.none rfl) rfl rfl (by exact Rd.pk' rfl rfl hb33 rfl) rfl (by kernel_rfl) ?_
 refine D.ps 1 [(11, [])] rfl hQ hS T rfl rfl (by kernel_rfl) ?_
 refine D.sq 12 [] hQ hS rfl (.skip 11 true 43 _ rfl rfl rfl rfl) rfl rfl (by kernel_rfl) ?_
 refine D.sq 13 [] hQ hS rfl (.skip 11 true 43 _ rfl rfl rfl rfl) rfl rfl (by kernel_rfl) ?_
 refine D.sq 14 [] hQ hS rfl (.skip 11 true 43 _ rfl rfl rfl rfl) rfl rfl (by kernel_rfl) ?_
 refine D.sq 15 [] hQ hS rfl (.skip 11 true 43 _ rfl rfl rfl rfl) rfl rfl (by kernel_rfl) ?_
 refine D.sq 16 [] hQ hS rfl (.skip 11 true 43 _ rfl rfl rfl rfl) rfl rfl (by kernel_rfl) ?_
 refine D.sq 17 [] hQ hS rfl (.skip 11 true 43 _ rfl rfl rfl rfl) rfl rfl (by kernel_rfl) ?_
 refine D.sq 18 [] hQ hS rfl (.skip 11 true 43 _ rfl rfl rfl rfl) rfl rfl (by kernel_rfl) ?_
 refine D.sq 19 [] hQ hS rfl (.skip 11 true 43 _ rfl rfl rfl rfl) rfl rfl (by kernel_rfl) ?_
 refine D.sq 20 [] hQ hS rfl (.skip 11 true 43 _ rfl rfl rfl rfl) rfl rfl (by kernel_rfl) ?_
 refine D.sq 21 [] hQ hS rfl (.skip 11 true 43 _ rfl rfl rfl rfl) rfl rfl (by kernel_rfl) ?_
 refine D.sq 22 [] hQ hS rfl (.skip 11 true 43 _ rfl rfl rfl rfl) rfl rfl (by kernel_rfl) ?_
 refine D.sq 23 [] hQ hS rfl (.skip 11 true 43 _ rfl rfl rfl rfl) rfl rfl (by kernel_rfl) ?_
 refine D.sq 24 [] hQ hS rfl (.skip 11 true 43 _ rfl rfl rfl rfl) rfl rfl (by kernel_rfl) ?_
 refine D.sq 25 [] hQ hS rfl (.skip 11 true 43 _ rfl rfl rfl rfl) rfl rfl (by kernel_rfl) ?_
 refine D.sq 26 [] hQ hS rfl (.skip 11 true 43 _ rfl rfl rfl rfl) rfl rfl (by kernel_rfl) ?_
 refine D.sq 27 [] hQ hS rfl (.skip 11 true 43 _ rfl rfl rfl rfl) rfl rfl (by kernel_rfl) ?_
 refine D.q 28 [] hQ hS rfl (.none rfl) rfl rfl (by exact Rd.pk' rfl rfl rfl rfl) rfl (by kernel_rfl) ?_
 refine D.done (by kernel_rfl) ?_
 exact St.wk (hJ31 _ hm) (Wk.f [some 0] ⟨bX, trivial⟩)
 refine D.sq 3 [] hQ hS rfl (.skip 2 true 34 _ hb32 rfl rfl rfl) rfl rfl (by kernel_rfl) ?_
 refine D.sq 4 [] hQ hS rfl (.skip 2 true 34 _ hb32 rfl rfl rfl) rfl rfl (by kernel_rfl) ?_
 refine D.q 5 [] hQ hS rfl (.none rfl) rfl rfl (by exact Rd.pk' rfl rfl hb32 rfl) rfl (by kernel_rfl) ?_
 refine D.ps 1 [(6, [])] rfl hQ hS T rfl rfl (by kernel_rfl) ?_
 refine D.sq 7 [] hQ hS rfl (.skip 6 true 38 _ rfl rfl rfl rfl) rfl rfl (by kernel_rfl) ?_
 refine D.sq 8 [] hQ hS rfl (.skip 6 true 38 _ rfl rfl rfl rfl) rfl rfl (by kernel_rfl) ?_
 refine D.sq 9 [] hQ hS rfl (.skip 6 true 38 _ rfl rfl rfl rfl) rfl rfl (by kernel_rfl) ?_
 refine D.q 10 [] hQ hS rfl (.none rfl) rfl rfl (by exact Rd.pk' rfl rfl rfl rfl) rfl (by kernel_rfl) ?_
 refine D.ps 1 [(11, [])] rfl hQ hS T rfl rfl (by kernel_rfl) ?_
 refine D.sq 12 [] hQ hS rfl (.skip 11 true 43 _ rfl rfl rfl rfl) rfl rfl (by kernel_rfl) ?_
 refine D.sq 13 [] hQ hS rfl (.skip 11 true 43 _ rfl rfl rfl rfl) rfl rfl (by kernel_rfl) ?_
 refine D.sq 14 [] hQ hS rfl (.skip 11 true 43 _ rfl rfl rfl rfl) rfl rfl (by kernel_rfl) ?_
 refine D.sq 15 [] hQ hS rfl (.skip 11 true 43 _ rfl rfl rfl rfl) rfl rfl (by kernel_rfl) ?_
 refine D.sq 16 [] hQ hS rfl (.skip 11 true 43 _ rfl rfl rfl rfl) rfl rfl (by kernel_rfl) ?_
 refine D.sq 17 [] hQ hS rfl (.skip 11 true 43 _ rfl rfl rfl rfl) rfl rfl (by kernel_rfl) ?_
 refine D.sq 18 [] hQ hS rfl (.skip 11 true 43 _ rfl rfl rfl rfl) rfl rfl (by kernel_rfl) ?_
 refine D.sq 19 [] hQ hS rfl (.skip 11 true 43 _ rfl rfl rfl rfl) rfl rfl (by kernel_rfl) ?_
 refine D.sq 20 [] hQ hS rfl (.skip 11 true 43 _ rfl rfl rfl rfl) rfl rfl (by kernel_rfl) ?_
 refine D.sq 21 [] hQ hS rfl (.skip 11 true 43 _ rfl rfl rfl rfl) rfl rfl (by kernel_rfl) ?_
 refine D.sq 22 [] hQ hS rfl (.skip 11 true 43 _ rfl rfl rfl rfl) rfl rfl (by kernel_rfl) ?_
 refine D.sq 23 [] hQ hS rfl (.skip 11 true 43 _ rfl rfl rfl rfl) rfl rfl (by kernel_rfl) ?_
 refine D.sq 24 [] hQ hS rfl (.skip 11 true 43 _ rfl rfl rfl rfl) rfl rfl (by kernel_rfl) ?_
 refine D.sq 25 [] hQ hS rfl (.skip 11 true 43 _ rfl rfl rfl rfl) rfl rfl (by kernel_rfl) ?_
 refine D.sq 26 [] hQ hS rfl (.skip 11 true 43 _ rfl rfl rfl rfl) rfl rfl (by kernel_rfl) ?_
 refine D.sq 27 [] hQ hS rfl (.skip 11 true 43 _ rfl rfl rfl rfl) rfl rfl (by kernel_rfl) ?_
 refine D.q 28 [] hQ hS rfl (.none rfl) rfl rfl (by exact Rd.pk' rfl rfl rfl rfl) rfl (by kernel_rfl) ?_
 refine D.done (by kernel_rfl) ?_
 exact St.wk (hJ31 _ hm) (Wk.f [some 0] ⟨bX, trivial⟩)
 refine C.exit (C.ex (C.ex (C.bex ?_)))
 exact St.wk (hJ17 _ hm) (Wk.f [some 0] ⟨bX, trivial⟩)
 refine C.exit (C.ex (C.ex (C.bex ?_)))
 exact St.wk (hJ6 _ hm) (Wk.mk' [] rfl rfl trivial trivial rfl)
theorem T_taquinref11_charger (f : ApiFloor) (post : Bool → Prop) (hm : V_taquinref11_charger f post) :
    Tr Tryz.prog 42 [.agg (eApiFloor f)] [] 0 (fun A H' k => ∃ y, post y ∧ A = (.b y) ∧ H' = [] ∧ k = 0) := by
 refine Tr.intro (n := 6) Tryz.func42 rfl Tryz.ntmps42 rfl (fun w0 ok F β hβ => ?_)
 unfold V_taquinref11_charger at hm
 refine C.seq (U.start ?_)
 refine U.e1 rfl (.none rfl) (by exact Eff1.box rfl rfl rfl rfl rfl) ?_
 refine U.ps 1 T rfl ?_
 refine U.done (C.nx (C.seq (U.start ?_)))
 refine U.ps 2 T rfl ?_
 refine U.e rfl (.none rfl) (by exact Eff.k (T_taquinref07_Has f.Kind 3 _ hm) en73 rfl rfl rfl (.eq rfl) (fun _ _ => ⟨(.v _), trivial⟩)) (fun x5' hm => ?_)
 obtain ⟨x5⟩ := x5'
 refine U.ps 1 T rfl ?_
 refine U.done (C.nx (C.ret ?_))
 exact C.f0 T (rs' := [.b x5]) hβ ⟨x5, hm, rfl, rfl, rfl⟩
theorem T_taquinref11_Right (s_1 : ApiSite) (post : Bool → Prop) (hm : V_taquinref11_Right s_1 post) :
    Tr Tryz.prog 13 [.agg (eApiSite s_1)] [] 0 (fun A H' k => ∃ y, post y ∧ A = (.b y) ∧ H' = [] ∧ k = 0) := by
 refine Tr.intro (n := 186) Tryz.func13 rfl Tryz.ntmps13 rfl (fun w0 ok F β hβ => ?_)
 unfold V_taquinref11_Right at hm
 refine C.seq (U.start ?_)
 refine U.e1 rfl (.none rfl) (by exact Eff1.box rfl rfl rfl rfl rfl) ?_
 refine U.ps 1 T rfl ?_
 refine U.done (C.nx (C.seq (C.seq ?_)))
 refine C.jn (fun (x3 : Bool) => [(1, .p 0 0), (30, .b x3)]) (fun (x3 : Bool) => [(0, .box (eApiSite s_1))]) 1 hm (fun x3 hm => ?_) (fun J4 hm hJ4 => ?_)
 refine C.nx ?_
 refine C.ite rfl hm (fun hb10 hm => ?_) (fun hb10 hm => ?_)
 refine C.seq (U.start ?_)
 refine U.ps 1 T rfl ?_
 refine U.done (C.nx (C.ret (C.rt ?_)))
 exact C.f0 T (rs' := [.b false]) hβ ⟨false, hm, rfl, rfl, rfl⟩
 refine C.skip (C.nx (C.seq (C.seq (U.start ?_))))
 refine U.ps 1 T rfl ?_
 refine U.done (C.nx ?_)
 refine C.jn (fun (x15 : Unit) => [(1, .p 0 0)]) (fun (x15 : Unit) => [(0, .box (eApiSite s_1))]) 1 hm (fun x15 hm => ?_) (fun J16 hm hJ16 => ?_)
 refine C.nx (C.seq (C.seq (U.start ?_)))
 refine U.ps 1 T rfl ?_
 refine U.done (C.nx ?_)
 refine C.jn (fun (x40 : Unit) => [(1, .p 0 0)]) (fun (x40 : Unit) => [(0, .box (eApiSite s_1))]) 1 hm (fun x40 hm => ?_) (fun J41 hm hJ41 => ?_)
 refine C.nx (C.seq (C.seq (U.start ?_)))
 refine U.ps 1 T rfl ?_
 refine U.done (C.nx ?_)
 refine C.jn (fun (x73 : Unit) => [(1, .p 0 0)]) (fun (x73 : Unit) => [(0, .box (eApiSite s_1))]) 1 hm (fun x73 hm => ?_) (fun J74 hm hJ74 => ?_)
 refine C.nx (C.seq (C.seq (U.start ?_)))
 refine U.ps 1 T rfl ?_
 refine U.done (C.nx ?_)
 refine C.jn (fun (x104 : Unit) => [(1, .p 0 0)]) (fun (x104 : Unit) => [(0, .box (eApiSite s_1))]) 1 hm (fun x104 hm => ?_) (fun J105 hm hJ105 => ?_)
 refine C.nx (C.seq ?_)
 refine C.jn (fun (x120 : Bool) => [(2, .b x120)]) (fun (x120 : Bool) => []) 0 hm (fun x120 hm => ?_) (fun J121 hm hJ121 => ?_)
 refine C.nx (C.ret ?_)
 exact C.f0 T (rs' := [.b x120]) hβ ⟨x120, hm, rfl, rfl, rfl⟩
 refine U.start ?_
 refine U.ps 1 T rfl ?_
 refine U.e rfl (.none rfl) (by exact Eff.k (T_taquinref11_Beside s_1 _ hm) en41 rfl rfl rfl (.eq rfl) (fun _ _ => ⟨(.v _), trivial⟩)) (fun x122' hm => ?_)
 obtain ⟨x122⟩ := x122'
 refine U.ps 2 T rfl ?_
 refine hm.cs (fun hb123 hm => ?_) (fun hb123 hm => ?_)
 refine U.pg 2 3 true 181 hb123 T rfl rfl rfl rfl ?_
 refine U.e rfl (.take 3 true 181 _ hb123 rfl rfl rfl) (by exact Eff.k (T_taquinref11_charger s_1.Floor _ hm) en42 rfl rfl rfl (.eq rfl) (fun _ _ => ⟨(.v _), trivial⟩)) (fun x124' hm => ?_)
 obtain ⟨x124⟩ := x124'
 refine U.r rfl (.none rfl) rfl rfl (by exact Rd.pk rfl rfl hb123 rfl) ?_
 refine U.ps 1 T rfl ?_
 refine U.done ?_
 exact St.wk (hJ121 _ hm) (Wk.e)
 refine U.sks 3 3 true 181 hb123 rfl rfl rfl ?_
 refine U.r rfl (.none rfl) rfl rfl (by exact Rd.pk' rfl rfl hb123 rfl) ?_
 refine U.ps 1 T rfl ?_
 refine U.done ?_
 exact St.wk (hJ121 _ hm) (Wk.e)
 refine C.block ?_
 refine St.wk (C.loop (fun (s106 : Int) => [(1, .p 0 0), (9, .i s106)]) (fun (s106 : Int) => [(0, .box (eApiSite s_1))]) hm (fun s106 Y107 hm => ?_)) (Wk.f [some 0] ⟨bX, trivial⟩)
 refine C.seq (C.seq (U.start ?_))
 refine U.ps 5 T rfl ?_
 refine U.done (C.nx ?_)
 refine C.ite rfl hm (fun hb110 hm => ?_) (fun hb110 hm => ?_)
 refine C.skip (C.nx (C.seq (C.block (C.seq ?_))))
 refine D.beg 9999 [0] [] mix rfl rfl (by kernel_rfl) (by repeat (first | exact NoPanicQ.body | exact NoPanicQ.rnd | refine NoPanicQ.th ?_ | refine NoPanicQ.blk ?_)) (fun hQ hS ws M' => ?_)
 refine D.ps 4 [(0, []), (1, []), (2, []), (3, [])] rfl hQ hS T rfl rfl (by kernel_rfl) ?_
 obtain ⟨x113, hx113, hm⟩ := hm
 refine D.q 4 [] hQ hS rfl (.none rfl) rfl rfl (by exact Rd.ix T rfl rfl rfl rfl rfl rfl hx113) rfl (by kernel_rfl) ?_
 refine D.ps 4 [(5, []), (7, []), (8, []), (9, [])] rfl hQ hS T rfl rfl (by kernel_rfl) ?_
 refine D.q 10 [] hQ hS rfl (.none rfl) rfl rfl (by exact Rd.ix T rfl rfl rfl rfl rfl rfl hx113) rfl (by kernel_rfl) ?_
 refine D.ps 2 [(11, []), (12, [])] rfl hQ hS T rfl rfl (by kernel_rfl) ?_
 refine D.e 6 rfl (.none rfl) (by exact Eff.k (T_taquinref11_blanks s_1 x113 _ hm) en40 rfl rfl rfl (.eq rfl) (fun _ _ => ⟨(.v _), trivial⟩)) (by kernel_rfl) rfl rfl (fun x114' hm => ?_)
 obtain ⟨x114⟩ := x114'
 refine D.ps 1 [(13, [])] rfl hQ hS T rfl rfl (by kernel_rfl) ?_
 refine D.done (by kernel_rfl) ?_
 refine C.nx ?_
 refine C.ite rfl hm (fun hb115 hm => ?_) (fun hb115 hm => ?_)
 refine C.seq (U.start ?_)
 refine U.ps 1 T rfl ?_
 refine U.done (C.nx (C.ret (C.brt (C.rt (C.rt (C.brt (C.rt ?_)))))))
 exact C.f0 T (rs' := [.b false]) hβ ⟨false, hm, rfl, rfl, rfl⟩
 refine C.skip (C.bnx (C.nx (U.start ?_)))
 refine U.ps 3 T rfl ?_
 refine U.done (C.nx ?_)
 exact St.wk (C.next hm) (Wk.f [some 0] ⟨bX, trivial⟩)
 refine C.exit (C.ex (C.ex (C.bex ?_)))
 exact St.wk (hJ105 _ hm) (Wk.f [some 0] ⟨bX, trivial⟩)
 refine C.block ?_
 refine St.wk (C.loop (fun (s75 : Int) => [(1, .p 0 0), (7, .i s75)]) (fun (s75 : Int) => [(0, .box (eApiSite s_1))]) hm (fun s75 Y76 hm => ?_)) (Wk.f [some 0] ⟨bX, trivial⟩)
 refine C.seq (C.seq (U.start ?_))
 refine U.ps 5 T rfl ?_
 refine U.done (C.nx ?_)
 refine C.ite rfl hm (fun hb79 hm => ?_) (fun hb79 hm => ?_)
 refine C.skip (C.nx (C.seq (C.block (C.seq (U.start ?_)))))
 refine U.ps 3 T rfl ?_
 obtain ⟨x82, hx82, hm⟩ := hm
 refine U.r rfl (.none rfl) rfl rfl (by exact Rd.ix T rfl rfl rfl rfl rfl rfl hx82) ?_
 refine U.ps 1 T rfl ?_
 refine U.e1 rfl (.none rfl) (by exact Eff1.al T rfl rfl rfl rfl) ?_
 refine U.e1 rfl (.none rfl) (by exact Eff1.st T rfl rfl rfl rfl rfl rfl rfl rfl rfl rfl) ?_
 refine U.done (C.nx (C.seq (C.seq ?_)))
 refine C.jn (fun (x83 : Bool) => [(1, .p 0 0), (7, .i s75), (8, .p 1 0), (139, .b x83)]) (fun (x83 : Bool) => [(0, .box (eApiSite s_1)), (1, .box [.i x82.Cell, .i x82.Charge])]) 2 hm (fun x83 hm => ?_) (fun J84 hm hJ84 => ?_)
 refine C.nx ?_
 refine C.ite rfl hm (fun hb88 hm => ?_) (fun hb88 hm => ?_)
 refine C.seq (U.start ?_)
 refine U.ps 1 T rfl ?_
 refine U.done (C.nx (C.ret (C.rt (C.brt (C.rt (C.rt (C.brt (C.rt ?_))))))))
 exact C.f0 T (rs' := [.b false]) hβ ⟨false, hm, rfl, rfl, rfl⟩
 refine C.skip (C.nx (C.seq ?_))
 refine C.jn (fun (x91 : Bool) => [(1, .p 0 0), (7, .i s75), (156, .b x91)]) (fun (x91 : Bool) => [(0, .box (eApiSite s_1))]) 1 hm (fun x91 hm => ?_) (fun J92 hm hJ92 => ?_)
 refine C.nx ?_
 refine C.ite rfl hm (fun hb97 hm => ?_) (fun hb97 hm => ?_)
 refine C.seq (U.start ?_)
 refine U.ps 1 T rfl ?_
 refine U.done (C.nx (C.ret (C.brt (C.rt (C.rt (C.brt (C.rt ?_)))))))
 exact C.f0 T (rs' := [.b false]) hβ ⟨false, hm, rfl, rfl, rfl⟩
 refine C.skip (C.bnx (C.nx (U.start ?_)))
 refine U.ps 3 T rfl ?_
 refine U.done (C.nx ?_)
 exact St.wk (C.next hm) (Wk.f [some 0] ⟨bX, trivial⟩)
 refine D.beg 9999 [0, 1] [] mix rfl rfl (by kernel_rfl) (by repeat (first | exact NoPanicQ.body | exact NoPanicQ.rnd | refine NoPanicQ.th ?_ | refine NoPanicQ.blk ?_)) (fun hQ hS ws M' => ?_)
 refine D.ps 5 [(0, []), (1, []), (2, []), (3, []), (4, [])] rfl hQ hS T rfl rfl (by kernel_rfl) ?_
 obtain ⟨x93, hx93, hm⟩ := hm
 refine D.q 5 [] hQ hS rfl (.none rfl) rfl rfl (by exact Rd.ix T rfl rfl rfl rfl rfl rfl hx93) rfl (by kernel_rfl) ?_
 refine D.ps 3 [(6, []), (7, []), (8, [])] rfl hQ hS T rfl rfl (by kernel_rfl) ?_
 refine hm.cs (fun hb94 hm => ?_) (fun hb94 hm => ?_)
 refine D.sq 9 [] hQ hS rfl (.skip 8 false 148 _ hb94 rfl rfl rfl) rfl rfl (by kernel_rfl) ?_
 refine D.sq 10 [] hQ hS rfl (.skip 8 false 148 _ hb94 rfl rfl rfl) rfl rfl (by kernel_rfl) ?_
 refine D.sq 11 [] hQ hS rfl (.skip 8 false 148 _ hb94 rfl rfl rfl) rfl rfl (by kernel_rfl) ?_
 refine D.sq 12 [] hQ hS rfl (.skip 8 false 148 _ hb94 rfl rfl rfl) rfl rfl (by kernel_rfl) ?_
 refine D.sq 13 [] hQ hS rfl (.skip 8 false 148 _ hb94 rfl rfl rfl) rfl rfl (by kernel_rfl) ?_
 refine D.sq 14 [] hQ hS rfl (.skip 8 false 148 _ hb94 rfl rfl rfl) rfl rfl (by kernel_rfl) ?_
 refine D.sq 15 [] hQ hS rfl (.skip 8 false 148 _ hb94 rfl rfl rfl) rfl rfl (by kernel_rfl) ?_
 refine D.q 16 [] hQ hS rfl (.none rfl) rfl rfl (by exact Rd.pk rfl rfl hb94 rfl) rfl (by kernel_rfl) ?_
 refine D.done (by kernel_rfl) ?_
 exact St.wk (hJ92 _ hm) (Wk.f [some 0] ⟨bX, trivial⟩)
 refine D.q 9 [] hQ hS rfl (.take 8 false 148 _ hb94 rfl rfl rfl) rfl rfl (by exact Rd.p T rfl) rfl (by kernel_rfl) ?_
 refine D.q 10 [] hQ hS rfl (.take 8 false 148 _ hb94 rfl rfl rfl) rfl rfl (by exact Rd.l T rfl rfl rfl) rfl (by kernel_rfl) ?_
 refine D.q 11 [] hQ hS rfl (.take 8 false 148 _ hb94 rfl rfl rfl) rfl rfl (by exact Rd.p T rfl) rfl (by kernel_rfl) ?_
 obtain ⟨hx95, hm⟩ := hm
 refine D.q 12 [] hQ hS rfl (.take 8 false 148 _ hb94 rfl rfl rfl) rfl rfl (by exact Rd.so T rfl rfl rfl rfl rfl (.none _) (.some _ rfl) hx95) rfl (by kernel_rfl) ?_
 refine D.q 13 [] hQ hS rfl (.take 8 false 148 _ hb94 rfl rfl rfl) rfl rfl (by exact Rd.p T rfl) rfl (by kernel_rfl) ?_
 refine D.q 14 [] hQ hS rfl (.take 8 false 148 _ hb94 rfl rfl rfl) rfl rfl (by exact Rd.l T rfl rfl rfl) rfl (by kernel_rfl) ?_
 refine D.e 15 rfl (.take 8 false 148 _ hb94 rfl rfl rfl) (by exact Eff.k (T_taquinref11_robotAt (sub s_1.Robots 0 s75) x82.Cell _ hm) en39 rfl rfl rfl (.eq rfl) (fun _ _ => ⟨(.v _), trivial⟩)) (by kernel_rfl) rfl rfl (fun x96' hm => ?_)
 obtain ⟨x96⟩ := x96'
 refine D.q 16 [] hQ hS rfl (.none rfl) rfl rfl (by exact Rd.pk' rfl rfl hb94 rfl) rfl (by kernel_rfl) ?_
 refine D.done (by kernel_rfl) ?_
 exact St.wk (hJ92 _ hm) (Wk.f [some 0] ⟨bX, trivial⟩)
 refine U.start ?_
 refine U.ps 4 T rfl ?_
 refine U.e rfl (.none rfl) (by exact Eff.k (T_taquinref07_Is s_1.Floor x82.Cell _ hm) en36 rfl rfl rfl (.eq rfl) (fun _ _ => ⟨(.v _), trivial⟩)) (fun x85' hm => ?_)
 obtain ⟨x85⟩ := x85'
 refine U.ps 2 T rfl ?_
 refine hm.cs (fun hb86 hm => ?_) (fun hb86 hm => ?_)
 refine U.pg 3 6 false 130 (ntF hb86) T rfl rfl rfl rfl ?_
 refine U.r rfl (.none rfl) rfl rfl (by exact Rd.pk' rfl rfl (ntF hb86) rfl) ?_
 refine U.ps 1 T rfl ?_
 refine hm.cs (fun hb87 hm => ?_) (fun hb87 hm => ?_)
 refine U.sks 3 11 false 135 hb87 rfl rfl rfl ?_
 refine U.r rfl (.none rfl) rfl rfl (by exact Rd.pk rfl rfl hb87 rfl) ?_
 refine U.done ?_
 exact St.wk (hJ84 _ hm) (Wk.f [some 0, some 1] ⟨bX, bX, trivial⟩)
 refine U.pg 3 11 false 135 hb87 T rfl rfl rfl rfl ?_
 refine U.r rfl (.none rfl) rfl rfl (by exact Rd.pk' rfl rfl hb87 rfl) ?_
 refine U.done ?_
 exact St.wk (hJ84 _ hm) (Wk.f [some 0, some 1] ⟨bX, bX, trivial⟩)
 refine U.sks 3 6 false 130 (ntT hb86) rfl rfl rfl ?_
 refine U.r rfl (.none rfl) rfl rfl (by exact Rd.pk rfl rfl (ntT hb86) rfl) ?_
 refine U.ps 1 T rfl ?_
 refine U.sks 3 11 false 135 rfl rfl rfl rfl ?_
 refine U.r rfl (.none rfl) rfl rfl (by exact Rd.pk rfl rfl rfl rfl) ?_
 refine U.done ?_
 exact St.wk (hJ84 _ hm) (Wk.f [some 0, some 1] ⟨bX, bX, trivial⟩)
 refine C.exit (C.ex (C.ex (C.bex ?_)))
 exact St.wk (hJ74 _ hm) (Wk.f [some 0] ⟨bX, trivial⟩)
 refine C.block ?_
 refine St.wk (C.loop (fun (s42 : Int) => [(1, .p 0 0), (5, .i s42)]) (fun (s42 : Int) => [(0, .box (eApiSite s_1))]) hm (fun s42 Y43 hm => ?_)) (Wk.f [some 0] ⟨bX, trivial⟩)
 refine C.seq (C.seq (U.start ?_))
 refine U.ps 5 T rfl ?_
 refine U.done (C.nx ?_)
 refine C.ite rfl hm (fun hb46 hm => ?_) (fun hb46 hm => ?_)
 refine C.skip (C.nx (C.seq (C.block (C.seq (U.start ?_)))))
 refine U.ps 3 T rfl ?_
 obtain ⟨x49, hx49, hm⟩ := hm
 refine U.r rfl (.none rfl) rfl rfl (by exact Rd.ix T rfl rfl rfl rfl rfl rfl hx49) ?_
 refine U.ps 1 T rfl ?_
 refine U.e1 rfl (.none rfl) (by exact Eff1.al T rfl rfl rfl rfl) ?_
 refine U.e1 rfl (.none rfl) (by exact Eff1.st T rfl rfl rfl rfl rfl rfl rfl rfl rfl rfl) ?_
 refine U.done (C.nx (C.seq (C.seq ?_)))
 refine C.jn (fun (x50 : Bool) => [(1, .p 0 0), (5, .i s42), (6, .p 1 0), (92, .b x50)]) (fun (x50 : Bool) => [(0, .box (eApiSite s_1)), (1, .box [.i x49.Cell, .v (.string x49.Class)])]) 2 hm (fun x50 hm => ?_) (fun J51 hm hJ51 => ?_)
 refine C.nx ?_
 refine C.ite rfl hm (fun hb56 hm => ?_) (fun hb56 hm => ?_)
 refine C.seq (U.start ?_)
 refine U.ps 1 T rfl ?_
 refine U.done (C.nx (C.ret (C.rt (C.brt (C.rt (C.rt (C.brt (C.rt ?_))))))))
 exact C.f0 T (rs' := [.b false]) hβ ⟨false, hm, rfl, rfl, rfl⟩
 refine C.skip (C.nx (C.seq ?_))
 refine C.jn (fun (x59 : Bool) => [(1, .p 0 0), (5, .i s42), (111, .b x59)]) (fun (x59 : Bool) => [(0, .box (eApiSite s_1))]) 1 hm (fun x59 hm => ?_) (fun J60 hm hJ60 => ?_)
 refine C.nx ?_
 refine C.ite rfl hm (fun hb66 hm => ?_) (fun hb66 hm => ?_)
 refine C.seq (U.start ?_)
 refine U.ps 1 T rfl ?_
 refine U.done (C.nx (C.ret (C.brt (C.rt (C.rt (C.brt (C.rt ?_)))))))
 exact C.f0 T (rs' := [.b false]) hβ ⟨false, hm, rfl, rfl, rfl⟩
 refine C.skip (C.bnx (C.nx (U.start ?_)))
 refine U.ps 3 T rfl ?_
 refine U.done (C.nx ?_)
 exact St.wk (C.next hm) (Wk.f [some 0] ⟨bX, trivial⟩)
 refine D.beg 9999 [0, 1] [] mix rfl rfl (by kernel_rfl) (by repeat (first | exact NoPanicQ.body | exact NoPanicQ.rnd | refine NoPanicQ.th ?_ | refine NoPanicQ.blk ?_)) (fun hQ hS ws M' => ?_)
 refine D.ps 5 [(0, []), (1, []), (2, []), (3, []), (4, [])] rfl hQ hS T rfl rfl (by kernel_rfl) ?_
 obtain ⟨x61, hx61, hm⟩ := hm
 refine D.q 5 [] hQ hS rfl (.none rfl) rfl rfl (by exact Rd.ix T rfl rfl rfl rfl rfl rfl hx61) rfl (by kernel_rfl) ?_
 refine D.ps 1 [(6, [])] rfl hQ hS T rfl rfl (by kernel_rfl) ?_
 refine D.e 7 rfl (.none rfl) (by exact Eff.k (T_taquinref11_stands x61 _ hm) en37 rfl rfl rfl (.eq rfl) (fun _ _ => ⟨(.v _), trivial⟩)) (by kernel_rfl) rfl rfl (fun x62' hm => ?_)
 obtain ⟨x62⟩ := x62'
 refine D.ps 2 [(8, []), (9, [])] rfl hQ hS T rfl rfl (by kernel_rfl) ?_
 refine hm.cs (fun hb63 hm => ?_) (fun hb63 hm => ?_)
 refine D.q 10 [] hQ hS rfl (.take 9 false 102 _ (ntF hb63) rfl rfl rfl) rfl rfl (by exact Rd.p T rfl) rfl (by kernel_rfl) ?_
 refine D.q 11 [] hQ hS rfl (.take 9 false 102 _ (ntF hb63) rfl rfl rfl) rfl rfl (by exact Rd.l T rfl rfl rfl) rfl (by kernel_rfl) ?_
 refine D.q 12 [] hQ hS rfl (.take 9 false 102 _ (ntF hb63) rfl rfl rfl) rfl rfl (by exact Rd.p T rfl) rfl (by kernel_rfl) ?_
 obtain ⟨hx64, hm⟩ := hm
 refine D.q 13 [] hQ hS rfl (.take 9 false 102 _ (ntF hb63) rfl rfl rfl) rfl rfl (by exact Rd.so T rfl rfl rfl rfl rfl (.none _) (.some _ rfl) hx64) rfl (by kernel_rfl) ?_
 refine D.q 14 [] hQ hS rfl (.take 9 false 102 _ (ntF hb63) rfl rfl rfl) rfl rfl (by exact Rd.p T rfl) rfl (by kernel_rfl) ?_
 refine D.q 15 [] hQ hS rfl (.take 9 false 102 _ (ntF hb63) rfl rfl rfl) rfl rfl (by exact Rd.l T rfl rfl rfl) rfl (by kernel_rfl) ?_
 refine D.e 16 rfl (.take 9 false 102 _ (ntF hb63) rfl rfl rfl) (by exact Eff.k (T_taquinref11_shelfAt (sub s_1.Shelves 0 s42) x49.Cell _ hm) en38 rfl rfl rfl (.eq rfl) (fun _ _ => ⟨(.v _), trivial⟩)) (by kernel_rfl) rfl rfl (fun x65' hm => ?_)
 obtain ⟨x65⟩ := x65'
 refine D.q 17 [] hQ hS rfl (.take 9 false 102 _ (ntF hb63) rfl rfl rfl) rfl rfl (by exact Rd.p T rfl) rfl (by kernel_rfl) ?_
 refine D.q 18 [] hQ hS rfl (.none rfl) rfl rfl (by exact Rd.pk' rfl rfl (ntF hb63) rfl) rfl (by kernel_rfl) ?_
 refine D.done (by kernel_rfl) ?_
 exact St.wk (hJ60 _ hm) (Wk.f [some 0] ⟨bX, trivial⟩)
 refine D.sq 10 [] hQ hS rfl (.skip 9 false 102 _ (ntT hb63) rfl rfl rfl) rfl rfl (by kernel_rfl) ?_
 refine D.sq 11 [] hQ hS rfl (.skip 9 false 102 _ (ntT hb63) rfl rfl rfl) rfl rfl (by kernel_rfl) ?_
 refine D.sq 12 [] hQ hS rfl (.skip 9 false 102 _ (ntT hb63) rfl rfl rfl) rfl rfl (by kernel_rfl) ?_
 refine D.sq 13 [] hQ hS rfl (.skip 9 false 102 _ (ntT hb63) rfl rfl rfl) rfl rfl (by kernel_rfl) ?_
 refine D.sq 14 [] hQ hS rfl (.skip 9 false 102 _ (ntT hb63) rfl rfl rfl) rfl rfl (by kernel_rfl) ?_
 refine D.sq 15 [] hQ hS rfl (.skip 9 false 102 _ (ntT hb63) rfl rfl rfl) rfl rfl (by kernel_rfl) ?_
 refine D.sq 16 [] hQ hS rfl (.skip 9 false 102 _ (ntT hb63) rfl rfl rfl) rfl rfl (by kernel_rfl) ?_
 refine D.sq 17 [] hQ hS rfl (.skip 9 false 102 _ (ntT hb63) rfl rfl rfl) rfl rfl (by kernel_rfl) ?_
 refine D.q 18 [] hQ hS rfl (.none rfl) rfl rfl (by exact Rd.pk rfl rfl (ntT hb63) rfl) rfl (by kernel_rfl) ?_
 refine D.done (by kernel_rfl) ?_
 exact St.wk (hJ60 _ hm) (Wk.f [some 0] ⟨bX, trivial⟩)
 refine U.start ?_
 refine U.ps 4 T rfl ?_
 refine U.e rfl (.none rfl) (by exact Eff.k (T_taquinref07_Is s_1.Floor x49.Cell _ hm) en36 rfl rfl rfl (.eq rfl) (fun _ _ => ⟨(.v _), trivial⟩)) (fun x52' hm => ?_)
 obtain ⟨x52⟩ := x52'
 refine U.ps 2 T rfl ?_
 refine hm.cs (fun hb53 hm => ?_) (fun hb53 hm => ?_)
 refine U.pg 4 6 false 82 (ntF hb53) T rfl rfl rfl rfl ?_
 refine hm.cs (fun hb54 hm => ?_) (fun hb54 hm => ?_)
 refine U.sks 4 10 true 86 (ntF hb54) rfl rfl rfl ?_
 refine U.r rfl (.take 6 false 82 _ (ntF hb53) rfl rfl rfl) rfl rfl (by exact Rd.pk' rfl rfl (ntF hb54) rfl) ?_
 refine U.r rfl (.none rfl) rfl rfl (by exact Rd.pk' rfl rfl (ntF hb53) rfl) ?_
 refine U.done ?_
 exact St.wk (hJ51 _ hm) (Wk.f [some 0, some 1] ⟨bX, bX, trivial⟩)
 refine U.pg 2 10 true 86 (ntT hb54) T rfl rfl rfl rfl ?_
 refine U.e rfl (.take 10 true 86 _ (ntT hb54) rfl rfl rfl) (by exact Eff.k (T_taquinref11_Name x49.Class _ hm) en34 rfl rfl rfl (.eq rfl) (fun _ _ => ⟨(.v _), trivial⟩)) (fun x55' hm => ?_)
 obtain ⟨x55⟩ := x55'
 refine U.pg 1 10 true 86 (ntT hb54) T rfl rfl rfl rfl ?_
 refine U.r rfl (.take 6 false 82 _ (ntF hb53) rfl rfl rfl) rfl rfl (by exact Rd.pk rfl rfl (ntT hb54) rfl) ?_
 refine U.r rfl (.none rfl) rfl rfl (by exact Rd.pk' rfl rfl (ntF hb53) rfl) ?_
 refine U.done ?_
 exact St.wk (hJ51 _ hm) (Wk.f [some 0, some 1] ⟨bX, bX, trivial⟩)
 refine U.sks 4 6 false 82 (ntT hb53) rfl rfl rfl ?_
 refine U.sku 4 10 true 86 rfl rfl rfl ?_
 refine U.sks 1 6 false 82 (ntT hb53) rfl rfl rfl ?_
 refine U.r rfl (.none rfl) rfl rfl (by exact Rd.pk rfl rfl (ntT hb53) rfl) ?_
 refine U.done ?_
 exact St.wk (hJ51 _ hm) (Wk.f [some 0, some 1] ⟨bX, bX, trivial⟩)
 refine C.exit (C.ex (C.ex (C.bex ?_)))
 exact St.wk (hJ41 _ hm) (Wk.f [some 0] ⟨bX, trivial⟩)
 refine C.block ?_
 refine St.wk (C.loop (fun (s17 : Int) => [(1, .p 0 0), (3, .i s17)]) (fun (s17 : Int) => [(0, .box (eApiSite s_1))]) hm (fun s17 Y18 hm => ?_)) (Wk.f [some 0] ⟨bX, trivial⟩)
 refine C.seq (C.seq (U.start ?_))
 refine U.ps 5 T rfl ?_
 refine U.done (C.nx ?_)
 refine C.ite rfl hm (fun hb21 hm => ?_) (fun hb21 hm => ?_)
 refine C.skip (C.nx (C.seq (C.block (C.seq (U.start ?_)))))
 refine U.ps 3 T rfl ?_
 obtain ⟨x24, hx24, hm⟩ := hm
 refine U.r rfl (.none rfl) rfl rfl (by exact Rd.ix T rfl rfl rfl rfl rfl rfl hx24) ?_
 refine U.ps 1 T rfl ?_
 refine U.e1 rfl (.none rfl) (by exact Eff1.al T rfl rfl rfl rfl) ?_
 refine U.e1 rfl (.none rfl) (by exact Eff1.st T rfl rfl rfl rfl rfl rfl rfl rfl rfl rfl) ?_
 refine U.done (C.nx (C.seq ?_))
 refine C.jn (fun (x25 : Bool) => [(1, .p 0 0), (3, .i s17), (63, .b x25)]) (fun (x25 : Bool) => [(0, .box (eApiSite s_1))]) 1 hm (fun x25 hm => ?_) (fun J26 hm hJ26 => ?_)
 refine C.nx ?_
 refine C.ite rfl hm (fun hb33 hm => ?_) (fun hb33 hm => ?_)
 refine C.seq (U.start ?_)
 refine U.ps 1 T rfl ?_
 refine U.done (C.nx (C.ret (C.brt (C.rt (C.rt (C.brt (C.rt ?_)))))))
 exact C.f0 T (rs' := [.b false]) hβ ⟨false, hm, rfl, rfl, rfl⟩
 refine C.skip (C.bnx (C.nx (U.start ?_)))
 refine U.ps 3 T rfl ?_
 refine U.done (C.nx ?_)
 exact St.wk (C.next hm) (Wk.f [some 0] ⟨bX, trivial⟩)
 refine D.beg 9999 [0, 1] [] mix rfl rfl (by kernel_rfl) (by repeat (first | exact NoPanicQ.body | exact NoPanicQ.rnd | refine NoPanicQ.th ?_ | refine NoPanicQ.blk ?_)) (fun hQ hS ws M' => ?_)
 refine D.ps 2 [(0, []), (1, [])] rfl hQ hS T rfl rfl (by kernel_rfl) ?_
 refine D.e 2 rfl (.none rfl) (by exact Eff.k (T_taquinref11_Name x24.A _ hm) en34 rfl rfl rfl (.eq rfl) (fun _ _ => ⟨(.v _), trivial⟩)) (by kernel_rfl) rfl rfl (fun x27' hm => ?_)
 obtain ⟨x27⟩ := x27'
 refine D.ps 2 [(3, []), (4, [])] rfl hQ hS T rfl rfl (by kernel_rfl) ?_
 refine hm.cs (fun hb28 hm => ?_) (fun hb28 hm => ?_)
 refine D.q 5 [] hQ hS rfl (.take 4 false 47 _ (ntF hb28) rfl rfl rfl) rfl rfl (by exact Rd.p T rfl) rfl (by kernel_rfl) ?_
 refine D.q 6 [] hQ hS rfl (.take 4 false 47 _ (ntF hb28) rfl rfl rfl) rfl rfl (by exact Rd.l T rfl rfl rfl) rfl (by kernel_rfl) ?_
 refine D.e 7 rfl (.take 4 false 47 _ (ntF hb28) rfl rfl rfl) (by exact Eff.k (T_taquinref11_Name x24.B _ hm) en34 rfl rfl rfl (.eq rfl) (fun _ _ => ⟨(.v _), trivial⟩)) (by kernel_rfl) rfl rfl (fun x29' hm => ?_)
 obtain ⟨x29⟩ := x29'
 refine D.q 8 [] hQ hS rfl (.take 4 false 47 _ (ntF hb28) rfl rfl rfl) rfl rfl (by exact Rd.p T rfl) rfl (by kernel_rfl) ?_
 refine D.q 9 [] hQ hS rfl (.none rfl) rfl rfl (by exact Rd.pk' rfl rfl (ntF hb28) rfl) rfl (by kernel_rfl) ?_
 refine D.ps 1 [(10, [])] rfl hQ hS T rfl rfl (by kernel_rfl) ?_
 refine hm.cs (fun hb30 hm => ?_) (fun hb30 hm => ?_)
 refine D.q 11 [] hQ hS rfl (.take 10 false 53 _ (ntF hb30) rfl rfl rfl) rfl rfl (by exact Rd.p T rfl) rfl (by kernel_rfl) ?_
 refine D.q 12 [] hQ hS rfl (.take 10 false 53 _ (ntF hb30) rfl rfl rfl) rfl rfl (by exact Rd.l T rfl rfl rfl) rfl (by kernel_rfl) ?_
 refine D.q 13 [] hQ hS rfl (.take 10 false 53 _ (ntF hb30) rfl rfl rfl) rfl rfl (by exact Rd.p T rfl) rfl (by kernel_rfl) ?_
 obtain ⟨hx31, hm⟩ := hm
 refine D.q 14 [] hQ hS rfl (.take 10 false 53 _ (ntF hb30) rfl rfl rfl) rfl rfl (by exact Rd.so T rfl rfl rfl rfl rfl (.none _) (.some _ rfl) hx31) rfl (by kernel_rfl) ?_
 refine D.q 15 [] hQ hS rfl (.take 10 false 53 _ (ntF hb30) rfl rfl rfl) rfl rfl (by exact Rd.p T rfl) rfl (by kernel_rfl) ?_
 refine D.q 16 [] hQ hS rfl (.take 10 false 53 _ (ntF hb30) rfl rfl rfl) rfl rfl (by exact Rd.l T rfl rfl rfl) rfl (by kernel_rfl) ?_
 refine D.q 17 [] hQ hS rfl (.take 10 false 53 _ (ntF hb30) rfl rfl rfl) rfl rfl (by exact Rd.p T rfl) rfl (by kernel_rfl) ?_
 refine D.q 18 [] hQ hS rfl (.take 10 false 53 _ (ntF hb30) rfl rfl rfl) rfl rfl (by exact Rd.l T rfl rfl rfl) rfl (by kernel_rfl) ?_
 refine D.e 19 rfl (.take 10 false 53 _ (ntF hb30) rfl rfl rfl) (by exact Eff.k (T_taquinref11_Apart (sub s_1.Aparts 0 s17) x24.A x24.B _ hm) en35 rfl rfl rfl (.eq rfl) (fun _ _ => ⟨(.v _), trivial⟩)) (by kernel_rfl) rfl rfl (fun x32' hm => ?_)
 obtain ⟨x32⟩ := x32'
 refine D.q 20 [] hQ hS rfl (.none rfl) rfl rfl (by exact Rd.pk' rfl rfl (ntF hb30) rfl) rfl (by kernel_rfl) ?_
 refine D.done (by kernel_rfl) ?_
 exact St.wk (hJ26 _ hm) (Wk.f [some 0] ⟨bX, trivial⟩)
 refine D.sq 11 [] hQ hS rfl (.skip 10 false 53 _ (ntT hb30) rfl rfl rfl) rfl rfl (by kernel_rfl) ?_
 refine D.sq 12 [] hQ hS rfl (.skip 10 false 53 _ (ntT hb30) rfl rfl rfl) rfl rfl (by kernel_rfl) ?_
 refine D.sq 13 [] hQ hS rfl (.skip 10 false 53 _ (ntT hb30) rfl rfl rfl) rfl rfl (by kernel_rfl) ?_
 refine D.sq 14 [] hQ hS rfl (.skip 10 false 53 _ (ntT hb30) rfl rfl rfl) rfl rfl (by kernel_rfl) ?_
 refine D.sq 15 [] hQ hS rfl (.skip 10 false 53 _ (ntT hb30) rfl rfl rfl) rfl rfl (by kernel_rfl) ?_
 refine D.sq 16 [] hQ hS rfl (.skip 10 false 53 _ (ntT hb30) rfl rfl rfl) rfl rfl (by kernel_rfl) ?_
 refine D.sq 17 [] hQ hS rfl (.skip 10 false 53 _ (ntT hb30) rfl rfl rfl) rfl rfl (by kernel_rfl) ?_
 refine D.sq 18 [] hQ hS rfl (.skip 10 false 53 _ (ntT hb30) rfl rfl rfl) rfl rfl (by kernel_rfl) ?_
 refine D.sq 19 [] hQ hS rfl (.skip 10 false 53 _ (ntT hb30) rfl rfl rfl) rfl rfl (by kernel_rfl) ?_
 refine D.q 20 [] hQ hS rfl (.none rfl) rfl rfl (by exact Rd.pk rfl rfl (ntT hb30) rfl) rfl (by kernel_rfl) ?_
 refine D.done (by kernel_rfl) ?_
 exact St.wk (hJ26 _ hm) (Wk.f [some 0] ⟨bX, trivial⟩)
 refine D.sq 5 [] hQ hS rfl (.skip 4 false 47 _ (ntT hb28) rfl rfl rfl) rfl rfl (by kernel_rfl) ?_
 refine D.sq 6 [] hQ hS rfl (.skip 4 false 47 _ (ntT hb28) rfl rfl rfl) rfl rfl (by kernel_rfl) ?_
 refine D.sq 7 [] hQ hS rfl (.skip 4 false 47 _ (ntT hb28) rfl rfl rfl) rfl rfl (by kernel_rfl) ?_
 refine D.sq 8 [] hQ hS rfl (.skip 4 false 47 _ (ntT hb28) rfl rfl rfl) rfl rfl (by kernel_rfl) ?_
 refine D.q 9 [] hQ hS rfl (.none rfl) rfl rfl (by exact Rd.pk rfl rfl (ntT hb28) rfl) rfl (by kernel_rfl) ?_
 refine D.ps 1 [(10, [])] rfl hQ hS T rfl rfl (by kernel_rfl) ?_
 refine D.sq 11 [] hQ hS rfl (.skip 10 false 53 _ rfl rfl rfl rfl) rfl rfl (by kernel_rfl) ?_
 refine D.sq 12 [] hQ hS rfl (.skip 10 false 53 _ rfl rfl rfl rfl) rfl rfl (by kernel_rfl) ?_
 refine D.sq 13 [] hQ hS rfl (.skip 10 false 53 _ rfl rfl rfl rfl) rfl rfl (by kernel_rfl) ?_
 refine D.sq 14 [] hQ hS rfl (.skip 10 false 53 _ rfl rfl rfl rfl) rfl rfl (by kernel_rfl) ?_
 refine D.sq 15 [] hQ hS rfl (.skip 10 false 53 _ rfl rfl rfl rfl) rfl rfl (by kernel_rfl) ?_
 refine D.sq 16 [] hQ hS rfl (.skip 10 false 53 _ rfl rfl rfl rfl) rfl rfl (by kernel_rfl) ?_
 refine D.sq 17 [] hQ hS rfl (.skip 10 false 53 _ rfl rfl rfl rfl) rfl rfl (by kernel_rfl) ?_
 refine D.sq 18 [] hQ hS rfl (.skip 10 false 53 _ rfl rfl rfl rfl) rfl rfl (by kernel_rfl) ?_
 refine D.sq 19 [] hQ hS rfl (.skip 10 false 53 _ rfl rfl rfl rfl) rfl rfl (by kernel_rfl) ?_
 refine D.q 20 [] hQ hS rfl (.none rfl) rfl rfl (by exact Rd.pk rfl rfl rfl rfl) rfl (by kernel_rfl) ?_
 refine D.done (by kernel_rfl) ?_
 exact St.wk (hJ26 _ hm) (Wk.f [some 0] ⟨bX, trivial⟩)
 refine C.exit (C.ex (C.ex (C.bex ?_)))
 exact St.wk (hJ16 _ hm) (Wk.f [some 0] ⟨bX, trivial⟩)
 refine U.start ?_
 refine U.ps 2 T rfl ?_
 refine U.e rfl (.none rfl) (by exact Eff.k (T_taquinref07_Right s_1.Floor _ hm) en32 rfl rfl rfl (.eq rfl) (fun _ _ => ⟨(.v _), trivial⟩)) (fun x5' hm => ?_)
 obtain ⟨x5⟩ := x5'
 refine U.ps 2 T rfl ?_
 refine hm.cs (fun hb6 hm => ?_) (fun hb6 hm => ?_)
 refine U.pg 1 4 false 14 (ntF hb6) T rfl rfl rfl rfl ?_
 refine U.e rfl (.take 4 false 14 _ (ntF hb6) rfl rfl rfl) (by exact Eff.k (T_taquinref11_rightZones s_1 _ hm) en33 rfl rfl rfl (.eq rfl) (fun _ _ => ⟨(.v _), trivial⟩)) (fun x7' hm => ?_)
 obtain ⟨x7⟩ := x7'
 refine U.pg 1 4 false 14 (ntF hb6) T rfl rfl rfl rfl ?_
 refine U.r rfl (.none rfl) rfl rfl (by exact Rd.pk' rfl rfl (ntF hb6) rfl) ?_
 refine U.ps 1 T rfl ?_
 refine hm.cs (fun hb8 hm => ?_) (fun hb8 hm => ?_)
 refine U.pg 4 9 false 19 (ntF hb8) T rfl rfl rfl rfl ?_
 refine U.r rfl (.none rfl) rfl rfl (by exact Rd.pk' rfl rfl (ntF hb8) rfl) ?_
 refine U.ps 1 T rfl ?_
 refine hm.cs (fun hb9 hm => ?_) (fun hb9 hm => ?_)
 refine U.sks 4 15 false 25 hb9 rfl rfl rfl ?_
 refine U.r rfl (.none rfl) rfl rfl (by exact Rd.pk rfl rfl hb9 rfl) ?_
 refine U.done ?_
 exact St.wk (hJ4 _ hm) (Wk.f [some 0] ⟨bX, trivial⟩)
 refine U.pg 4 15 false 25 hb9 T rfl rfl rfl rfl ?_
 refine U.r rfl (.none rfl) rfl rfl (by exact Rd.pk' rfl rfl hb9 rfl) ?_
 refine U.done ?_
 exact St.wk (hJ4 _ hm) (Wk.f [some 0] ⟨bX, trivial⟩)
 refine U.sks 4 9 false 19 (ntT hb8) rfl rfl rfl ?_
 refine U.r rfl (.none rfl) rfl rfl (by exact Rd.pk rfl rfl (ntT hb8) rfl) ?_
 refine U.ps 1 T rfl ?_
 refine U.sks 4 15 false 25 rfl rfl rfl rfl ?_
 refine U.r rfl (.none rfl) rfl rfl (by exact Rd.pk rfl rfl rfl rfl) ?_
 refine U.done ?_
 exact St.wk (hJ4 _ hm) (Wk.f [some 0] ⟨bX, trivial⟩)
 refine U.sks 3 4 false 14 (ntT hb6) rfl rfl rfl ?_
 refine U.r rfl (.none rfl) rfl rfl (by exact Rd.pk rfl rfl (ntT hb6) rfl) ?_
 refine U.ps 1 T rfl ?_
 refine U.sks 4 9 false 19 rfl rfl rfl rfl ?_
 refine U.r rfl (.none rfl) rfl rfl (by exact Rd.pk rfl rfl rfl rfl) ?_
 refine U.ps 1 T rfl ?_
 refine U.sks 4 15 false 25 rfl rfl rfl rfl ?_
 refine U.r rfl (.none rfl) rfl rfl (by exact Rd.pk rfl rfl rfl rfl) ?_
 refine U.done ?_
 exact St.wk (hJ4 _ hm) (Wk.f [some 0] ⟨bX, trivial⟩)
theorem T_taquinlaw23_fair (s_1 : ApiSite) (taken : List ApiTaken) (avoid : List Int) (post : Bool → Prop) (hm : V_taquinlaw23_fair s_1 taken avoid post) :
    Tr Tryz.prog 5 [.agg (eApiSite s_1), .sl 3 eApiTaken taken, .sl 1 eI avoid] [] 0 (fun A H' k => ∃ y, post y ∧ A = (.b y) ∧ H' = [] ∧ k = 0) := by
 refine Tr.intro (n := 42) Tryz.func5 rfl Tryz.ntmps5 rfl (fun w0 ok F β hβ => ?_)
 unfold V_taquinlaw23_fair at hm
 refine C.seq (U.start ?_)
 refine U.e1 rfl (.none rfl) (by exact Eff1.box rfl rfl rfl rfl rfl) ?_
 refine U.ps 1 T rfl ?_
 refine U.done (C.nx (C.seq (C.seq (U.start ?_))))
 refine U.ps 1 T rfl ?_
 refine U.done (C.nx ?_)
 refine C.jn (fun (x5 : Unit) => [(1, .sl 3 eApiTaken taken), (2, .sl 1 eI avoid), (3, .p 0 0)]) (fun (x5 : Unit) => [(0, .box (eApiSite s_1))]) 1 hm (fun x5 hm => ?_) (fun J6 hm hJ6 => ?_)
 refine C.nx (C.seq ?_)
 refine C.jn (fun (x21 : Bool) => [(6, .b x21)]) (fun (x21 : Bool) => []) 0 hm (fun x21 hm => ?_) (fun J22 hm hJ22 => ?_)
 refine C.nx (C.ret ?_)
 exact C.f0 T (rs' := [.b x21]) hβ ⟨x21, hm, rfl, rfl, rfl⟩
 refine U.start ?_
 refine U.ps 1 T rfl ?_
 refine U.e rfl (.none rfl) (by exact Eff.k (T_taquinref11_Few s_1 50 20 _ hm) en12 rfl rfl rfl (.eq rfl) (fun _ _ => ⟨(.v _), trivial⟩)) (fun x23' hm => ?_)
 obtain ⟨x23⟩ := x23'
 refine U.ps 1 T rfl ?_
 refine hm.cs (fun hb24 hm => ?_) (fun hb24 hm => ?_)
 refine U.pg 1 2 true 28 hb24 T rfl rfl rfl rfl ?_
 refine U.e rfl (.take 2 true 28 _ hb24 rfl rfl rfl) (by exact Eff.k (T_taquinref11_Right s_1 _ hm) en13 rfl rfl rfl (.eq rfl) (fun _ _ => ⟨(.v _), trivial⟩)) (fun x25' hm => ?_)
 obtain ⟨x25⟩ := x25'
 refine U.r rfl (.none rfl) rfl rfl (by exact Rd.pk rfl rfl hb24 rfl) ?_
 refine U.ps 1 T rfl ?_
 refine hm.cs (fun hb26 hm => ?_) (fun hb26 hm => ?_)
 refine U.pg 3 6 true 32 hb26 T rfl rfl rfl rfl ?_
 refine U.r rfl (.none rfl) rfl rfl (by exact Rd.pk rfl rfl hb26 rfl) ?_
 refine U.ps 1 T rfl ?_
 refine hm.cs (fun hb27 hm => ?_) (fun hb27 hm => ?_)
 refine U.pg 3 11 true 37 hb27 T rfl rfl rfl rfl ?_
 refine U.r rfl (.none rfl) rfl rfl (by exact Rd.pk rfl rfl hb27 rfl) ?_
 refine U.ps 1 T rfl ?_
 refine U.done ?_
 exact St.wk (hJ22 _ hm) (Wk.e)
 refine U.sks 3 11 true 37 hb27 rfl rfl rfl ?_
 refine U.r rfl (.none rfl) rfl rfl (by exact Rd.pk' rfl rfl hb27 rfl) ?_
 refine U.ps 1 T rfl ?_
 refine U.done ?_
 exact St.wk (hJ22 _ hm) (Wk.e)
 refine U.sks 3 6 true 32 hb26 rfl rfl rfl ?_
 refine U.r rfl (.none rfl) rfl rfl (by exact Rd.pk' rfl rfl hb26 rfl) ?_
 refine U.ps 1 T rfl ?_
 refine U.sks 3 11 true 37 rfl rfl rfl rfl ?_
 refine U.r rfl (.none rfl) rfl rfl (by exact Rd.pk' rfl rfl rfl rfl) ?_
 refine U.ps 1 T rfl ?_
 refine U.done ?_
 exact St.wk (hJ22 _ hm) (Wk.e)
 refine U.sks 2 2 true 28 hb24 rfl rfl rfl ?_
 refine U.r rfl (.none rfl) rfl rfl (by exact Rd.pk' rfl rfl hb24 rfl) ?_
 refine U.ps 1 T rfl ?_
 refine U.sks 3 6 true 32 rfl rfl rfl rfl ?_
 refine U.r rfl (.none rfl) rfl rfl (by exact Rd.pk' rfl rfl rfl rfl) ?_
 refine U.ps 1 T rfl ?_
 refine U.sks 3 11 true 37 rfl rfl rfl rfl ?_
 refine U.r rfl (.none rfl) rfl rfl (by exact Rd.pk' rfl rfl rfl rfl) ?_
 refine U.ps 1 T rfl ?_
 refine U.done ?_
 exact St.wk (hJ22 _ hm) (Wk.e)
 refine C.block ?_
 refine St.wk (C.loop (fun (s7 : Int) => [(1, .sl 3 eApiTaken taken), (2, .sl 1 eI avoid), (3, .p 0 0), (7, .i s7)]) (fun (s7 : Int) => [(0, .box (eApiSite s_1))]) hm (fun s7 Y8 hm => ?_)) (Wk.f [some 0] ⟨bX, trivial⟩)
 refine C.seq (C.seq ?_)
 refine C.jn (fun (x9 : Bool) => [(1, .sl 3 eApiTaken taken), (2, .sl 1 eI avoid), (3, .p 0 0), (7, .i s7), (16, .b x9)]) (fun (x9 : Bool) => [(0, .box (eApiSite s_1))]) 1 hm (fun x9 hm => ?_) (fun J10 hm hJ10 => ?_)
 refine C.nx ?_
 refine C.ite rfl hm (fun hb12 hm => ?_) (fun hb12 hm => ?_)
 refine C.skip (C.nx (C.seq (C.block (C.seq (U.start ?_)))))
 refine U.ps 3 T rfl ?_
 obtain ⟨x15, hx15, hm⟩ := hm
 refine U.r rfl (.none rfl) rfl rfl (by exact Rd.ix T rfl rfl rfl rfl rfl rfl hx15) ?_
 refine U.ps 3 T rfl ?_
 refine U.done (C.nx ?_)
 refine C.ite rfl hm (fun hb16 hm => ?_) (fun hb16 hm => ?_)
 refine C.seq (U.start ?_)
 refine U.ps 1 T rfl ?_
 refine U.done (C.nx (C.ret (C.brt (C.rt (C.rt (C.brt (C.rt ?_)))))))
 exact C.f0 T (rs' := [.b false]) hβ ⟨false, hm, rfl, rfl, rfl⟩
 refine C.skip (C.bnx (C.nx (U.start ?_)))
 refine U.ps 3 T rfl ?_
 refine U.done (C.nx ?_)
 exact St.wk (C.next hm) (Wk.f [some 0] ⟨bX, trivial⟩)
 refine C.exit (C.ex (C.ex (C.bex ?_)))
 exact St.wk (hJ6 _ hm) (Wk.f [some 0] ⟨bX, trivial⟩)
 refine U.start ?_
 refine U.ps 6 T rfl ?_
 refine hm.cs (fun hb11 hm => ?_) (fun hb11 hm => ?_)
 refine U.pg 2 5 true 13 hb11 T rfl rfl rfl rfl ?_
 refine U.r rfl (.none rfl) rfl rfl (by exact Rd.pk rfl rfl hb11 rfl) ?_
 refine U.done ?_
 exact St.wk (hJ10 _ hm) (Wk.f [some 0] ⟨bX, trivial⟩)
 refine U.sks 2 5 true 13 hb11 rfl rfl rfl ?_
 refine U.r rfl (.none rfl) rfl rfl (by exact Rd.pk' rfl rfl hb11 rfl) ?_
 refine U.done ?_
 exact St.wk (hJ10 _ hm) (Wk.f [some 0] ⟨bX, trivial⟩)
theorem T_act_direction (act : Int) (post : (Int × Bool) → Prop) (hm : V_act_direction act post) :
    Tr Tryz.prog 18 [.i act] [] 0 (fun A H' k => ∃ y, post y ∧ A = (.tup [.i y.1, .b y.2]) ∧ H' = [] ∧ k = 0) := by
 refine Tr.intro (n := 14) Tryz.func18 rfl Tryz.ntmps18 rfl (fun w0 ok F β hβ => ?_)
 unfold V_act_direction at hm
 refine C.seq (U.start ?_)
 refine U.ps 2 T rfl ?_
 refine U.done (C.nx (C.seq (U.start ?_)))
 refine U.ps 3 T rfl ?_
 refine U.done (C.nx (C.seq ?_))
 refine C.jn (fun (x5 : Bool) => [(2, .i (w64 (act - 1))), (3, .b x5)]) (fun (x5 : Bool) => []) 0 hm (fun x5 hm => ?_) (fun J6 hm hJ6 => ?_)
 refine C.nx (C.ret ?_)
 exact C.f0 T (rs' := [.i ((w64 (act - 1), x5).1), .b ((w64 (act - 1), x5).2)]) hβ ⟨(w64 (act - 1), x5), hm, rfl, rfl, rfl⟩
 refine U.start ?_
 refine U.ps 4 T rfl ?_
 refine hm.cs (fun hb7 hm => ?_) (fun hb7 hm => ?_)
 refine U.pg 2 3 true 10 hb7 T rfl rfl rfl rfl ?_
 refine U.r rfl (.none rfl) rfl rfl (by exact Rd.pk rfl rfl hb7 rfl) ?_
 refine U.ps 2 T rfl ?_
 refine U.done ?_
 exact St.wk (hJ6 _ hm) (Wk.e)
 refine U.sks 2 3 true 10 hb7 rfl rfl rfl ?_
 refine U.r rfl (.none rfl) rfl rfl (by exact Rd.pk' rfl rfl hb7 rfl) ?_
 refine U.ps 2 T rfl ?_
 refine U.done ?_
 exact St.wk (hJ6 _ hm) (Wk.e)
theorem T_battery_isCharge (n : Int) (post : Bool → Prop) (hm : V_battery_isCharge n post) :
    Tr Tryz.prog 43 [.i n] [] 0 (fun A H' k => ∃ y, post y ∧ A = (.b y) ∧ H' = [] ∧ k = 0) := by
 refine Tr.intro (n := 9) Tryz.func43 rfl Tryz.ntmps43 rfl (fun w0 ok F β hβ => ?_)
 unfold V_battery_isCharge at hm
 refine C.seq (U.start ?_)
 refine U.ps 1 T rfl ?_
 refine U.done (C.nx (C.seq ?_))
 refine C.jn (fun (x3 : Bool) => [(2, .b x3)]) (fun (x3 : Bool) => []) 0 hm (fun x3 hm => ?_) (fun J4 hm hJ4 => ?_)
 refine C.nx (C.ret ?_)
 exact C.f0 T (rs' := [.b x3]) hβ ⟨x3, hm, rfl, rfl, rfl⟩
 refine U.start ?_
 refine U.ps 3 T rfl ?_
 refine hm.cs (fun hb5 hm => ?_) (fun hb5 hm => ?_)
 refine U.pg 2 2 true 5 hb5 T rfl rfl rfl rfl ?_
 refine U.r rfl (.none rfl) rfl rfl (by exact Rd.pk rfl rfl hb5 rfl) ?_
 refine U.ps 1 T rfl ?_
 refine U.done ?_
 exact St.wk (hJ4 _ hm) (Wk.e)
 refine U.sks 2 2 true 5 hb5 rfl rfl rfl ?_
 refine U.r rfl (.none rfl) rfl rfl (by exact Rd.pk' rfl rfl hb5 rfl) ?_
 refine U.ps 1 T rfl ?_
 refine U.done ?_
 exact St.wk (hJ4 _ hm) (Wk.e)
theorem T_battery_Base (act : Int) (laden : Bool) (post : Int → Prop) (hm : V_battery_Base act laden post) :
    Tr Tryz.prog 74 [.i act, .b laden] [] 0 (fun A H' k => ∃ y, post y ∧ A = (.i y) ∧ H' = [] ∧ k = 0) := by
 refine Tr.intro (n := 31) Tryz.func74 rfl Tryz.ntmps74 rfl (fun w0 ok F β hβ => ?_)
 unfold V_battery_Base at hm
 refine C.seq (U.start ?_)
 refine U.ps 1 T rfl ?_
 refine U.done (C.nx (C.seq (C.seq (U.start ?_))))
 refine U.ps 1 T rfl ?_
 refine U.done (C.nx (C.block (C.seq (C.seq (U.start ?_)))))
 refine U.ps 2 T rfl ?_
 refine U.done (C.nx ?_)
 refine C.jn (fun (x7 : Bool) => [(0, .i act), (1, .b laden), (6, .i act), (7, .b x7)]) (fun (x7 : Bool) => []) 0 hm (fun x7 hm => ?_) (fun J8 hm hJ8 => ?_)
 refine C.nx ?_
 refine C.ite rfl hm (fun hb12 hm => ?_) (fun hb12 hm => ?_)
 refine C.seq (U.start ?_)
 refine U.ps 1 T rfl ?_
 refine U.done (C.nx (C.ret (C.brt (C.rt ?_))))
 exact C.f0 T (rs' := [.i 1]) hβ ⟨1, hm, rfl, rfl, rfl⟩
 refine C.seq (U.start ?_)
 refine U.ps 2 T rfl ?_
 refine U.done (C.nx ?_)
 refine C.ite rfl hm (fun hb17 hm => ?_) (fun hb17 hm => ?_)
 refine C.seq (U.start ?_)
 refine U.ps 1 T rfl ?_
 refine U.done (C.nx (C.ret (C.brt (C.rt ?_))))
 exact C.f0 T (rs' := [.i 3]) hβ ⟨3, hm, rfl, rfl, rfl⟩
 refine C.skip (C.bnx (C.nx (C.seq (U.start ?_))))
 refine U.ps 1 T rfl ?_
 refine U.done (C.nx (C.seq (C.seq (U.start ?_))))
 refine U.ps 2 T rfl ?_
 refine U.done (C.nx (C.block (C.seq (C.seq (U.start ?_)))))
 refine U.ps 2 T rfl ?_
 refine U.done (C.nx ?_)
 refine C.jn (fun (x26 : Bool) => [(1, .b laden), (5, .i 0), (13, .i (w64 (act - 1))), (14, .b x26)]) (fun (x26 : Bool) => []) 0 hm (fun x26 hm => ?_) (fun J27 hm hJ27 => ?_)
 refine C.nx ?_
 refine C.jn (fun (x41 : Int) => [(1, .b laden), (5, .i x41)]) (fun (x41 : Int) => []) 0 hm (fun x41 hm => ?_) (fun J42 hm hJ42 => ?_)
 refine C.bnx (C.nx (C.seq (C.seq ?_)))
 refine C.jn (fun (x60 : Bool) => [(5, .i x41), (27, .b x60)]) (fun (x60 : Bool) => []) 0 hm (fun x60 hm => ?_) (fun J61 hm hJ61 => ?_)
 refine C.nx ?_
 refine C.jn (fun (x63 : Int) => [(5, .i x63)]) (fun (x63 : Int) => []) 0 hm (fun x63 hm => ?_) (fun J64 hm hJ64 => ?_)
 refine C.nx (C.seq (U.start ?_))
 refine U.ps 2 T rfl ?_
 refine U.done (C.nx (C.ret ?_))
 exact C.f0 T (rs' := [.i x63]) hβ ⟨x63, hm, rfl, rfl, rfl⟩
 refine C.ite rfl hm (fun hb65 hm => ?_) (fun hb65 hm => ?_)
 refine U.start ?_
 refine U.ps 3 T rfl ?_
 refine U.done ?_
 exact St.wk (hJ64 _ hm) (Wk.e)
 refine C.skip ?_
 exact St.wk (hJ64 _ hm) (Wk.e)
 refine U.start ?_
 refine U.ps 3 T rfl ?_
 refine hm.cs (fun hb62 hm => ?_) (fun hb62 hm => ?_)
 refine U.pg 1 2 true 25 hb62 T rfl rfl rfl rfl ?_
 refine U.r rfl (.none rfl) rfl rfl (by exact Rd.pk rfl rfl hb62 rfl) ?_
 refine U.done ?_
 exact St.wk (hJ61 _ hm) (Wk.e)
 refine U.sks 1 2 true 25 hb62 rfl rfl rfl ?_
 refine U.r rfl (.none rfl) rfl rfl (by exact Rd.pk' rfl rfl hb62 rfl) ?_
 refine U.done ?_
 exact St.wk (hJ61 _ hm) (Wk.e)
 refine C.ite rfl hm (fun hb43 hm => ?_) (fun hb43 hm => ?_)
 refine U.start ?_
 refine U.ps 1 T rfl ?_
 refine U.done ?_
 exact St.wk (hJ42 _ hm) (Wk.e)
 refine C.seq (U.start ?_)
 refine U.ps 2 T rfl ?_
 refine U.done (C.nx ?_)
 refine C.jn (fun (x48 : Int) => [(1, .b laden), (5, .i x48)]) (fun (x48 : Int) => []) 0 hm (fun x48 hm => ?_) (fun J49 hm hJ49 => ?_)
 exact St.wk (hJ42 _ hm) (Wk.e)
 refine C.ite rfl hm (fun hb50 hm => ?_) (fun hb50 hm => ?_)
 refine U.start ?_
 refine U.ps 1 T rfl ?_
 refine U.done ?_
 exact St.wk (hJ49 _ hm) (Wk.e)
 refine C.seq (U.start ?_)
 refine U.ps 2 T rfl ?_
 refine U.done (C.nx ?_)
 refine C.jn (fun (x55 : Int) => [(1, .b laden), (5, .i x55)]) (fun (x55 : Int) => []) 0 hm (fun x55 hm => ?_) (fun J56 hm hJ56 => ?_)
 exact St.wk (hJ49 _ hm) (Wk.e)
 refine C.ite rfl hm (fun hb57 hm => ?_) (fun hb57 hm => ?_)
 refine U.start ?_
 refine U.ps 1 T rfl ?_
 refine U.done ?_
 exact St.wk (hJ56 _ hm) (Wk.e)
 refine C.skip ?_
 exact St.wk (hJ56 _ hm) (Wk.e)
 refine C.ite rfl hm (fun hb28 hm => ?_) (fun hb28 hm => ?_)
 refine C.skip ?_
 exact St.wk (hJ27 _ hm) (Wk.e)
 refine C.seq (U.start ?_)
 refine U.ps 2 T rfl ?_
 refine U.done (C.nx ?_)
 refine C.jn (fun (x31 : Bool) => [(1, .b laden), (5, .i 0), (13, .i (w64 (act - 1))), (14, .b x31)]) (fun (x31 : Bool) => []) 0 hm (fun x31 hm => ?_) (fun J32 hm hJ32 => ?_)
 exact St.wk (hJ27 _ hm) (Wk.e)
 refine C.ite rfl hm (fun hb33 hm => ?_) (fun hb33 hm => ?_)
 refine C.skip ?_
 exact St.wk (hJ32 _ hm) (Wk.e)
 refine C.seq (U.start ?_)
 refine U.ps 2 T rfl ?_
 refine U.done (C.nx ?_)
 refine C.jn (fun (x36 : Bool) => [(1, .b laden), (5, .i 0), (13, .i (w64 (act - 1))), (14, .b x36)]) (fun (x36 : Bool) => []) 0 hm (fun x36 hm => ?_) (fun J37 hm hJ37 => ?_)
 exact St.wk (hJ32 _ hm) (Wk.e)
 refine C.ite rfl hm (fun hb38 hm => ?_) (fun hb38 hm => ?_)
 refine C.skip ?_
 exact St.wk (hJ37 _ hm) (Wk.e)
 refine U.start ?_
 refine U.ps 2 T rfl ?_
 refine U.done ?_
 exact St.wk (hJ37 _ hm) (Wk.e)
 refine C.ite rfl hm (fun hb9 hm => ?_) (fun hb9 hm => ?_)
 refine C.skip ?_
 exact St.wk (hJ8 _ hm) (Wk.e)
 refine U.start ?_
 refine U.ps 2 T rfl ?_
 refine U.done ?_
 exact St.wk (hJ8 _ hm) (Wk.e)
theorem T_battery_Cost (tick : Int) (act : Int) (laden : Bool) (post : Int → Prop) (hm : V_battery_Cost tick act laden post) :
    Tr Tryz.prog 45 [.i tick, .i act, .b laden] [] 0 (fun A H' k => ∃ y, post y ∧ A = (.i y) ∧ H' = [] ∧ k = 0) := by
 refine Tr.intro (n := 20) Tryz.func45 rfl Tryz.ntmps45 rfl (fun w0 ok F β hβ => ?_)
 unfold V_battery_Cost at hm
 refine C.seq (U.start ?_)
 refine U.ps 1 T rfl ?_
 refine U.done (C.nx (C.seq (U.start ?_)))
 refine U.ps 3 T rfl ?_
 refine U.r rfl (.none rfl) rfl rfl (by exact Rd.dv rfl rfl rfl rfl (by decide)) ?_
 refine U.ps 1 T rfl ?_
 refine U.done (C.nx (C.seq (U.start ?_)))
 refine U.ps 2 T rfl ?_
 refine U.e rfl (.none rfl) (by exact Eff.k (T_battery_Base act laden _ hm) en74 rfl rfl rfl (.eq rfl) (fun _ _ => ⟨(.v _), trivial⟩)) (fun x8' hm => ?_)
 obtain ⟨x8⟩ := x8'
 refine U.ps 4 T rfl ?_
 refine U.r rfl (.none rfl) rfl rfl (by exact Rd.dv rfl rfl rfl rfl (by decide)) ?_
 refine U.ps 1 T rfl ?_
 refine U.done (C.nx (C.ret ?_))
 exact C.f0 T (rs' := [.i (w64 ((w64 ((w64 (x8 * (w64 (10 + (w64 ((imin (imax tick 0) 20000).tdiv 1000)))))) + 9)).tdiv 10))]) hβ ⟨w64 ((w64 ((w64 (x8 * (w64 (10 + (w64 ((imin (imax tick 0) 20000).tdiv 1000)))))) + 9)).tdiv 10), hm, rfl, rfl, rfl⟩
theorem T_battery_Spend (charge : Int) (cost : Int) (post : (Int × Int) → Prop) (hm : V_battery_Spend charge cost post) :
    Tr Tryz.prog 44 [.i charge, .i cost] [] 0 (fun A H' k => ∃ y, post y ∧ A = (.tup [.i y.1, .i y.2]) ∧ H' = [] ∧ k = 0) := by
 refine Tr.intro (n := 23) Tryz.func44 rfl Tryz.ntmps44 rfl (fun w0 ok F β hβ => ?_)
 unfold V_battery_Spend at hm
 refine C.seq (U.start ?_)
 refine U.ps 2 T rfl ?_
 refine U.done (C.nx (C.seq (C.block (C.seq ?_))))
 refine C.jn (fun (x3 : Bool) => [(0, .i charge), (1, .i cost), (6, .b x3)]) (fun (x3 : Bool) => []) 0 hm (fun x3 hm => ?_) (fun J4 hm hJ4 => ?_)
 refine C.nx ?_
 refine C.ite rfl hm (fun hb7 hm => ?_) (fun hb7 hm => ?_)
 refine C.seq (U.start ?_)
 refine U.ps 3 T rfl ?_
 refine U.done (C.nx (C.ret (C.brt (C.rt ?_))))
 exact C.f0 T (rs' := [.i ((charge, 1).1), .i ((charge, 1).2)]) hβ ⟨(charge, 1), hm, rfl, rfl, rfl⟩
 refine C.seq (U.start ?_)
 refine U.ps 4 T rfl ?_
 refine U.done (C.nx ?_)
 refine C.ite rfl hm (fun hb12 hm => ?_) (fun hb12 hm => ?_)
 refine C.seq (U.start ?_)
 refine U.ps 3 T rfl ?_
 refine U.done (C.nx (C.ret (C.brt (C.rt ?_))))
 exact C.f0 T (rs' := [.i ((charge, 16).1), .i ((charge, 16).2)]) hβ ⟨(charge, 16), hm, rfl, rfl, rfl⟩
 refine C.skip (C.bnx (C.nx (C.seq (U.start ?_))))
 refine U.ps 5 T rfl ?_
 refine U.done (C.nx (C.ret ?_))
 exact C.f0 T (rs' := [.i ((w64 (charge - cost), 0).1), .i ((w64 (charge - cost), 0).2)]) hβ ⟨(w64 (charge - cost), 0), hm, rfl, rfl, rfl⟩
 refine U.start ?_
 refine U.ps 1 T rfl ?_
 refine U.e rfl (.none rfl) (by exact Eff.k (T_battery_isCharge charge _ hm) en43 rfl rfl rfl (.eq rfl) (fun _ _ => ⟨(.v _), trivial⟩)) (fun x5' hm => ?_)
 obtain ⟨x5⟩ := x5'
 refine U.ps 2 T rfl ?_
 refine hm.cs (fun hb6 hm => ?_) (fun hb6 hm => ?_)
 refine U.pg 2 3 false 10 (ntF hb6) T rfl rfl rfl rfl ?_
 refine U.r rfl (.none rfl) rfl rfl (by exact Rd.pk' rfl rfl (ntF hb6) rfl) ?_
 refine U.ps 1 T rfl ?_
 refine U.done ?_
 exact St.wk (hJ4 _ hm) (Wk.e)
 refine U.sks 2 3 false 10 (ntT hb6) rfl rfl rfl ?_
 refine U.r rfl (.none rfl) rfl rfl (by exact Rd.pk rfl rfl (ntT hb6) rfl) ?_
 refine U.ps 1 T rfl ?_
 refine U.done ?_
 exact St.wk (hJ4 _ hm) (Wk.e)
theorem T_battery_After (tick : Int) (charge : Int) (act : Int) (laden : Bool) (post : (Int × Int) → Prop) (hm : V_battery_After tick charge act laden post) :
    Tr Tryz.prog 19 [.i tick, .i charge, .i act, .b laden] [] 0 (fun A H' k => ∃ y, post y ∧ A = (.tup [.i y.1, .i y.2]) ∧ H' = [] ∧ k = 0) := by
 refine Tr.intro (n := 37) Tryz.func19 rfl Tryz.ntmps19 rfl (fun w0 ok F β hβ => ?_)
 unfold V_battery_After at hm
 refine C.seq (U.start ?_)
 refine U.ps 2 T rfl ?_
 refine U.done (C.nx (C.seq (C.block (C.seq ?_))))
 refine C.jn (fun (x3 : Bool) => [(0, .i tick), (1, .i charge), (2, .i act), (3, .b laden), (10, .b x3)]) (fun (x3 : Bool) => []) 0 hm (fun x3 hm => ?_) (fun J4 hm hJ4 => ?_)
 refine C.nx ?_
 refine C.ite rfl hm (fun hb8 hm => ?_) (fun hb8 hm => ?_)
 refine C.seq (U.start ?_)
 refine U.ps 3 T rfl ?_
 refine U.done (C.nx (C.ret (C.brt (C.rt ?_))))
 exact C.f0 T (rs' := [.i ((charge, 1).1), .i ((charge, 1).2)]) hβ ⟨(charge, 1), hm, rfl, rfl, rfl⟩
 refine C.seq (U.start ?_)
 refine U.ps 3 T rfl ?_
 refine U.done (C.nx ?_)
 refine C.ite rfl hm (fun hb13 hm => ?_) (fun hb13 hm => ?_)
 refine C.seq (U.start ?_)
 refine U.ps 5 T rfl ?_
 refine U.done (C.nx (C.ret (C.brt (C.rt ?_))))
 exact C.f0 T (rs' := [.i ((imin (w64 (charge + 20)) 1000000, 0).1), .i ((imin (w64 (charge + 20)) 1000000, 0).2)]) hβ ⟨(imin (w64 (charge + 20)) 1000000, 0), hm, rfl, rfl, rfl⟩
 refine C.skip (C.bnx (C.nx (C.seq (U.start ?_))))
 refine U.ps 4 T rfl ?_
 refine U.e rfl (.none rfl) (by exact Eff.k (T_battery_Cost tick act laden _ hm) en45 rfl rfl rfl (.eq rfl) (fun _ _ => ⟨(.v _), trivial⟩)) (fun x18' hm => ?_)
 obtain ⟨x18⟩ := x18'
 refine U.e rfl (.none rfl) (by exact Eff.k (T_battery_Spend charge x18 _ hm) en44 rfl rfl rfl (.eq rfl) (fun _ _ => ⟨(.tup (.cons (.v _) (.cons (.v _) .nil))), trivial⟩)) (fun x19' hm => ?_)
 obtain ⟨x19⟩ := x19'
 refine U.ps 4 T rfl ?_
 refine U.done (C.nx (C.ret ?_))
 exact C.f0 T (rs' := [.i ((x19.1, x19.2).1), .i ((x19.1, x19.2).2)]) hβ ⟨(x19.1, x19.2), hm, rfl, rfl, rfl⟩
 refine U.start ?_
 refine U.ps 1 T rfl ?_
 refine U.e rfl (.none rfl) (by exact Eff.k (T_battery_isCharge charge _ hm) en43 rfl rfl rfl (.eq rfl) (fun _ _ => ⟨(.v _), trivial⟩)) (fun x5' hm => ?_)
 obtain ⟨x5⟩ := x5'
 refine U.ps 2 T rfl ?_
 refine hm.cs (fun hb6 hm => ?_) (fun hb6 hm => ?_)
 refine U.pg 2 3 false 14 (ntF hb6) T rfl rfl rfl rfl ?_
 refine U.r rfl (.none rfl) rfl rfl (by exact Rd.pk' rfl rfl (ntF hb6) rfl) ?_
 refine U.ps 1 T rfl ?_
 refine hm.cs (fun hb7 hm => ?_) (fun hb7 hm => ?_)
 refine U.sks 2 7 false 18 hb7 rfl rfl rfl ?_
 refine U.r rfl (.none rfl) rfl rfl (by exact Rd.pk rfl rfl hb7 rfl) ?_
 refine U.ps 1 T rfl ?_
 refine U.done ?_
 exact St.wk (hJ4 _ hm) (Wk.e)
 refine U.pg 2 7 false 18 hb7 T rfl rfl rfl rfl ?_
 refine U.r rfl (.none rfl) rfl rfl (by exact Rd.pk' rfl rfl hb7 rfl) ?_
 refine U.ps 1 T rfl ?_
 refine U.done ?_
 exact St.wk (hJ4 _ hm) (Wk.e)
 refine U.sks 2 3 false 14 (ntT hb6) rfl rfl rfl ?_
 refine U.r rfl (.none rfl) rfl rfl (by exact Rd.pk rfl rfl (ntT hb6) rfl) ?_
 refine U.ps 1 T rfl ?_
 refine U.sks 2 7 false 18 rfl rfl rfl rfl ?_
 refine U.r rfl (.none rfl) rfl rfl (by exact Rd.pk rfl rfl rfl rfl) ?_
 refine U.ps 1 T rfl ?_
 refine U.done ?_
 exact St.wk (hJ4 _ hm) (Wk.e)
theorem T_act_move_1 (x_1 : ApiStuck) (c0 : ApiRobot) (c1 : Int) (post : Bool → Prop) (hm : V_act_move_1 x_1 c0 c1 post) :
    Tr Tryz.prog 47 [.agg [.i x_1.Cell, .i x_1.Left], .rp [.i c0.Cell, .i c0.Load, .i c0.Charge, .i c0.Rest, .i c0.Mute, .b c0.Dead], .rp [.i c1]] [] 0 (fun A H' k => ∃ y, post y ∧ A = (.b y) ∧ H' = [] ∧ k = 0) := by
 refine Tr.intro (n := 16) Tryz.func47 rfl Tryz.ntmps47 rfl (fun w0 ok F β hβ => ?_)
 unfold V_act_move_1 at hm
 refine C.seq (U.start ?_)
 refine U.e1 rfl (.none rfl) (by exact Eff1.box rfl rfl rfl rfl rfl) ?_
 refine U.ps 1 T rfl ?_
 refine U.done (C.nx (C.seq ?_))
 refine C.jn (fun (x3 : Bool) => [(4, .b x3)]) (fun (x3 : Bool) => []) 0 hm (fun x3 hm => ?_) (fun J4 hm hJ4 => ?_)
 refine C.nx (C.ret ?_)
 exact C.f0 T (rs' := [.b x3]) hβ ⟨x3, hm, rfl, rfl, rfl⟩
 refine U.start ?_
 refine U.ps 6 T rfl ?_
 refine hm.cs (fun hb5 hm => ?_) (fun hb5 hm => ?_)
 refine U.sks 4 5 false 10 hb5 rfl rfl rfl ?_
 refine U.r rfl (.none rfl) rfl rfl (by exact Rd.pk rfl rfl hb5 rfl) ?_
 refine U.ps 1 T rfl ?_
 refine U.done ?_
 exact St.wk (hJ4 _ hm) (Wk.e)
 refine U.pg 4 5 false 10 hb5 T rfl rfl rfl rfl ?_
 refine U.r rfl (.none rfl) rfl rfl (by exact Rd.pk' rfl rfl hb5 rfl) ?_
 refine U.ps 1 T rfl ?_
 refine U.done ?_
 exact St.wk (hJ4 _ hm) (Wk.e)
theorem T_slices_IndexFunc_api_Stuck_api_Stuck__act_move_1 (s_1 : List ApiStuck) (f_c0 : ApiRobot) (f_c1 : Int) (post : Int → Prop) (hm : V_slices_IndexFunc_api_Stuck_api_Stuck__act_move_1 s_1 f_c0 f_c1 post) :
    Tr Tryz.prog 76 [.sl 2 eApiStuck s_1, .fn (.func 47) [] [.rp [.i f_c0.Cell, .i f_c0.Load, .i f_c0.Charge, .i f_c0.Rest, .i f_c0.Mute, .b f_c0.Dead], .rp [.i f_c1]]] [] 0 (fun A H' k => ∃ y, post y ∧ A = (.i y) ∧ H' = [] ∧ k = 0) := by
 refine Tr.intro (n := 19) Tryz.func76 rfl Tryz.ntmps76 rfl (fun w0 ok F β hβ => ?_)
 unfold V_slices_IndexFunc_api_Stuck_api_Stuck__act_move_1 at hm
 refine C.seq (U.start ?_)
 refine U.ps 1 T rfl ?_
 refine U.done (C.nx (C.seq (C.seq (U.start ?_))))
 refine U.ps 3 T rfl ?_
 refine U.done (C.nx ?_)
 refine C.jn (fun (x5 : Unit) => []) (fun (x5 : Unit) => []) 0 hm (fun x5 hm => ?_) (fun J6 hm hJ6 => ?_)
 refine C.nx (C.seq (U.start ?_))
 refine U.ps 1 T rfl ?_
 refine U.done (C.nx (C.ret ?_))
 exact C.f0 T (rs' := [.i (-1)]) hβ ⟨(-1), hm, rfl, rfl, rfl⟩
 refine C.block ?_
 refine St.wk (C.loop (fun (s7 : Int) => [(0, .sl 2 eApiStuck s_1), (1, .fn (.func 47) [] [.rp [.i f_c0.Cell, .i f_c0.Load, .i f_c0.Charge, .i f_c0.Rest, .i f_c0.Mute, .b f_c0.Dead], .rp [.i f_c1]]), (7, .i (s_1.length : Int)), (8, .i s7)]) (fun (s7 : Int) => []) hm (fun s7 Y8 hm => ?_)) (Wk.e)
 refine C.seq (U.start ?_)
 refine U.ps 1 T rfl ?_
 refine U.done (C.nx (C.seq ?_))
 refine C.ite rfl hm (fun hb11 hm => ?_) (fun hb11 hm => ?_)
 refine C.skip (C.nx (C.seq (C.block (C.seq (U.start ?_)))))
 refine U.ps 2 T rfl ?_
 refine U.done (C.nx (C.seq (U.start ?_)))
 refine U.ps 3 T rfl ?_
 obtain ⟨x16, hx16, hm⟩ := hm
 refine U.r rfl (.none rfl) rfl rfl (by exact Rd.ix T rfl rfl rfl rfl rfl rfl hx16) ?_
 refine U.ps 1 T rfl ?_
 refine U.e rfl (.none rfl) (by exact Eff.k (T_act_move_1 x16 f_c0 f_c1 _ hm) en47 rfl rfl rfl (.eq rfl) (fun _ _ => ⟨(.v _), trivial⟩)) (fun x17' hm => ?_)
 obtain ⟨x17⟩ := x17'
 refine U.done (C.nx ?_)
 refine C.ite rfl hm (fun hb18 hm => ?_) (fun hb18 hm => ?_)
 refine C.seq (U.start ?_)
 refine U.ps 2 T rfl ?_
 refine U.done (C.nx (C.ret (C.brt (C.rt (C.rt (C.brt (C.rt ?_)))))))
 exact C.f0 T (rs' := [.i s7]) hβ ⟨s7, hm, rfl, rfl, rfl⟩
 refine C.skip (C.bnx (C.nx (U.start ?_)))
 refine U.ps 2 T rfl ?_
 refine U.done (C.nx ?_)
 exact St.wk (C.next hm) (Wk.e)
 refine C.exit (C.ex (C.ex (C.bex ?_)))
 exact St.wk (hJ6 _ hm) (Wk.mk' [] rfl rfl trivial trivial rfl)
theorem T_slices_ContainsFunc_api_Stuck_api_Stuck__act_move_1 (s_1 : List ApiStuck) (f_c0 : ApiRobot) (f_c1 : Int) (post : Bool → Prop) (hm : V_slices_ContainsFunc_api_Stuck_api_Stuck__act_move_1 s_1 f_c0 f_c1 post) :
    Tr Tryz.prog 48 [.sl 2 eApiStuck s_1, .fn (.func 47) [] [.rp [.i f_c0.Cell, .i f_c0.Load, .i f_c0.Charge, .i f_c0.Rest, .i f_c0.Mute, .b f_c0.Dead], .rp [.i f_c1]]] [] 0 (fun A H' k => ∃ y, post y ∧ A = (.b y) ∧ H' = [] ∧ k = 0) := by
 refine Tr.intro (n := 9) Tryz.func48 rfl Tryz.ntmps48 rfl (fun w0 ok F β hβ => ?_)
 unfold V_slices_ContainsFunc_api_Stuck_api_Stuck__act_move_1 at hm
 refine C.seq (U.start ?_)
 refine U.ps 1 T rfl ?_
 refine U.done (C.nx (C.seq (U.start ?_)))
 refine U.ps 2 T rfl ?_
 refine U.e rfl (.none rfl) (by exact Eff.k (T_slices_IndexFunc_api_Stuck_api_Stuck__act_move_1 s_1 f_c0 f_c1 _ hm) en76 rfl rfl rfl (.eq rfl) (fun _ _ => ⟨(.v _), trivial⟩)) (fun x5' hm => ?_)
 obtain ⟨x5⟩ := x5'
 refine U.ps 2 T rfl ?_
 refine U.done (C.nx (C.ret ?_))
 exact C.f0 T (rs' := [.b (decide (x5 ≥ 0))]) hβ ⟨decide (x5 ≥ 0), hm, rfl, rfl, rfl⟩
theorem T_body_Low (c : Int) (post : Int → Prop) (hm : V_body_Low c post) :
    Tr Tryz.prog 51 [.i c] [] 0 (fun A H' k => ∃ y, post y ∧ A = (.i y) ∧ H' = [] ∧ k = 0) := by
 refine Tr.intro (n := 5) Tryz.func51 rfl Tryz.ntmps51 rfl (fun w0 ok F β hβ => ?_)
 unfold V_body_Low at hm
 refine C.seq (U.start ?_)
 refine U.ps 1 T rfl ?_
 refine U.done (C.nx (C.seq (U.start ?_)))
 refine U.ps 3 T rfl ?_
 refine U.done (C.nx (C.ret ?_))
 exact C.f0 T (rs' := [.i (w64 (2 * c))]) hβ ⟨w64 (2 * c), hm, rfl, rfl, rfl⟩
theorem T_body_High (c : Int) (post : Int → Prop) (hm : V_body_High c post) :
    Tr Tryz.prog 52 [.i c] [] 0 (fun A H' k => ∃ y, post y ∧ A = (.i y) ∧ H' = [] ∧ k = 0) := by
 refine Tr.intro (n := 6) Tryz.func52 rfl Tryz.ntmps52 rfl (fun w0 ok F β hβ => ?_)
 unfold V_body_High at hm
 refine C.seq (U.start ?_)
 refine U.ps 1 T rfl ?_
 refine U.done (C.nx (C.seq (U.start ?_)))
 refine U.ps 4 T rfl ?_
 refine U.done (C.nx (C.ret ?_))
 exact C.f0 T (rs' := [.i (w64 ((w64 (2 * c)) + 1))]) hβ ⟨w64 ((w64 (2 * c)) + 1), hm, rfl, rfl, rfl⟩
theorem T_body_at (r : ApiRobot) (c : Int) (post : (List Int) → Prop) (hm : V_body_at r c post) :
    Tr Tryz.prog 104 [.agg (eApiRobot r), .i c] [] 0 (fun A H' k => ∃ y, post y ∧ A = (.o 0) ∧ H' = [(0, .val (.os 1 eI y))] ∧ k = 1) := by
 refine Tr.intro (n := 16) Tryz.func104 rfl Tryz.ntmps104 rfl (fun w0 ok F β hβ => ?_)
 unfold V_body_at at hm
 refine C.seq (U.start ?_)
 refine U.e1 rfl (.none rfl) (by exact Eff1.box rfl rfl rfl rfl rfl) ?_
 refine U.ps 1 T rfl ?_
 refine U.done (C.nx (C.seq (C.seq (U.start ?_))))
 refine U.ps 3 T rfl ?_
 refine U.done (C.nx ?_)
 refine C.ite rfl hm (fun hb5 hm => ?_) (fun hb5 hm => ?_)
 refine C.seq (U.start ?_)
 refine U.ps 1 T rfl ?_
 refine U.e rfl (.none rfl) (by exact Eff.k (T_body_Low c _ hm) en51 rfl rfl rfl (.eq rfl) (fun _ _ => ⟨(.v _), trivial⟩)) (fun x8' hm => ?_)
 obtain ⟨x8⟩ := x8'
 refine U.ps 1 T rfl ?_
 refine U.e rfl (.none rfl) (by exact Eff.k (T_body_High c _ hm) en52 rfl rfl rfl (.eq rfl) (fun _ _ => ⟨(.v _), trivial⟩)) (fun x9' hm => ?_)
 obtain ⟨x9⟩ := x9'
 refine U.e1 rfl (.none rfl) (by exact Eff1.bs T (enc := eI) (xs := ([x8, x9] : List Int)) rfl rfl rfl rfl rfl rfl rfl rfl rfl rfl (fun _ _ => rfl) rfl rfl) ?_
 refine U.ps 1 T rfl ?_
 refine U.done (C.nx (C.ret (C.rt ?_)))
 exact C.fin T (rs' := [.o 0]) (H' := [(0, .val (.os 1 eI ([x8, x9] : List Int)))]) (nl' := 1) [some 1] rfl rfl (.eq rfl) ⟨vL, trivial⟩ rfl rfl rfl rfl hβ ⟨([x8, x9] : List Int), hm, rfl, rfl, rfl⟩
 refine C.skip (C.nx (C.seq (U.start ?_)))
 refine U.ps 1 T rfl ?_
 refine U.e rfl (.none rfl) (by exact Eff.k (T_body_Low c _ hm) en51 rfl rfl rfl (.eq rfl) (fun _ _ => ⟨(.v _), trivial⟩)) (fun x12' hm => ?_)
 obtain ⟨x12⟩ := x12'
 refine U.e1 rfl (.none rfl) (by exact Eff1.bs T (enc := eI) (xs := ([x12] : List Int)) rfl rfl rfl rfl rfl rfl rfl rfl rfl rfl (fun _ _ => rfl) rfl rfl) ?_
 refine U.ps 1 T rfl ?_
 refine U.done (C.nx (C.ret ?_))
 exact C.fin T (rs' := [.o 0]) (H' := [(0, .val (.os 1 eI ([x12] : List Int)))]) (nl' := 1) [some 1] rfl rfl (.eq rfl) ⟨vL, trivial⟩ rfl rfl rfl rfl hβ ⟨([x12] : List Int), hm, rfl, rfl, rfl⟩
theorem T_body_Robot (st : ApiState) (i : Int) (post : (List Int) → Prop) (hm : V_body_Robot st i post) :
    Tr Tryz.prog 95 [.agg (eApiState st), .i i] [] 0 (fun A H' k => ∃ y, post y ∧ A = (.o 0) ∧ H' = [(0, .val (.os 1 eI y))] ∧ k = 1) := by
 refine Tr.intro (n := 26) Tryz.func95 rfl Tryz.ntmps95 rfl (fun w0 ok F β hβ => ?_)
 unfold V_body_Robot at hm
 refine C.seq (U.start ?_)
 refine U.e1 rfl (.none rfl) (by exact Eff1.box rfl rfl rfl rfl rfl) ?_
 refine U.ps 1 T rfl ?_
 refine U.done (C.nx (C.seq (C.seq ?_)))
 refine C.jn (fun (x3 : Bool) => [(1, .i i), (2, .p 0 0), (13, .b x3)]) (fun (x3 : Bool) => [(0, .box (eApiState st))]) 1 hm (fun x3 hm => ?_) (fun J4 hm hJ4 => ?_)
 refine C.nx ?_
 refine C.ite rfl hm (fun hb6 hm => ?_) (fun hb6 hm => ?_)
 refine C.seq (U.start ?_)
 refine U.ps 1 T rfl ?_
 refine U.done (C.nx (C.ret (C.rt ?_)))
 exact C.fin T (rs' := [.o 0]) (H' := [(0, .val (.os 1 eI []))]) (nl' := 1) [none] rfl rfl (.cons (.nilO _ _ ⟨rfl, rfl⟩ rfl) .nil) ⟨⟨_, rfl, .nil _ _⟩, trivial⟩ rfl rfl rfl rfl hβ ⟨[], hm, rfl, rfl, rfl⟩
 refine C.skip (C.nx (C.seq ?_))
 refine D.beg 9999 [0] [] mix rfl rfl (by kernel_rfl) (by repeat (first | exact NoPanicQ.body | exact NoPanicQ.rnd | refine NoPanicQ.th ?_ | refine NoPanicQ.blk ?_)) (fun hQ hS ws M' => ?_)
 refine D.ps 3 [(0, []), (1, []), (2, [])] rfl hQ hS T rfl rfl (by kernel_rfl) ?_
 obtain ⟨x11, hx11, hm⟩ := hm
 refine D.q 3 [] hQ hS rfl (.none rfl) rfl rfl (by exact Rd.ix T rfl rfl rfl rfl rfl rfl hx11) rfl (by kernel_rfl) ?_
 refine D.ps 4 [(4, []), (5, []), (6, []), (7, [])] rfl hQ hS T rfl rfl (by kernel_rfl) ?_
 refine D.q 8 [] hQ hS rfl (.none rfl) rfl rfl (by exact Rd.ix T rfl rfl rfl rfl rfl rfl hx11) rfl (by kernel_rfl) ?_
 refine D.ps 2 [(9, []), (10, [])] rfl hQ hS T rfl rfl (by kernel_rfl) ?_
 refine D.e 11 rfl (.none rfl) (by exact Eff.c [] (v := true) (T_body_at x11 x11.Cell _ hm) en104 rfl rfl rfl (.eq rfl) trivial rfl rfl rfl rfl rfl rfl (fun _ _ => ⟨(.o _), ⟨.val (.os _ _ _ fun _ => (.cons (.v _) .nil)), trivial⟩⟩) (.inr ⟨rfl, rfl⟩) (fun _ => rfl) (fun _ => rfl) rfl) (by kernel_rfl) rfl rfl (fun x12' hm => ?_)
 obtain ⟨x12⟩ := x12'
 refine D.ps 1 [(12, [])] rfl hQ hS T rfl rfl (by kernel_rfl) ?_
 refine D.done (by kernel_rfl) ?_
 refine C.nx (C.ret ?_)
 exact C.fin T (rs' := [.o 0]) (H' := [(0, .val (.os 1 eI x12))]) (nl' := 1) [some 1] rfl rfl (.eq rfl) ⟨vL, trivial⟩ rfl rfl rfl rfl hβ ⟨x12, hm, rfl, rfl, rfl⟩
 refine U.start ?_
 refine U.ps 3 T rfl ?_
 refine hm.cs (fun hb5 hm => ?_) (fun hb5 hm => ?_)
 refine U.sks 5 2 false 7 hb5 rfl rfl rfl ?_
 refine U.r rfl (.none rfl) rfl rfl (by exact Rd.pk rfl rfl hb5 rfl) ?_
 refine U.done ?_
 exact St.wk (hJ4 _ hm) (Wk.f [some 0] ⟨bX, trivial⟩)
 refine U.pg 5 2 false 7 hb5 T rfl rfl rfl rfl ?_
 refine U.r rfl (.none rfl) rfl rfl (by exact Rd.pk' rfl rfl hb5 rfl) ?_
 refine U.done ?_
 exact St.wk (hJ4 _ hm) (Wk.f [some 0] ⟨bX, trivial⟩)
theorem T_body_Carrier_1 (r : ApiRobot) (c0 : Int) (post : Bool → Prop) (hm : V_body_Carrier_1 r c0 post) :
    Tr Tryz.prog 117 [.agg (eApiRobot r), .rp [.i c0]] [] 0 (fun A H' k => ∃ y, post y ∧ A = (.b y) ∧ H' = [] ∧ k = 0) := by
 refine Tr.intro (n := 8) Tryz.func117 rfl Tryz.ntmps117 rfl (fun w0 ok F β hβ => ?_)
 unfold V_body_Carrier_1 at hm
 refine C.seq (U.start ?_)
 refine U.e1 rfl (.none rfl) (by exact Eff1.box rfl rfl rfl rfl rfl) ?_
 refine U.ps 1 T rfl ?_
 refine U.done (C.nx (C.seq (U.start ?_)))
 refine U.ps 5 T rfl ?_
 refine U.done (C.nx (C.ret ?_))
 exact C.f0 T (rs' := [.b (r.Load == c0)]) hβ ⟨(r.Load == c0), hm, rfl, rfl, rfl⟩
theorem T_slices_IndexFunc_api_Robot_api_Robot__body_Carrier_1 (s_1 : List ApiRobot) (f_c0 : Int) (post : Int → Prop) (hm : V_slices_IndexFunc_api_Robot_api_Robot__body_Carrier_1 s_1 f_c0 post) :
    Tr Tryz.prog 82 [.sl 6 eApiRobot s_1, .fn (.func 117) [] [.rp [.i f_c0]]] [] 0 (fun A H' k => ∃ y, post y ∧ A = (.i y) ∧ H' = [] ∧ k = 0) := by
 refine Tr.intro (n := 19) Tryz.func82 rfl Tryz.ntmps82 rfl (fun w0 ok F β hβ => ?_)
 unfold V_slices_IndexFunc_api_Robot_api_Robot__body_Carrier_1 at hm
 refine C.seq (U.start ?_)
 refine U.ps 1 T rfl ?_
 refine U.done (C.nx (C.seq (C.seq (U.start ?_))))
 refine U.ps 3 T rfl ?_
 refine U.done (C.nx ?_)
 refine C.jn (fun (x5 : Unit) => []) (fun (x5 : Unit) => []) 0 hm (fun x5 hm => ?_) (fun J6 hm hJ6 => ?_)
 refine C.nx (C.seq (U.start ?_))
 refine U.ps 1 T rfl ?_
 refine U.done (C.nx (C.ret ?_))
 exact C.f0 T (rs' := [.i (-1)]) hβ ⟨(-1), hm, rfl, rfl, rfl⟩
 refine C.block ?_
 refine St.wk (C.loop (fun (s7 : Int) => [(0, .sl 6 eApiRobot s_1), (1, .fn (.func 117) [] [.rp [.i f_c0]]), (7, .i (s_1.length : Int)), (8, .i s7)]) (fun (s7 : Int) => []) hm (fun s7 Y8 hm => ?_)) (Wk.e)
 refine C.seq (U.start ?_)
 refine U.ps 1 T rfl ?_
 refine U.done (C.nx (C.seq ?_))
 refine C.ite rfl hm (fun hb11 hm => ?_) (fun hb11 hm => ?_)
 refine C.skip (C.nx (C.seq (C.block (C.seq (U.start ?_)))))
 refine U.ps 2 T rfl ?_
 refine U.done (C.nx (C.seq (U.start ?_)))
 refine U.ps 3 T rfl ?_
 obtain ⟨x16, hx16, hm⟩ := hm
 refine U.r rfl (.none rfl) rfl rfl (by exact Rd.ix T rfl rfl rfl rfl rfl rfl hx16) ?_
 refine U.ps 1 T rfl ?_
 refine U.e rfl (.none rfl) (by exact Eff.k (T_body_Carrier_1 x16 f_c0 _ hm) en117 rfl rfl rfl (.eq rfl) (fun _ _ => ⟨(.v _), trivial⟩)) (fun x17' hm => ?_)
 obtain ⟨x17⟩ := x17'
 refine U.done (C.nx ?_)
 refine C.ite rfl hm (fun hb18 hm => ?_) (fun hb18 hm => ?_)
 refine C.seq (U.start ?_)
 refine U.ps 2 T rfl ?_
 refine U.done (C.nx (C.ret (C.brt (C.rt (C.rt (C.brt (C.rt ?_)))))))
 exact C.f0 T (rs' := [.i s7]) hβ ⟨s7, hm, rfl, rfl, rfl⟩
 refine C.skip (C.bnx (C.nx (U.start ?_)))
 refine U.ps 2 T rfl ?_
 refine U.done (C.nx ?_)
 exact St.wk (C.next hm) (Wk.e)
 refine C.exit (C.ex (C.ex (C.bex ?_)))
 exact St.wk (hJ6 _ hm) (Wk.mk' [] rfl rfl trivial trivial rfl)
theorem T_body_Carrier (st : ApiState) (shelf : Int) (post : Int → Prop) (hm : V_body_Carrier st shelf post) :
    Tr Tryz.prog 105 [.agg (eApiState st), .i shelf] [] 0 (fun A H' k => ∃ y, post y ∧ A = (.i y) ∧ H' = [] ∧ k = 0) := by
 refine Tr.intro (n := 11) Tryz.func105 rfl Tryz.ntmps105 rfl (fun w0 ok F β hβ => ?_)
 unfold V_body_Carrier at hm
 refine C.seq (U.start ?_)
 refine U.e1 rfl (.none rfl) (by exact Eff1.box rfl rfl rfl rfl rfl) ?_
 refine U.e1 rfl (.none rfl) (by exact Eff1.box rfl rfl rfl rfl rfl) ?_
 refine U.ps 1 T rfl ?_
 refine U.done (C.nx (C.seq (C.seq (U.start ?_))))
 refine U.ps 2 T rfl ?_
 refine U.done (C.nx ?_)
 refine C.ite rfl hm (fun hb5 hm => ?_) (fun hb5 hm => ?_)
 refine C.seq (U.start ?_)
 refine U.ps 1 T rfl ?_
 refine U.done (C.nx (C.ret (C.rt ?_)))
 exact C.f0 T (rs' := [.i (-1)]) hβ ⟨(-1), hm, rfl, rfl, rfl⟩
 refine C.skip (C.nx (C.seq (U.start ?_)))
 refine U.ps 3 T rfl ?_
 refine U.e rfl (.none rfl) (by exact Eff.k (T_slices_IndexFunc_api_Robot_api_Robot__body_Carrier_1 st.Robots shelf _ hm) en82 rfl rfl rfl (.cons (.eq rfl) (.cons (.fn (.eq rfl) (.cons (.fzp rfl rfl rfl rfl (.eq rfl) rfl) .nil)) .nil)) (fun _ _ => ⟨(.v _), trivial⟩)) (fun x10' hm => ?_)
 obtain ⟨x10⟩ := x10'
 refine U.ps 1 T rfl ?_
 refine U.done (C.nx (C.ret ?_))
 exact C.f0 T (rs' := [.i x10]) hβ ⟨x10, hm, rfl, rfl, rfl⟩
theorem T_body_Shelf (st : ApiState) (s_1 : Int) (post : (List Int) → Prop) (hm : V_body_Shelf st s_1 post) :
    Tr Tryz.prog 96 [.agg (eApiState st), .i s_1] [] 0 (fun A H' k => ∃ y, post y ∧ A = (.o 0) ∧ H' = [(0, .val (.os 1 eI y))] ∧ k = 1) := by
 refine Tr.intro (n := 27) Tryz.func96 rfl Tryz.ntmps96 rfl (fun w0 ok F β hβ => ?_)
 unfold V_body_Shelf at hm
 refine C.seq (U.start ?_)
 refine U.e1 rfl (.none rfl) (by exact Eff1.box rfl rfl rfl rfl rfl) ?_
 refine U.ps 1 T rfl ?_
 refine U.done (C.nx (C.seq (C.seq ?_)))
 refine C.jn (fun (x3 : Bool) => [(1, .i s_1), (2, .p 0 0), (19, .b x3)]) (fun (x3 : Bool) => [(0, .box (eApiState st))]) 1 hm (fun x3 hm => ?_) (fun J4 hm hJ4 => ?_)
 refine C.nx ?_
 refine C.ite rfl hm (fun hb8 hm => ?_) (fun hb8 hm => ?_)
 refine C.seq (U.start ?_)
 refine U.ps 1 T rfl ?_
 refine U.done (C.nx (C.ret (C.rt ?_)))
 exact C.fin T (rs' := [.o 0]) (H' := [(0, .val (.os 1 eI []))]) (nl' := 1) [none] rfl rfl (.cons (.nilO _ _ ⟨rfl, rfl⟩ rfl) .nil) ⟨⟨_, rfl, .nil _ _⟩, trivial⟩ rfl rfl rfl rfl hβ ⟨[], hm, rfl, rfl, rfl⟩
 refine C.skip (C.nx (C.seq (U.start ?_)))
 refine U.ps 3 T rfl ?_
 obtain ⟨x13, hx13, hm⟩ := hm
 refine U.r rfl (.none rfl) rfl rfl (by exact Rd.ix T rfl rfl rfl rfl rfl rfl hx13) ?_
 refine U.ps 1 T rfl ?_
 refine U.e rfl (.none rfl) (by exact Eff.k (T_body_High x13 _ hm) en52 rfl rfl rfl (.eq rfl) (fun _ _ => ⟨(.v _), trivial⟩)) (fun x14' hm => ?_)
 obtain ⟨x14⟩ := x14'
 refine U.e1 rfl (.none rfl) (by exact Eff1.bs T (enc := eI) (xs := ([x14] : List Int)) rfl rfl rfl rfl rfl rfl rfl rfl rfl rfl (fun _ _ => rfl) rfl rfl) ?_
 refine U.ps 1 T rfl ?_
 refine U.done (C.nx (C.ret ?_))
 exact C.fin T (rs' := [.o 0]) (H' := [(0, .val (.os 1 eI ([x14] : List Int)))]) (nl' := 1) [some 1] rfl rfl (.eq rfl) ⟨vL, trivial⟩ rfl rfl rfl rfl hβ ⟨([x14] : List Int), hm, rfl, rfl, rfl⟩
 refine U.start ?_
 refine U.ps 3 T rfl ?_
 refine hm.cs (fun hb5 hm => ?_) (fun hb5 hm => ?_)
 refine U.sks 5 2 false 7 hb5 rfl rfl rfl ?_
 refine U.r rfl (.none rfl) rfl rfl (by exact Rd.pk rfl rfl hb5 rfl) ?_
 refine U.ps 1 T rfl ?_
 refine U.sks 4 9 false 14 rfl rfl rfl rfl ?_
 refine U.r rfl (.none rfl) rfl rfl (by exact Rd.pk rfl rfl rfl rfl) ?_
 refine U.done ?_
 exact St.wk (hJ4 _ hm) (Wk.f [some 0] ⟨bX, trivial⟩)
 refine U.pg 5 2 false 7 hb5 T rfl rfl rfl rfl ?_
 refine U.r rfl (.none rfl) rfl rfl (by exact Rd.pk' rfl rfl hb5 rfl) ?_
 refine U.ps 1 T rfl ?_
 refine hm.cs (fun hb6 hm => ?_) (fun hb6 hm => ?_)
 refine U.sks 4 9 false 14 hb6 rfl rfl rfl ?_
 refine U.r rfl (.none rfl) rfl rfl (by exact Rd.pk rfl rfl hb6 rfl) ?_
 refine U.done ?_
 exact St.wk (hJ4 _ hm) (Wk.f [some 0] ⟨bX, trivial⟩)
 refine U.pg 2 9 false 14 hb6 T rfl rfl rfl rfl ?_
 refine U.e rfl (.take 9 false 14 _ hb6 rfl rfl rfl) (by exact Eff.k (T_body_Carrier st s_1 _ hm) en105 rfl rfl rfl (.eq rfl) (fun _ _ => ⟨(.v _), trivial⟩)) (fun x7' hm => ?_)
 obtain ⟨x7⟩ := x7'
 refine U.pg 1 9 false 14 hb6 T rfl rfl rfl rfl ?_
 refine U.r rfl (.none rfl) rfl rfl (by exact Rd.pk' rfl rfl hb6 rfl) ?_
 refine U.done ?_
 exact St.wk (hJ4 _ hm) (Wk.f [some 0] ⟨bX, trivial⟩)
theorem T_body_Person (st : ApiState) (p : Int) (post : (List Int) → Prop) (hm : V_body_Person st p post) :
    Tr Tryz.prog 97 [.agg (eApiState st), .i p] [] 0 (fun A H' k => ∃ y, post y ∧ A = (.o 0) ∧ H' = [(0, .val (.os 1 eI y))] ∧ k = 1) := by
 refine Tr.intro (n := 27) Tryz.func97 rfl Tryz.ntmps97 rfl (fun w0 ok F β hβ => ?_)
 unfold V_body_Person at hm
 refine C.seq (U.start ?_)
 refine U.e1 rfl (.none rfl) (by exact Eff1.box rfl rfl rfl rfl rfl) ?_
 refine U.ps 1 T rfl ?_
 refine U.done (C.nx (C.seq (C.seq ?_)))
 refine C.jn (fun (x3 : Bool) => [(1, .i p), (2, .p 0 0), (13, .b x3)]) (fun (x3 : Bool) => [(0, .box (eApiState st))]) 1 hm (fun x3 hm => ?_) (fun J4 hm hJ4 => ?_)
 refine C.nx ?_
 refine C.ite rfl hm (fun hb6 hm => ?_) (fun hb6 hm => ?_)
 refine C.seq (U.start ?_)
 refine U.ps 1 T rfl ?_
 refine U.done (C.nx (C.ret (C.rt ?_)))
 exact C.fin T (rs' := [.o 0]) (H' := [(0, .val (.os 1 eI []))]) (nl' := 1) [none] rfl rfl (.cons (.nilO _ _ ⟨rfl, rfl⟩ rfl) .nil) ⟨⟨_, rfl, .nil _ _⟩, trivial⟩ rfl rfl rfl rfl hβ ⟨[], hm, rfl, rfl, rfl⟩
 refine C.skip (C.nx (C.seq ?_))
 refine D.beg 9999 [0] [] mix rfl rfl (by kernel_rfl) (by repeat (first | exact NoPanicQ.body | exact NoPanicQ.rnd | refine NoPanicQ.th ?_ | refine NoPanicQ.blk ?_)) (fun hQ hS ws M' => ?_)
 refine D.ps 3 [(0, []), (1, []), (2, [])] rfl hQ hS T rfl rfl (by kernel_rfl) ?_
 obtain ⟨x11, hx11, hm⟩ := hm
 refine D.q 3 [] hQ hS rfl (.none rfl) rfl rfl (by exact Rd.ix T rfl rfl rfl rfl rfl rfl hx11) rfl (by kernel_rfl) ?_
 refine D.ps 4 [(4, []), (6, []), (7, []), (8, [])] rfl hQ hS T rfl rfl (by kernel_rfl) ?_
 refine D.q 9 [] hQ hS rfl (.none rfl) rfl rfl (by exact Rd.ix T rfl rfl rfl rfl rfl rfl hx11) rfl (by kernel_rfl) ?_
 refine D.ps 1 [(10, [])] rfl hQ hS T rfl rfl (by kernel_rfl) ?_
 refine D.e 5 rfl (.none rfl) (by exact Eff.k (T_body_Low x11 _ hm) en51 rfl rfl rfl (.eq rfl) (fun _ _ => ⟨(.v _), trivial⟩)) (by kernel_rfl) rfl rfl (fun x12' hm => ?_)
 obtain ⟨x12⟩ := x12'
 refine D.e 11 rfl (.none rfl) (by exact Eff.k (T_body_High x11 _ hm) en52 rfl rfl rfl (.eq rfl) (fun _ _ => ⟨(.v _), trivial⟩)) (by kernel_rfl) rfl rfl (fun x13' hm => ?_)
 obtain ⟨x13⟩ := x13'
 refine D.e1 12 rfl (.none rfl) (by exact Eff1.bs T (enc := eI) (xs := ([x12, x13] : List Int)) rfl rfl rfl rfl rfl rfl rfl rfl rfl rfl (fun _ _ => rfl) rfl rfl) (by kernel_rfl) rfl rfl ?_
 refine D.ps 1 [(13, [])] rfl hQ hS T rfl rfl (by kernel_rfl) ?_
 refine D.done (by kernel_rfl) ?_
 refine C.nx (C.ret ?_)
 exact C.fin T (rs' := [.o 0]) (H' := [(0, .val (.os 1 eI ([x12, x13] : List Int)))]) (nl' := 1) [some 1] rfl rfl (.eq rfl) ⟨vL, trivial⟩ rfl rfl rfl rfl hβ ⟨([x12, x13] : List Int), hm, rfl, rfl, rfl⟩
 refine U.start ?_
 refine U.ps 3 T rfl ?_
 refine hm.cs (fun hb5 hm => ?_) (fun hb5 hm => ?_)
 refine U.sks 5 2 false 7 hb5 rfl rfl rfl ?_
 refine U.r rfl (.none rfl) rfl rfl (by exact Rd.pk rfl rfl hb5 rfl) ?_
 refine U.done ?_
 exact St.wk (hJ4 _ hm) (Wk.f [some 0] ⟨bX, trivial⟩)
 refine U.pg 5 2 false 7 hb5 T rfl rfl rfl rfl ?_
 refine U.r rfl (.none rfl) rfl rfl (by exact Rd.pk' rfl rfl hb5 rfl) ?_
 refine U.done ?_
 exact St.wk (hJ4 _ hm) (Wk.f [some 0] ⟨bX, trivial⟩)
theorem T_body_all (st : ApiState) (post : (List Int) → Prop) (hm : V_body_all st post) :
    Tr Tryz.prog 79 [.agg (eApiState st)] [] 0 (fun A H' k => ∃ y, post y ∧ A = (.o 0) ∧ H' = [(0, .val (.os 1 eI y))] ∧ k = 1) := by
 refine Tr.intro (n := 44) Tryz.func79 rfl Tryz.ntmps79 rfl (fun w0 ok F β hβ => ?_)
 unfold V_body_all at hm
 refine C.seq (U.start ?_)
 refine U.e1 rfl (.none rfl) (by exact Eff1.box rfl rfl rfl rfl rfl) ?_
 refine U.ps 1 T rfl ?_
 refine U.done (C.nx (C.seq (U.start ?_)))
 refine U.ps 1 T rfl ?_
 refine U.done (C.nx (C.seq (C.seq (U.start ?_))))
 refine U.ps 4 T rfl ?_
 refine U.done (C.nx ?_)
 refine C.jn (fun (x7 : List Int) => [(1, .p 0 0), (3, .o 1)]) (fun (x7 : List Int) => [(0, .box (eApiState st)), (1, .val (.os 1 eI x7))]) 2 hm (fun x7 hm => ?_) (fun J8 hm hJ8 => ?_)
 refine C.nx (C.seq (C.seq (U.start ?_)))
 refine U.ps 4 T rfl ?_
 refine U.done (C.nx ?_)
 refine C.jn (fun (x24 : List Int) => [(1, .p 0 0), (3, .o 1)]) (fun (x24 : List Int) => [(0, .box (eApiState st)), (1, .val (.os 1 eI x24))]) 2 hm (fun x24 hm => ?_) (fun J25 hm hJ25 => ?_)
 refine C.nx (C.seq (C.seq (U.start ?_)))
 refine U.ps 4 T rfl ?_
 refine U.done (C.nx ?_)
 refine C.jn (fun (x41 : List Int) => [(3, .o 0)]) (fun (x41 : List Int) => [(0, .val (.os 1 eI x41))]) 1 hm (fun x41 hm => ?_) (fun J42 hm hJ42 => ?_)
 refine C.nx (C.seq (U.start ?_))
 refine U.ps 2 T rfl ?_
 refine U.done (C.nx (C.ret ?_))
 exact C.fin T (rs' := [.o 0]) (H' := [(0, .val (.os 1 eI x41))]) (nl' := 1) [some 0] rfl rfl (.eq rfl) ⟨vL, trivial⟩ rfl rfl rfl rfl hβ ⟨x41, hm, rfl, rfl, rfl⟩
 refine C.block ?_
 refine St.wk (C.loop (fun (s43 : List Int × Int) => [(1, .p 0 0), (3, .o 1), (33, .i (st.People.length : Int)), (34, .i s43.2)]) (fun (s43 : List Int × Int) => [(0, .box (eApiState st)), (1, .val (.os 1 eI s43.1))]) hm (fun s43 Y44 hm => ?_)) (Wk.f [some 0, some 1] ⟨bX, vL, trivial⟩)
 refine C.seq (U.start ?_)
 refine U.ps 1 T rfl ?_
 refine U.done (C.nx (C.seq ?_))
 refine C.ite rfl hm (fun hb47 hm => ?_) (fun hb47 hm => ?_)
 refine C.skip (C.nx (C.seq (C.block (C.seq (U.start ?_)))))
 refine U.ps 2 T rfl ?_
 refine U.done (C.nx (U.start ?_))
 refine U.ps 3 T rfl ?_
 refine U.e rfl (.none rfl) (by exact Eff.c [] (v := true) (T_body_Person st s43.2 _ hm) en97 rfl rfl rfl (.eq rfl) trivial rfl rfl rfl rfl rfl rfl (fun _ _ => ⟨(.o _), ⟨.val (.os _ _ _ fun _ => (.cons (.v _) .nil)), trivial⟩⟩) (.inr ⟨rfl, rfl⟩) (fun _ => rfl) (fun _ => rfl) rfl) (fun x52' hm => ?_)
 obtain ⟨x52⟩ := x52'
 obtain ⟨hx53, hm⟩ := hm
 refine U.e1 rfl (.none rfl) (by exact Eff1.ap T rfl rfl rfl rfl rfl rfl (.inr ⟨_, rfl, rfl⟩) rfl rfl rfl (fun _ => rfl) rfl hx53) ?_
 refine U.ps 1 T rfl ?_
 refine U.done (C.bnx (C.nx (U.start ?_)))
 refine U.ps 2 T rfl ?_
 refine U.done (C.nx ?_)
 exact St.wk (C.next hm) (Wk.f [some 0, some 3] ⟨bX, vL, trivial⟩)
 refine C.exit (C.ex (C.ex (C.bex ?_)))
 exact St.wk (hJ42 _ hm) (Wk.f [some 1] ⟨vL, trivial⟩)
 refine C.block ?_
 refine St.wk (C.loop (fun (s26 : List Int × Int) => [(1, .p 0 0), (3, .o 1), (21, .i (st.Shelves.length : Int)), (22, .i s26.2)]) (fun (s26 : List Int × Int) => [(0, .box (eApiState st)), (1, .val (.os 1 eI s26.1))]) hm (fun s26 Y27 hm => ?_)) (Wk.f [some 0, some 1] ⟨bX, vL, trivial⟩)
 refine C.seq (U.start ?_)
 refine U.ps 1 T rfl ?_
 refine U.done (C.nx (C.seq ?_))
 refine C.ite rfl hm (fun hb30 hm => ?_) (fun hb30 hm => ?_)
 refine C.skip (C.nx (C.seq (C.block (C.seq (U.start ?_)))))
 refine U.ps 2 T rfl ?_
 refine U.done (C.nx (U.start ?_))
 refine U.ps 3 T rfl ?_
 refine U.e rfl (.none rfl) (by exact Eff.c [] (v := true) (T_body_Shelf st s26.2 _ hm) en96 rfl rfl rfl (.eq rfl) trivial rfl rfl rfl rfl rfl rfl (fun _ _ => ⟨(.o _), ⟨.val (.os _ _ _ fun _ => (.cons (.v _) .nil)), trivial⟩⟩) (.inr ⟨rfl, rfl⟩) (fun _ => rfl) (fun _ => rfl) rfl) (fun x35' hm => ?_)
 obtain ⟨x35⟩ := x35'
 obtain ⟨hx36, hm⟩ := hm
 refine U.e1 rfl (.none rfl) (by exact Eff1.ap T rfl rfl rfl rfl rfl rfl (.inr ⟨_, rfl, rfl⟩) rfl rfl rfl (fun _ => rfl) rfl hx36) ?_
 refine U.ps 1 T rfl ?_
 refine U.done (C.bnx (C.nx (U.start ?_)))
 refine U.ps 2 T rfl ?_
 refine U.done (C.nx ?_)
 exact St.wk (C.next hm) (Wk.f [some 0, some 3] ⟨bX, vL, trivial⟩)
 refine C.exit (C.ex (C.ex (C.bex ?_)))
 exact St.wk (hJ25 _ hm) (Wk.f [some 0, some 1] ⟨bX, vL, trivial⟩)
 refine C.block ?_
 refine St.wk (C.loop (fun (s9 : List Int × Int) => [(1, .p 0 0), (3, .o 1), (9, .i (st.Robots.length : Int)), (10, .i s9.2)]) (fun (s9 : List Int × Int) => [(0, .box (eApiState st)), (1, .val (.os 1 eI s9.1))]) hm (fun s9 Y10 hm => ?_)) (Wk.mk' [some 0, none] rfl rfl ⟨⟨_, rfl, (.eq rfl)⟩, ⟨_, rfl, (.nilO _ _ ⟨rfl, rfl⟩ rfl)⟩, ChkG.eqs rfl⟩ ⟨bX, ⟨_, rfl, .nil _ _⟩, trivial⟩ rfl)
 refine C.seq (U.start ?_)
 refine U.ps 1 T rfl ?_
 refine U.done (C.nx (C.seq ?_))
 refine C.ite rfl hm (fun hb13 hm => ?_) (fun hb13 hm => ?_)
 refine C.skip (C.nx (C.seq (C.block (C.seq (U.start ?_)))))
 refine U.ps 2 T rfl ?_
 refine U.done (C.nx (U.start ?_))
 refine U.ps 3 T rfl ?_
 refine U.e rfl (.none rfl) (by exact Eff.c [] (v := true) (T_body_Robot st s9.2 _ hm) en95 rfl rfl rfl (.eq rfl) trivial rfl rfl rfl rfl rfl rfl (fun _ _ => ⟨(.o _), ⟨.val (.os _ _ _ fun _ => (.cons (.v _) .nil)), trivial⟩⟩) (.inr ⟨rfl, rfl⟩) (fun _ => rfl) (fun _ => rfl) rfl) (fun x18' hm => ?_)
 obtain ⟨x18⟩ := x18'
 obtain ⟨hx19, hm⟩ := hm
 refine U.e1 rfl (.none rfl) (by exact Eff1.ap T rfl rfl rfl rfl rfl rfl (.inr ⟨_, rfl, rfl⟩) rfl rfl rfl (fun _ => rfl) rfl hx19) ?_
 refine U.ps 1 T rfl ?_
 refine U.done (C.bnx (C.nx (U.start ?_)))
 refine U.ps 2 T rfl ?_
 refine U.done (C.nx ?_)
 exact St.wk (C.next hm) (Wk.f [some 0, some 3] ⟨bX, vL, trivial⟩)
 refine C.exit (C.ex (C.ex (C.bex ?_)))
 exact St.wk (hJ8 _ hm) (Wk.f [some 0, some 1] ⟨bX, vL, trivial⟩)
def siR80 : Go.Shelf.Ren := ⟨fun | 125 => 99 | 128 => 114 | 129 => 115 | 189 => 80 | 215 => 116 | 216 => 102 | 257 => 98 | 294 => 106 | 295 => 107 | 296 => 108 | 297 => 109 | 298 => 110 | 299 => 111 | 300 => 112 | 301 => 113 | 328 => 118 | 329 => 119 | 330 => 120 | 331 => 121 | 332 => 122 | 343 => 123 | n => n, fun | 0 => 0 | 3 => 3 | 4 => 4 | 5 => 5 | 9 => 9 | 28 => 22 | 46 => 155 | 51 => 165 | 53 => 167 | 131 => 73 | 182 => 158 | 183 => 159 | 218 => 168 | 222 => 172 | 228 => 174 | 229 => 175 | n => n, fun n => n⟩
theorem siL80 : Go.Proofs.Lays.n189 Tryz.prog siR80 where
  mixed := by kernel_rfl
  f125 := Tryz.func99.trans (congrArg some (by kernel_rfl))
  f128 := Tryz.func114.trans (congrArg some (by kernel_rfl))
  f129 := Tryz.func115.trans (congrArg some (by kernel_rfl))
  f189 := Tryz.func80.trans (congrArg some (by kernel_rfl))
  f215 := Tryz.func116.trans (congrArg some (by kernel_rfl))
  f216 := Tryz.func102.trans (congrArg some (by kernel_rfl))
  f257 := Tryz.func98.trans (congrArg some (by kernel_rfl))
  f294 := Tryz.func106.trans (congrArg some (by kernel_rfl))
  f295 := Tryz.func107.trans (congrArg some (by kernel_rfl))
  f296 := Tryz.func108.trans (congrArg some (by kernel_rfl))
  f297 := Tryz.func109.trans (congrArg some (by kernel_rfl))
  f298 := Tryz.func110.trans (congrArg some (by kernel_rfl))
  f299 := Tryz.func111.trans (congrArg some (by kernel_rfl))
  f300 := Tryz.func112.trans (congrArg some (by kernel_rfl))
  f301 := Tryz.func113.trans (congrArg some (by kernel_rfl))
  f328 := Tryz.func118.trans (congrArg some (by kernel_rfl))
  f329 := Tryz.func119.trans (congrArg some (by kernel_rfl))
  f330 := Tryz.func120.trans (congrArg some (by kernel_rfl))
  f331 := Tryz.func121.trans (congrArg some (by kernel_rfl))
  f332 := Tryz.func122.trans (congrArg some (by kernel_rfl))
  f343 := Tryz.func123.trans (congrArg some (by kernel_rfl))
  t0 := Tryz.underlying0
  a0 := Tryz.isAgg0
  z0 := Tryz.sizeOf0
  v0 := Tryz.zeroValue0
  t3 := Tryz.underlying3
  a3 := Tryz.isAgg3
  z3 := Tryz.sizeOf3
  v3 := Tryz.zeroValue3
  t4 := Tryz.underlying4
  a4 := Tryz.isAgg4
  z4 := Tryz.sizeOf4
  v4 := Tryz.zeroValue4
  t5 := Tryz.underlying5
  a5 := Tryz.isAgg5
  z5 := Tryz.sizeOf5
  v5 := Tryz.zeroValue5
  t9 := Tryz.underlying9
  a9 := Tryz.isAgg9
  z9 := Tryz.sizeOf9
  v9 := Tryz.zeroValue9
  t28 := Tryz.underlying22
  a28 := Tryz.isAgg22
  z28 := Tryz.sizeOf22
  v28 := Tryz.zeroValue22
  t46 := Tryz.underlying155
  a46 := Tryz.isAgg155
  z46 := Tryz.sizeOf155
  v46 := Tryz.zeroValue155
  t51 := Tryz.underlying165
  a51 := Tryz.isAgg165
  z51 := Tryz.sizeOf165
  v51 := Tryz.zeroValue165
  t53 := Tryz.underlying167
  a53 := Tryz.isAgg167
  z53 := Tryz.sizeOf167
  v53 := Tryz.zeroValue167
  t131 := Tryz.underlying73
  a131 := Tryz.isAgg73
  z131 := Tryz.sizeOf73
  v131 := Tryz.zeroValue73
  t182 := Tryz.underlying158
  a182 := Tryz.isAgg158
  z182 := Tryz.sizeOf158
  v182 := Tryz.zeroValue158
  t183 := Tryz.underlying159
  a183 := Tryz.isAgg159
  z183 := Tryz.sizeOf159
  v183 := Tryz.zeroValue159
  t218 := Tryz.underlying168
  a218 := Tryz.isAgg168
  z218 := Tryz.sizeOf168
  v218 := Tryz.zeroValue168
  t222 := Tryz.underlying172
  a222 := Tryz.isAgg172
  z222 := Tryz.sizeOf172
  v222 := Tryz.zeroValue172
  t228 := Tryz.underlying174
  a228 := Tryz.isAgg174
  z228 := Tryz.sizeOf174
  v228 := Tryz.zeroValue174
  t229 := Tryz.underlying175
  a229 := Tryz.isAgg175
  z229 := Tryz.sizeOf175
  v229 := Tryz.zeroValue175
theorem T_slices_Sort_int_int__o0 (p0 : List Int) (post : List Int → Prop) (hm : V_slices_Sort_int_int__o0 p0 post) :
    Tr Tryz.prog 80 [.o 0] [(0, .val (.os 1 eI p0))] 1 (fun A H' k => ∃ y, post y ∧ A = (.tup []) ∧ H' = [(0, .val (.os 1 eI y))] ∧ k = 1) := by
 unfold V_slices_Sort_int_int__o0 at hm
 exact Tr.sortInt siL80 p0 hm.1 hm.2
theorem T_body_All (st : ApiState) (post : (List Int) → Prop) (hm : V_body_All st post) :
    Tr Tryz.prog 50 [.agg (eApiState st)] [] 0 (fun A H' k => ∃ y, post y ∧ A = (.o 0) ∧ H' = [(0, .val (.os 1 eI y))] ∧ k = 1) := by
 refine Tr.intro (n := 9) Tryz.func50 rfl Tryz.ntmps50 rfl (fun w0 ok F β hβ => ?_)
 unfold V_body_All at hm
 refine C.seq (U.start ?_)
 refine U.e1 rfl (.none rfl) (by exact Eff1.box rfl rfl rfl rfl rfl) ?_
 refine U.ps 1 T rfl ?_
 refine U.done (C.nx (C.seq (U.start ?_)))
 refine U.ps 1 T rfl ?_
 refine U.e rfl (.none rfl) (by exact Eff.c [] (v := true) (T_body_all st _ hm) en79 rfl rfl rfl (.eq rfl) trivial rfl rfl rfl rfl rfl rfl (fun _ _ => ⟨(.o _), ⟨.val (.os _ _ _ fun _ => (.cons (.v _) .nil)), trivial⟩⟩) (.inr ⟨rfl, rfl⟩) (fun _ => rfl) (fun _ => rfl) rfl) (fun x5' hm => ?_)
 obtain ⟨x5⟩ := x5'
 refine U.ps 1 T rfl ?_
 refine U.done (C.nx (C.seq (U.start ?_)))
 refine U.ps 1 T rfl ?_
 refine U.e rfl (.none rfl) (by exact Eff.c [some 1] (v := false) (T_slices_Sort_int_int__o0 x5 _ hm) en80 rfl rfl rfl (.eq rfl) ⟨vL, trivial⟩ rfl rfl rfl rfl rfl rfl (fun h => by cases h) (.inl rfl) (fun _ => rfl) (fun _ => rfl) rfl) (fun x8' hm => ?_)
 obtain ⟨x8⟩ := x8'
 refine U.done (C.nx (C.seq (U.start ?_)))
 refine U.ps 2 T rfl ?_
 refine U.done (C.nx (C.ret ?_))
 exact C.fin T (rs' := [.o 0]) (H' := [(0, .val (.os 1 eI x8))]) (nl' := 1) [some 1] rfl rfl (.eq rfl) ⟨vL, trivial⟩ rfl rfl rfl rfl hβ ⟨x8, hm, rfl, rfl, rfl⟩
theorem T_act_move (s_1 : ApiSite) (st : ApiState) (r : ApiRobot) (d : Int) (post : Int → Prop) (hm : V_act_move s_1 st r d post) :
    Tr Tryz.prog 20 [.agg (eApiSite s_1), .agg (eApiState st), .agg (eApiRobot r), .i d] [] 0 (fun A H' k => ∃ y, post y ∧ A = (.i y) ∧ H' = [] ∧ k = 0) := by
 refine Tr.intro (n := 64) Tryz.func20 rfl Tryz.ntmps20 rfl (fun w0 ok F β hβ => ?_)
 unfold V_act_move at hm
 refine C.seq (U.start ?_)
 refine U.e1 rfl (.none rfl) (by exact Eff1.box rfl rfl rfl rfl rfl) ?_
 refine U.e1 rfl (.none rfl) (by exact Eff1.box rfl rfl rfl rfl rfl) ?_
 refine U.e1 rfl (.none rfl) (by exact Eff1.box rfl rfl rfl rfl rfl) ?_
 refine U.ps 1 T rfl ?_
 refine U.done (C.nx (C.seq (U.start ?_)))
 refine U.ps 5 T rfl ?_
 refine U.e rfl (.none rfl) (by exact Eff.k (T_floor_Next s_1.Floor r.Cell d _ hm) en25 rfl rfl rfl (.eq rfl) (fun _ _ => ⟨(.tup (.cons (.v _) (.cons (.v _) .nil))), trivial⟩)) (fun x5' hm => ?_)
 obtain ⟨x5⟩ := x5'
 refine U.ps 3 T rfl ?_
 refine U.e1 rfl (.none rfl) (by exact Eff1.al T rfl rfl rfl rfl) ?_
 refine U.e1 rfl (.none rfl) (by exact Eff1.st T rfl rfl rfl rfl rfl rfl rfl rfl rfl rfl) ?_
 refine U.ps 1 T rfl ?_
 refine U.done (C.nx (C.seq (C.seq ?_)))
 refine C.jn (fun (x6 : Bool) => [(3, .i d), (4, .p 0 0), (5, .p 1 0), (6, .p 2 0), (9, .p 3 0), (29, .b x6)]) (fun (x6 : Bool) => [(0, .box (eApiSite s_1)), (1, .box (eApiState st)), (2, .box (eApiRobot r)), (3, .box [.i x5.1])]) 4 hm (fun x6 hm => ?_) (fun J7 hm hJ7 => ?_)
 refine C.nx ?_
 refine C.ite rfl hm (fun hb10 hm => ?_) (fun hb10 hm => ?_)
 refine C.seq (U.start ?_)
 refine U.ps 1 T rfl ?_
 refine U.done (C.nx (C.ret (C.rt ?_)))
 exact C.f0 T (rs' := [.i 14]) hβ ⟨14, hm, rfl, rfl, rfl⟩
 refine C.skip (C.nx (C.seq (C.seq ?_)))
 refine C.jn (fun (x13 : Bool) => [(4, .p 0 0), (5, .p 1 0), (6, .p 2 0), (9, .p 3 0), (35, .b x13)]) (fun (x13 : Bool) => [(0, .box (eApiSite s_1)), (1, .box (eApiState st)), (2, .box (eApiRobot r)), (3, .box [.i x5.1])]) 4 hm (fun x13 hm => ?_) (fun J14 hm hJ14 => ?_)
 refine C.nx ?_
 refine C.jn (fun (x16 : Unit) => [(4, .p 0 0), (5, .p 1 0), (6, .p 2 0), (9, .p 3 0)]) (fun (x16 : Unit) => [(0, .box (eApiSite s_1)), (1, .box (eApiState st)), (2, .box (eApiRobot r)), (3, .box [.i x5.1])]) 4 hm (fun x16 hm => ?_) (fun J17 hm hJ17 => ?_)
 refine C.nx (C.seq (C.seq (U.start ?_)))
 refine U.ps 4 T rfl ?_
 refine U.e rfl (.none rfl) (by exact Eff.k (T_rules_Open s_1 x5.1 st.Tick _ hm) en49 rfl rfl rfl (.eq rfl) (fun _ _ => ⟨(.v _), trivial⟩)) (fun x29' hm => ?_)
 obtain ⟨x29⟩ := x29'
 refine U.ps 1 T rfl ?_
 refine U.done (C.nx ?_)
 refine C.ite rfl hm (fun hb30 hm => ?_) (fun hb30 hm => ?_)
 refine C.seq (U.start ?_)
 refine U.ps 1 T rfl ?_
 refine U.done (C.nx (C.ret (C.rt ?_)))
 exact C.f0 T (rs' := [.i 18]) hβ ⟨18, hm, rfl, rfl, rfl⟩
 refine C.skip (C.nx (C.seq (U.start ?_)))
 refine U.ps 1 T rfl ?_
 refine U.e rfl (.none rfl) (by exact Eff.c [] (v := true) (T_body_All st _ hm) en50 rfl rfl rfl (.eq rfl) trivial rfl rfl rfl rfl rfl rfl (fun _ _ => ⟨(.o _), ⟨.val (.os _ _ _ fun _ => (.cons (.v _) .nil)), trivial⟩⟩) (.inr ⟨rfl, rfl⟩) (fun _ => rfl) (fun _ => rfl) rfl) (fun x35' hm => ?_)
 obtain ⟨x35⟩ := x35'
 refine U.ps 1 T rfl ?_
 refine U.done (C.nx (C.seq (C.seq ?_)))
 refine C.jn (fun (x36 : Bool) => [(63, .b x36)]) (fun (x36 : Bool) => []) 0 hm (fun x36 hm => ?_) (fun J37 hm hJ37 => ?_)
 refine C.nx ?_
 refine C.ite rfl hm (fun hb44 hm => ?_) (fun hb44 hm => ?_)
 refine C.seq (U.start ?_)
 refine U.ps 1 T rfl ?_
 refine U.done (C.nx (C.ret (C.rt ?_)))
 exact C.f0 T (rs' := [.i 15]) hβ ⟨15, hm, rfl, rfl, rfl⟩
 refine C.skip (C.nx (C.seq (U.start ?_)))
 refine U.ps 1 T rfl ?_
 refine U.done (C.nx (C.ret ?_))
 exact C.f0 T (rs' := [.i 0]) hβ ⟨0, hm, rfl, rfl, rfl⟩
 refine U.start ?_
 refine U.ps 2 T rfl ?_
 refine U.e rfl (.none rfl) (by exact Eff.k (T_body_Low x5.1 _ hm) en51 rfl rfl rfl (.eq rfl) (fun _ _ => ⟨(.v _), trivial⟩)) (fun x38' hm => ?_)
 obtain ⟨x38⟩ := x38'
 refine U.e rfl (.none rfl) (by exact Eff.k (T_slices_Contains_int_int x35 x38 _ hm) en46 rfl rfl rfl (.cons (.fz rfl rfl rfl (.os fun _ => .cons (.ro rfl) .nil)) (.eq rfl)) (fun _ _ => ⟨(.v _), trivial⟩)) (fun x39' hm => ?_)
 obtain ⟨x39⟩ := x39'
 refine U.ps 1 T rfl ?_
 refine hm.cs (fun hb40 hm => ?_) (fun hb40 hm => ?_)
 refine U.sks 4 4 false 53 hb40 rfl rfl rfl ?_
 refine U.sku 4 8 true 57 rfl rfl rfl ?_
 refine U.sks 1 4 false 53 hb40 rfl rfl rfl ?_
 refine U.r rfl (.none rfl) rfl rfl (by exact Rd.pk rfl rfl hb40 rfl) ?_
 refine U.done ?_
 exact St.wk (hJ37 _ hm) (Wk.e)
 refine U.pg 4 4 false 53 hb40 T rfl rfl rfl rfl ?_
 refine hm.cs (fun hb41 hm => ?_) (fun hb41 hm => ?_)
 refine U.pg 2 8 true 57 hb41 T rfl rfl rfl rfl ?_
 refine U.e rfl (.take 8 true 57 _ hb41 rfl rfl rfl) (by exact Eff.k (T_body_High x5.1 _ hm) en52 rfl rfl rfl (.eq rfl) (fun _ _ => ⟨(.v _), trivial⟩)) (fun x42' hm => ?_)
 obtain ⟨x42⟩ := x42'
 refine U.e rfl (.take 8 true 57 _ hb41 rfl rfl rfl) (by exact Eff.k (T_slices_Contains_int_int x35 x42 _ hm) en46 rfl rfl rfl (.cons (.fz rfl rfl rfl (.os fun _ => .cons (.ro rfl) .nil)) (.eq rfl)) (fun _ _ => ⟨(.v _), trivial⟩)) (fun x43' hm => ?_)
 obtain ⟨x43⟩ := x43'
 refine U.r rfl (.take 4 false 53 _ hb40 rfl rfl rfl) rfl rfl (by exact Rd.pk rfl rfl hb41 rfl) ?_
 refine U.r rfl (.none rfl) rfl rfl (by exact Rd.pk' rfl rfl hb40 rfl) ?_
 refine U.done ?_
 exact St.wk (hJ37 _ hm) (Wk.e)
 refine U.sks 4 8 true 57 hb41 rfl rfl rfl ?_
 refine U.r rfl (.take 4 false 53 _ hb40 rfl rfl rfl) rfl rfl (by exact Rd.pk' rfl rfl hb41 rfl) ?_
 refine U.r rfl (.none rfl) rfl rfl (by exact Rd.pk' rfl rfl hb40 rfl) ?_
 refine U.done ?_
 exact St.wk (hJ37 _ hm) (Wk.e)
 refine C.ite rfl hm (fun hb18 hm => ?_) (fun hb18 hm => ?_)
 refine C.seq (U.start ?_)
 refine U.ps 2 T rfl ?_
 refine U.done (C.nx (C.seq (U.start ?_)))
 refine U.ps 3 T rfl ?_
 refine U.e rfl (.none rfl) (by exact Eff.k (T_slices_ContainsFunc_api_Stuck_api_Stuck__act_move_1 st.Stuck r x5.1 _ hm) en48 rfl rfl rfl (.cons (.eq rfl) (.cons (.fn (.eq rfl) (.cons (.fzp rfl rfl rfl rfl (.eq rfl) rfl) (.cons (.fzp rfl rfl rfl rfl (.eq rfl) rfl) .nil))) .nil)) (fun _ _ => ⟨(.v _), trivial⟩)) (fun x23' hm => ?_)
 obtain ⟨x23⟩ := x23'
 refine U.done (C.nx ?_)
 refine C.ite rfl hm (fun hb24 hm => ?_) (fun hb24 hm => ?_)
 refine C.seq (U.start ?_)
 refine U.ps 1 T rfl ?_
 refine U.done (C.nx (C.ret (C.rt ?_)))
 exact C.f0 T (rs' := [.i 14]) hβ ⟨14, hm, rfl, rfl, rfl⟩
 refine C.skip ?_
 exact St.wk (hJ17 _ hm) (Wk.f [some 0, some 1, some 2, some 3] ⟨bX, bX, bX, bX, trivial⟩)
 refine C.skip ?_
 exact St.wk (hJ17 _ hm) (Wk.f [some 0, some 1, some 2, some 3] ⟨bX, bX, bX, bX, trivial⟩)
 refine U.start ?_
 refine U.ps 3 T rfl ?_
 refine hm.cs (fun hb15 hm => ?_) (fun hb15 hm => ?_)
 refine U.sks 2 2 false 32 hb15 rfl rfl rfl ?_
 refine U.r rfl (.none rfl) rfl rfl (by exact Rd.pk rfl rfl hb15 rfl) ?_
 refine U.done ?_
 exact St.wk (hJ14 _ hm) (Wk.f [some 0, some 1, some 2, some 3] ⟨bX, bX, bX, bX, trivial⟩)
 refine U.pg 2 2 false 32 hb15 T rfl rfl rfl rfl ?_
 refine U.r rfl (.none rfl) rfl rfl (by exact Rd.pk' rfl rfl hb15 rfl) ?_
 refine U.done ?_
 exact St.wk (hJ14 _ hm) (Wk.f [some 0, some 1, some 2, some 3] ⟨bX, bX, bX, bX, trivial⟩)
 refine U.start ?_
 refine U.ps 3 T rfl ?_
 refine hm.cs (fun hb8 hm => ?_) (fun hb8 hm => ?_)
 refine U.pg 3 2 false 24 (ntF hb8) T rfl rfl rfl rfl ?_
 refine U.e rfl (.take 2 false 24 _ (ntF hb8) rfl rfl rfl) (by exact Eff.k (T_slices_Contains_int_int st.Dead x5.1 _ hm) en46 rfl rfl rfl (.eq rfl) (fun _ _ => ⟨(.v _), trivial⟩)) (fun x9' hm => ?_)
 obtain ⟨x9⟩ := x9'
 refine U.r rfl (.none rfl) rfl rfl (by exact Rd.pk' rfl rfl (ntF hb8) rfl) ?_
 refine U.done ?_
 exact St.wk (hJ7 _ hm) (Wk.f [some 0, some 1, some 2, some 3] ⟨bX, bX, bX, bX, trivial⟩)
 refine U.sks 4 2 false 24 (ntT hb8) rfl rfl rfl ?_
 refine U.r rfl (.none rfl) rfl rfl (by exact Rd.pk rfl rfl (ntT hb8) rfl) ?_
 refine U.done ?_
 exact St.wk (hJ7 _ hm) (Wk.f [some 0, some 1, some 2, some 3] ⟨bX, bX, bX, bX, trivial⟩)
theorem T_slices_Backward_int_int (s_1 : List Int) (post : (List Int) → Prop) (hm : V_slices_Backward_int_int s_1 post) :
    Tr Tryz.prog 85 [.sl 1 eI s_1] [] 0 (fun A H' k => ∃ y, post y ∧ A = (.fn (.func 101) [] [.p 0 0]) ∧ H' = [(0, .box [.sl 1 eI y])] ∧ k = 1) := by
 refine Tr.intro (n := 4) Tryz.func85 rfl Tryz.ntmps85 rfl (fun w0 ok F β hβ => ?_)
 unfold V_slices_Backward_int_int at hm
 refine C.seq (U.start ?_)
 refine U.e1 rfl (.none rfl) (by exact Eff1.box rfl rfl rfl rfl rfl) ?_
 refine U.ps 1 T rfl ?_
 refine U.done (C.nx (C.seq (U.start ?_)))
 refine U.ps 2 T rfl ?_
 refine U.done (C.nx (C.ret ?_))
 exact C.fin T (rs' := [.fn (.func 101) [] [.p 0 0]]) (H' := [(0, .box [.sl 1 eI (s_1)])]) (nl' := 1) [some 0] rfl rfl (.eq rfl) ⟨bX, trivial⟩ rfl rfl rfl rfl hβ ⟨(s_1), hm, rfl, rfl, rfl⟩
theorem T_rules_standing (st : ApiState) (post : (List (Int × Int)) → Prop) (hm : V_rules_standing st post) :
    Tr Tryz.prog 61 [.agg (eApiState st)] [] 0 (fun A H' k => ∃ y, post y ∧ A = (.o 0) ∧ H' = [(0, .val (.om kI veI y))] ∧ k = 1) := by
 refine Tr.intro (n := 35) Tryz.func61 rfl Tryz.ntmps61 rfl (fun w0 ok F β hβ => ?_)
 unfold V_rules_standing at hm
 refine C.seq (U.start ?_)
 refine U.e1 rfl (.none rfl) (by exact Eff1.box rfl rfl rfl rfl rfl) ?_
 refine U.ps 1 T rfl ?_
 refine U.done (C.nx (C.seq (U.start ?_)))
 refine U.e1 rfl (.none rfl) (by exact Eff1.mm kI veB rfl rfl rfl) ?_
 refine U.e1 rfl (.none rfl) (by exact Eff1.al T rfl rfl rfl rfl) ?_
 refine U.e1 rfl (.none rfl) (by exact Eff1.st T rfl rfl rfl rfl rfl rfl rfl rfl rfl rfl) ?_
 refine U.done (C.nx (C.seq (C.seq (U.start ?_))))
 refine U.ps 4 T rfl ?_
 refine U.done (C.nx ?_)
 refine C.jn (fun (x7 : List (Int × Bool)) => [(1, .p 0 0), (3, .p 1 0)]) (fun (x7 : List (Int × Bool)) => [(0, .box (eApiState st)), (1, .box [.o 2]), (2, .val (.om kI veB x7))]) 3 hm (fun x7 hm => ?_) (fun J8 hm hJ8 => ?_)
 refine C.nx (C.seq (U.start ?_))
 refine U.e1 rfl (.none rfl) (by exact Eff1.mm kI veI rfl rfl rfl) ?_
 refine U.e1 rfl (.none rfl) (by exact Eff1.al T rfl rfl rfl rfl) ?_
 refine U.e1 rfl (.none rfl) (by exact Eff1.st T rfl rfl rfl rfl rfl rfl rfl rfl rfl rfl) ?_
 refine U.done (C.nx (C.seq (C.seq (U.start ?_))))
 refine U.ps 2 T rfl ?_
 refine U.e rfl (.none rfl) (by exact Eff.c [] (v := false) (T_slices_Backward_int_int st.Shelves _ hm) en85 rfl rfl rfl (.eq rfl) trivial rfl rfl rfl rfl rfl rfl (fun h => by cases h) (.inr ⟨rfl, rfl⟩) (fun _ => rfl) (fun _ => rfl) rfl) (fun x25' hm => ?_)
 obtain ⟨x25⟩ := x25'
 refine U.done (C.nx (C.block ?_))
 refine St.wk (Γ' := [(1, .p 0 0), (3, .p 1 0), (6, .p 3 0), (21, .o 4), (22, .p 0 1), (23, .sl 1 eI st.Shelves), (24, .fn (.func 101) [] [.rp [.sl 1 eI x25]])]) (H' := [(0, .box (eApiState st)), (1, .box [.o 2]), (2, .val (.om kI veB x7)), (3, .box [.o 4]), (4, .val (.om kI veI ([] : List (Int × Int))))]) (nl' := 5) ?_ (Wk.mk' [some 0, some 1, some 2, some 4, some 3] rfl rfl ⟨⟨_, rfl, (.eq rfl)⟩, ⟨_, rfl, (.eq rfl)⟩, ⟨_, rfl, (.eq rfl)⟩, ⟨_, rfl, (.eq rfl)⟩, ⟨_, rfl, (.eq rfl)⟩, ⟨_, rfl, (.eq rfl)⟩, ⟨_, rfl, (.fn (.eq rfl) (.cons (.fzp rfl rfl rfl rfl (.eq rfl) rfl) .nil))⟩, trivial⟩ ⟨bX, bX, vL, bX, vL, trivial⟩ rfl)
 obtain ⟨hx29, hm⟩ := hm
 refine St.wk (C.range (Γ0 := [(3, .p 0 0), (6, .p 1 0), (24, .fn (.func 101) [] [.rp [.sl 1 eI x25]])]) (Γ1 := fun (x26 : Int × Int) => [(8, .i x26.2), (7, .i x26.1), (26, .i x26.2), (25, .i x26.1), (3, .p 0 0), (6, .p 1 0), (24, .fn (.func 101) [] [.rp [.sl 1 eI x25]])]) (Hf := fun (s27 : List (Int × Int)) => [(0, .box [.o 2]), (1, .box [.o 3]), (2, .val (.om kI veB x7)), (3, .val (.om kI veI s27))]) 2 hm (it101 x25 hx29) en101 rfl rfl rfl rfl rfl (fun _ => rfl) rfl rfl (fun _ => rfl) (fun x26 s27 Y28 hm w0 ok M β l => ?_) (fun s37 hm => ?_)) (Wk.f [some 1, some 3, some 2, some 4] ⟨bX, bX, vL, vL, trivial⟩)
 refine CI.block ?_
 refine CI.seq ?_
 refine UI.start (by kernel_rfl) (by repeat (first | exact NoOut.rnd | refine NoOut.th ?_ | refine NoOut.blk ?_)) ?_
 refine U.ps 2 T rfl ?_
 refine U.r rfl (.none rfl) rfl rfl (by exact Rd.lk T (ke := kI) (ve := veB) (xs := x7) (z0 := false) (x := x26.1) rfl rfl kt3 zt4 (fun _ => rfl) rfl (.o rfl) rfl rfl rfl) ?_
 refine U.ps 1 T rfl ?_
 refine U.done (C.nx ?_)
 refine CI.jn (fun (x32 : List (Int × Int)) => []) (fun (x32 : List (Int × Int)) => [(0, .box [.o 2]), (1, .box [.o 3]), (2, .val (.om kI veB x7)), (3, .val (.om kI veI x32))]) 4 hm (fun x32 hm => ?_) (fun J33 hm hJ33 => ?_)
 refine C.bnx ?_
 exact St.wk (CI.next hm) (Wk.mk' [some 0, some 1, some 2, some 3] rfl rfl trivial ⟨bX, bX, vL, vL, trivial⟩ rfl)
 refine CI.ite rfl hm (fun hb34 hm => ?_) (fun hb34 hm => ?_)
 refine UI.start (by kernel_rfl) (by repeat (first | exact NoOut.rnd | refine NoOut.th ?_ | refine NoOut.blk ?_)) ?_
 refine U.ps 3 T rfl ?_
 refine U.e1 rfl (.none rfl) (by exact Eff1.mu T (x := x26.2) (y := x26.1) (.inl rfl) rfl kt3 (fun _ => rfl) rfl rfl rfl rfl rfl (.inl rfl) rfl) ?_
 refine U.done ?_
 exact St.wk (hJ33 _ hm) (Wk.mk' [some 0, some 1, some 2, some 3] rfl rfl trivial ⟨bX, bX, vL, vL, trivial⟩ rfl)
 refine CI.skip ?_
 exact St.wk (hJ33 _ hm) (Wk.mk' [some 0, some 1, some 2, some 3] rfl rfl trivial ⟨bX, bX, vL, vL, trivial⟩ rfl)
 refine C.bnx (C.nx (C.seq (U.start ?_)))
 refine U.ps 2 T rfl ?_
 refine U.done (C.nx (C.ret ?_))
 exact C.fin T (rs' := [.o 0]) (H' := [(0, .val (.om kI veI s37))]) (nl' := 1) [some 3] rfl rfl (.eq rfl) ⟨vL, trivial⟩ rfl rfl rfl rfl hβ ⟨s37, hm, rfl, rfl, rfl⟩
 refine C.block ?_
 refine St.wk (C.loop (fun (s9 : List (Int × Bool) × Int) => [(1, .p 0 0), (3, .p 1 0), (11, .sl 6 eApiRobot st.Robots), (12, .i (st.Robots.length : Int)), (13, .i s9.2)]) (fun (s9 : List (Int × Bool) × Int) => [(0, .box (eApiState st)), (1, .box [.o 2]), (2, .val (.om kI veB s9.1))]) hm (fun s9 Y10 hm => ?_)) (Wk.f [some 0, some 2, some 1] ⟨bX, bX, vL, trivial⟩)
 refine C.seq (U.start ?_)
 refine U.ps 1 T rfl ?_
 refine U.done (C.nx (C.seq ?_))
 refine C.ite rfl hm (fun hb13 hm => ?_) (fun hb13 hm => ?_)
 refine C.skip (C.nx (C.seq (C.block (C.seq (U.start ?_)))))
 obtain ⟨x16, hx16, hm⟩ := hm
 refine U.r rfl (.none rfl) rfl rfl (by exact Rd.ix T rfl rfl rfl rfl rfl rfl hx16) ?_
 refine U.ps 1 T rfl ?_
 refine U.e1 rfl (.none rfl) (by exact Eff1.al T rfl rfl rfl rfl) ?_
 refine U.e1 rfl (.none rfl) (by exact Eff1.st T rfl rfl rfl rfl rfl rfl rfl rfl rfl rfl) ?_
 refine U.done (C.nx (U.start ?_))
 refine U.ps 3 T rfl ?_
 refine U.e1 rfl (.none rfl) (by exact Eff1.mu T (x := x16.Load) (y := true) (.inl rfl) rfl kt3 (fun _ => rfl) rfl rfl rfl rfl rfl (.inl rfl) rfl) ?_
 refine U.done (C.bnx (C.nx (U.start ?_)))
 refine U.ps 2 T rfl ?_
 refine U.done (C.nx ?_)
 exact St.wk (C.next hm) (Wk.f [some 0, some 1, some 2] ⟨bX, bX, vL, trivial⟩)
 refine C.exit (C.ex (C.ex (C.bex ?_)))
 exact St.wk (hJ8 _ hm) (Wk.f [some 0, some 1, some 2] ⟨bX, bX, vL, trivial⟩)
theorem T_rules_At (s_1 : ApiSite) (st : ApiState) (c : Int) (post : Int → Prop) (hm : V_rules_At s_1 st c post) :
    Tr Tryz.prog 24 [.agg (eApiSite s_1), .agg (eApiState st), .i c] [] 0 (fun A H' k => ∃ y, post y ∧ A = (.i y) ∧ H' = [] ∧ k = 0) := by
 refine Tr.intro (n := 18) Tryz.func24 rfl Tryz.ntmps24 rfl (fun w0 ok F β hβ => ?_)
 unfold V_rules_At at hm
 refine C.seq (U.start ?_)
 refine U.e1 rfl (.none rfl) (by exact Eff1.box rfl rfl rfl rfl rfl) ?_
 refine U.e1 rfl (.none rfl) (by exact Eff1.box rfl rfl rfl rfl rfl) ?_
 refine U.ps 1 T rfl ?_
 refine U.done (C.nx (C.seq (C.seq (U.start ?_))))
 refine U.ps 1 T rfl ?_
 refine U.e rfl (.none rfl) (by exact Eff.c [] (v := true) (T_rules_standing st _ hm) en61 rfl rfl rfl (.eq rfl) trivial rfl rfl rfl rfl rfl rfl (fun _ _ => ⟨(.o _), ⟨.val (.om _ _ _ fun _ => (.v _)), trivial⟩⟩) (.inr ⟨rfl, rfl⟩) (fun _ => rfl) (fun _ => rfl) rfl) (fun x5' hm => ?_)
 obtain ⟨x5⟩ := x5'
 refine U.ps 1 T rfl ?_
 refine U.r rfl (.none rfl) rfl rfl (by exact Rd.lk2 T (ke := kI) (ve := veI) (xs := x5) (z0 := 0) (x := c) rfl rfl kt3 zt3 (fun _ => rfl) rfl (.o rfl) rfl rfl rfl) ?_
 refine U.ps 5 T rfl ?_
 refine U.done (C.nx (C.seq (U.start ?_)))
 refine U.ps 1 T rfl ?_
 refine U.done (C.nx ?_)
 refine C.ite rfl hm (fun hb8 hm => ?_) (fun hb8 hm => ?_)
 refine C.seq (U.start ?_)
 refine U.ps 2 T rfl ?_
 refine U.done (C.nx (C.ret (C.rt ?_)))
 exact C.f0 T (rs' := [.i ((lk x5 c).getD 0)]) hβ ⟨((lk x5 c).getD 0), hm, rfl, rfl, rfl⟩
 refine C.skip (C.nx (C.seq (U.start ?_)))
 refine U.ps 1 T rfl ?_
 refine U.done (C.nx (C.ret ?_))
 exact C.f0 T (rs' := [.i (-1)]) hβ ⟨(-1), hm, rfl, rfl, rfl⟩
theorem T_act_lift (s_1 : ApiSite) (st : ApiState) (r : ApiRobot) (post : Int → Prop) (hm : V_act_lift s_1 st r post) :
    Tr Tryz.prog 21 [.agg (eApiSite s_1), .agg (eApiState st), .agg (eApiRobot r)] [] 0 (fun A H' k => ∃ y, post y ∧ A = (.i y) ∧ H' = [] ∧ k = 0) := by
 refine Tr.intro (n := 16) Tryz.func21 rfl Tryz.ntmps21 rfl (fun w0 ok F β hβ => ?_)
 unfold V_act_lift at hm
 refine C.seq (U.start ?_)
 refine U.e1 rfl (.none rfl) (by exact Eff1.box rfl rfl rfl rfl rfl) ?_
 refine U.e1 rfl (.none rfl) (by exact Eff1.box rfl rfl rfl rfl rfl) ?_
 refine U.e1 rfl (.none rfl) (by exact Eff1.box rfl rfl rfl rfl rfl) ?_
 refine U.ps 1 T rfl ?_
 refine U.done (C.nx (C.seq (C.seq (U.start ?_))))
 refine U.ps 3 T rfl ?_
 refine U.done (C.nx ?_)
 refine C.ite rfl hm (fun hb5 hm => ?_) (fun hb5 hm => ?_)
 refine C.seq (U.start ?_)
 refine U.ps 1 T rfl ?_
 refine U.done (C.nx (C.ret (C.rt ?_)))
 exact C.f0 T (rs' := [.i 7]) hβ ⟨7, hm, rfl, rfl, rfl⟩
 refine C.skip (C.nx (C.seq (C.seq (U.start ?_))))
 refine U.ps 4 T rfl ?_
 refine U.e rfl (.none rfl) (by exact Eff.k (T_rules_At s_1 st r.Cell _ hm) en24 rfl rfl rfl (.eq rfl) (fun _ _ => ⟨(.v _), trivial⟩)) (fun x10' hm => ?_)
 obtain ⟨x10⟩ := x10'
 refine U.ps 1 T rfl ?_
 refine U.done (C.nx ?_)
 refine C.ite rfl hm (fun hb11 hm => ?_) (fun hb11 hm => ?_)
 refine C.seq (U.start ?_)
 refine U.ps 1 T rfl ?_
 refine U.done (C.nx (C.ret (C.rt ?_)))
 exact C.f0 T (rs' := [.i 4]) hβ ⟨4, hm, rfl, rfl, rfl⟩
 refine C.skip (C.nx (C.seq (U.start ?_)))
 refine U.ps 1 T rfl ?_
 refine U.done (C.nx (C.ret ?_))
 exact C.f0 T (rs' := [.i 0]) hβ ⟨0, hm, rfl, rfl, rfl⟩
theorem T_rules_Stands (s_1 : ApiSite) (c : Int) (post : Bool → Prop) (hm : V_rules_Stands s_1 c post) :
    Tr Tryz.prog 53 [.agg (eApiSite s_1), .i c] [] 0 (fun A H' k => ∃ y, post y ∧ A = (.b y) ∧ H' = [] ∧ k = 0) := by
 refine Tr.intro (n := 26) Tryz.func53 rfl Tryz.ntmps53 rfl (fun w0 ok F β hβ => ?_)
 unfold V_rules_Stands at hm
 refine C.seq (U.start ?_)
 refine U.e1 rfl (.none rfl) (by exact Eff1.box rfl rfl rfl rfl rfl) ?_
 refine U.ps 1 T rfl ?_
 refine U.done (C.nx (C.seq ?_))
 refine C.jn (fun (x3 : Bool) => [(4, .b x3)]) (fun (x3 : Bool) => []) 0 hm (fun x3 hm => ?_) (fun J4 hm hJ4 => ?_)
 refine C.nx (C.ret ?_)
 exact C.f0 T (rs' := [.b x3]) hβ ⟨x3, hm, rfl, rfl, rfl⟩
 refine U.start ?_
 refine U.ps 2 T rfl ?_
 refine U.e rfl (.none rfl) (by exact Eff.k (T_rules_isCell s_1 c _ hm) en77 rfl rfl rfl (.eq rfl) (fun _ _ => ⟨(.v _), trivial⟩)) (fun x5' hm => ?_)
 obtain ⟨x5⟩ := x5'
 refine U.ps 1 T rfl ?_
 refine hm.cs (fun hb6 hm => ?_) (fun hb6 hm => ?_)
 refine U.pg 4 3 true 8 hb6 T rfl rfl rfl rfl ?_
 obtain ⟨x7, hx7, hm⟩ := hm
 refine U.r rfl (.take 3 true 8 _ hb6 rfl rfl rfl) rfl rfl (by exact Rd.ix T rfl rfl rfl rfl rfl rfl hx7) ?_
 refine U.pg 3 3 true 8 hb6 T rfl rfl rfl rfl ?_
 refine hm.cs (fun hb8 hm => ?_) (fun hb8 hm => ?_)
 refine U.sks 7 11 false 16 hb8 rfl rfl rfl ?_
 refine U.r rfl (.take 3 true 8 _ hb6 rfl rfl rfl) rfl rfl (by exact Rd.pk rfl rfl hb8 rfl) ?_
 refine U.r rfl (.none rfl) rfl rfl (by exact Rd.pk rfl rfl hb6 rfl) ?_
 refine U.ps 1 T rfl ?_
 refine U.done ?_
 exact St.wk (hJ4 _ hm) (Wk.e)
 refine U.pg 4 11 false 16 hb8 T rfl rfl rfl rfl ?_
 refine U.r rfl (.take 11 false 16 _ hb8 rfl rfl rfl) rfl rfl (by exact Rd.ix T rfl rfl rfl rfl rfl rfl hx7) ?_
 refine U.pg 2 11 false 16 hb8 T rfl rfl rfl rfl ?_
 refine U.r rfl (.take 3 true 8 _ hb6 rfl rfl rfl) rfl rfl (by exact Rd.pk' rfl rfl hb8 rfl) ?_
 refine U.r rfl (.none rfl) rfl rfl (by exact Rd.pk rfl rfl hb6 rfl) ?_
 refine U.ps 1 T rfl ?_
 refine U.done ?_
 exact St.wk (hJ4 _ hm) (Wk.e)
 refine U.sks 8 3 true 8 hb6 rfl rfl rfl ?_
 refine U.sku 7 11 false 16 rfl rfl rfl ?_
 refine U.sks 1 3 true 8 hb6 rfl rfl rfl ?_
 refine U.r rfl (.none rfl) rfl rfl (by exact Rd.pk' rfl rfl hb6 rfl) ?_
 refine U.ps 1 T rfl ?_
 refine U.done ?_
 exact St.wk (hJ4 _ hm) (Wk.e)
theorem T_floor_Near (f : ApiFloor) (a : Int) (b : Int) (post : Bool → Prop) (hm : V_floor_Near f a b post) :
    Tr Tryz.prog 54 [.agg (eApiFloor f), .i a, .i b] [] 0 (fun A H' k => ∃ y, post y ∧ A = (.b y) ∧ H' = [] ∧ k = 0) := by
 refine Tr.intro (n := 24) Tryz.func54 rfl Tryz.ntmps54 rfl (fun w0 ok F β hβ => ?_)
 unfold V_floor_Near at hm
 refine C.seq (U.start ?_)
 refine U.e1 rfl (.none rfl) (by exact Eff1.box rfl rfl rfl rfl rfl) ?_
 refine U.ps 1 T rfl ?_
 refine U.done (C.nx (C.seq (C.seq (U.start ?_))))
 refine U.ps 2 T rfl ?_
 refine U.e rfl (.none rfl) (by exact Eff.k (T_floor_is f b _ hm) en81 rfl rfl rfl (.eq rfl) (fun _ _ => ⟨(.v _), trivial⟩)) (fun x5' hm => ?_)
 obtain ⟨x5⟩ := x5'
 refine U.ps 1 T rfl ?_
 refine U.done (C.nx ?_)
 refine C.ite rfl hm (fun hb6 hm => ?_) (fun hb6 hm => ?_)
 refine C.seq (U.start ?_)
 refine U.ps 1 T rfl ?_
 refine U.done (C.nx (C.ret (C.rt ?_)))
 exact C.f0 T (rs' := [.b false]) hβ ⟨false, hm, rfl, rfl, rfl⟩
 refine C.skip (C.nx (C.seq (C.seq (U.start ?_))))
 refine U.ps 2 T rfl ?_
 refine U.done (C.nx ?_)
 refine C.jn (fun (x11 : Unit) => []) (fun (x11 : Unit) => []) 0 hm (fun x11 hm => ?_) (fun J12 hm hJ12 => ?_)
 refine C.nx (C.seq (U.start ?_))
 refine U.ps 1 T rfl ?_
 refine U.done (C.nx (C.ret ?_))
 exact C.f0 T (rs' := [.b false]) hβ ⟨false, hm, rfl, rfl, rfl⟩
 refine C.block ?_
 refine St.wk (C.loop (fun (s13 : Int) => [(1, .i a), (2, .i b), (3, .p 0 0), (13, .agg [.i 0, .i 1, .i 2, .i 3]), (14, .i s13)]) (fun (s13 : Int) => [(0, .box (eApiFloor f))]) hm (fun s13 Y14 hm => ?_)) (Wk.f [some 0] ⟨bX, trivial⟩)
 refine C.seq (U.start ?_)
 refine U.ps 1 T rfl ?_
 refine U.done (C.nx (C.seq ?_))
 refine C.ite rfl hm (fun hb17 hm => ?_) (fun hb17 hm => ?_)
 refine C.skip (C.nx (C.seq (C.block (C.seq (U.start ?_)))))
 obtain ⟨x20, hx20, hm⟩ := hm
 refine U.r rfl (.none rfl) rfl rfl (by exact Rd.ia1 T (enc := eI) rfl rfl rfl rfl rfl rfl rfl rfl rfl (fun _ => rfl) rfl hx20) ?_
 refine U.ps 1 T rfl ?_
 refine U.done (C.nx (C.seq (U.start ?_)))
 refine U.ps 3 T rfl ?_
 refine U.e rfl (.none rfl) (by exact Eff.k (T_floor_beside f a x20 _ hm) en62 rfl rfl rfl (.eq rfl) (fun _ _ => ⟨(.v _), trivial⟩)) (fun x23' hm => ?_)
 obtain ⟨x23⟩ := x23'
 refine U.ps 2 T rfl ?_
 refine U.done (C.nx ?_)
 refine C.ite rfl hm (fun hb24 hm => ?_) (fun hb24 hm => ?_)
 refine C.seq (U.start ?_)
 refine U.ps 1 T rfl ?_
 refine U.done (C.nx (C.ret (C.brt (C.rt (C.rt (C.brt (C.rt ?_)))))))
 exact C.f0 T (rs' := [.b true]) hβ ⟨true, hm, rfl, rfl, rfl⟩
 refine C.skip (C.bnx (C.nx (U.start ?_)))
 refine U.ps 2 T rfl ?_
 refine U.done (C.nx ?_)
 exact St.wk (C.next hm) (Wk.f [some 0] ⟨bX, trivial⟩)
 refine C.exit (C.ex (C.ex (C.bex ?_)))
 exact St.wk (hJ12 _ hm) (Wk.mk' [] rfl rfl trivial trivial rfl)
theorem T_rules_Carried_1 (r : ApiRobot) (c0 : Int) (post : Bool → Prop) (hm : V_rules_Carried_1 r c0 post) :
    Tr Tryz.prog 83 [.agg (eApiRobot r), .rp [.i c0]] [] 0 (fun A H' k => ∃ y, post y ∧ A = (.b y) ∧ H' = [] ∧ k = 0) := by
 refine Tr.intro (n := 8) Tryz.func83 rfl Tryz.ntmps83 rfl (fun w0 ok F β hβ => ?_)
 unfold V_rules_Carried_1 at hm
 refine C.seq (U.start ?_)
 refine U.e1 rfl (.none rfl) (by exact Eff1.box rfl rfl rfl rfl rfl) ?_
 refine U.ps 1 T rfl ?_
 refine U.done (C.nx (C.seq (U.start ?_)))
 refine U.ps 5 T rfl ?_
 refine U.done (C.nx (C.ret ?_))
 exact C.f0 T (rs' := [.b (r.Load == c0)]) hβ ⟨(r.Load == c0), hm, rfl, rfl, rfl⟩
theorem T_slices_IndexFunc_api_Robot_api_Robot__rules_Carried_1 (s_1 : List ApiRobot) (f_c0 : Int) (post : Int → Prop) (hm : V_slices_IndexFunc_api_Robot_api_Robot__rules_Carried_1 s_1 f_c0 post) :
    Tr Tryz.prog 82 [.sl 6 eApiRobot s_1, .fn (.func 83) [] [.rp [.i f_c0]]] [] 0 (fun A H' k => ∃ y, post y ∧ A = (.i y) ∧ H' = [] ∧ k = 0) := by
 refine Tr.intro (n := 19) Tryz.func82 rfl Tryz.ntmps82 rfl (fun w0 ok F β hβ => ?_)
 unfold V_slices_IndexFunc_api_Robot_api_Robot__rules_Carried_1 at hm
 refine C.seq (U.start ?_)
 refine U.ps 1 T rfl ?_
 refine U.done (C.nx (C.seq (C.seq (U.start ?_))))
 refine U.ps 3 T rfl ?_
 refine U.done (C.nx ?_)
 refine C.jn (fun (x5 : Unit) => []) (fun (x5 : Unit) => []) 0 hm (fun x5 hm => ?_) (fun J6 hm hJ6 => ?_)
 refine C.nx (C.seq (U.start ?_))
 refine U.ps 1 T rfl ?_
 refine U.done (C.nx (C.ret ?_))
 exact C.f0 T (rs' := [.i (-1)]) hβ ⟨(-1), hm, rfl, rfl, rfl⟩
 refine C.block ?_
 refine St.wk (C.loop (fun (s7 : Int) => [(0, .sl 6 eApiRobot s_1), (1, .fn (.func 83) [] [.rp [.i f_c0]]), (7, .i (s_1.length : Int)), (8, .i s7)]) (fun (s7 : Int) => []) hm (fun s7 Y8 hm => ?_)) (Wk.e)
 refine C.seq (U.start ?_)
 refine U.ps 1 T rfl ?_
 refine U.done (C.nx (C.seq ?_))
 refine C.ite rfl hm (fun hb11 hm => ?_) (fun hb11 hm => ?_)
 refine C.skip (C.nx (C.seq (C.block (C.seq (U.start ?_)))))
 refine U.ps 2 T rfl ?_
 refine U.done (C.nx (C.seq (U.start ?_)))
 refine U.ps 3 T rfl ?_
 obtain ⟨x16, hx16, hm⟩ := hm
 refine U.r rfl (.none rfl) rfl rfl (by exact Rd.ix T rfl rfl rfl rfl rfl rfl hx16) ?_
 refine U.ps 1 T rfl ?_
 refine U.e rfl (.none rfl) (by exact Eff.k (T_rules_Carried_1 x16 f_c0 _ hm) en83 rfl rfl rfl (.eq rfl) (fun _ _ => ⟨(.v _), trivial⟩)) (fun x17' hm => ?_)
 obtain ⟨x17⟩ := x17'
 refine U.done (C.nx ?_)
 refine C.ite rfl hm (fun hb18 hm => ?_) (fun hb18 hm => ?_)
 refine C.seq (U.start ?_)
 refine U.ps 2 T rfl ?_
 refine U.done (C.nx (C.ret (C.brt (C.rt (C.rt (C.brt (C.rt ?_)))))))
 exact C.f0 T (rs' := [.i s7]) hβ ⟨s7, hm, rfl, rfl, rfl⟩
 refine C.skip (C.bnx (C.nx (U.start ?_)))
 refine U.ps 2 T rfl ?_
 refine U.done (C.nx ?_)
 exact St.wk (C.next hm) (Wk.e)
 refine C.exit (C.ex (C.ex (C.bex ?_)))
 exact St.wk (hJ6 _ hm) (Wk.mk' [] rfl rfl trivial trivial rfl)
theorem T_rules_Carried (st : ApiState) (shelf : Int) (post : Int → Prop) (hm : V_rules_Carried st shelf post) :
    Tr Tryz.prog 55 [.agg (eApiState st), .i shelf] [] 0 (fun A H' k => ∃ y, post y ∧ A = (.i y) ∧ H' = [] ∧ k = 0) := by
 refine Tr.intro (n := 11) Tryz.func55 rfl Tryz.ntmps55 rfl (fun w0 ok F β hβ => ?_)
 unfold V_rules_Carried at hm
 refine C.seq (U.start ?_)
 refine U.e1 rfl (.none rfl) (by exact Eff1.box rfl rfl rfl rfl rfl) ?_
 refine U.e1 rfl (.none rfl) (by exact Eff1.box rfl rfl rfl rfl rfl) ?_
 refine U.ps 1 T rfl ?_
 refine U.done (C.nx (C.seq (C.seq (U.start ?_))))
 refine U.ps 2 T rfl ?_
 refine U.done (C.nx ?_)
 refine C.ite rfl hm (fun hb5 hm => ?_) (fun hb5 hm => ?_)
 refine C.seq (U.start ?_)
 refine U.ps 1 T rfl ?_
 refine U.done (C.nx (C.ret (C.rt ?_)))
 exact C.f0 T (rs' := [.i (-1)]) hβ ⟨(-1), hm, rfl, rfl, rfl⟩
 refine C.skip (C.nx (C.seq (U.start ?_)))
 refine U.ps 3 T rfl ?_
 refine U.e rfl (.none rfl) (by exact Eff.k (T_slices_IndexFunc_api_Robot_api_Robot__rules_Carried_1 st.Robots shelf _ hm) en82 rfl rfl rfl (.cons (.eq rfl) (.cons (.fn (.eq rfl) (.cons (.fzp rfl rfl rfl rfl (.eq rfl) rfl) .nil)) .nil)) (fun _ _ => ⟨(.v _), trivial⟩)) (fun x10' hm => ?_)
 obtain ⟨x10⟩ := x10'
 refine U.ps 1 T rfl ?_
 refine U.done (C.nx (C.ret ?_))
 exact C.f0 T (rs' := [.i x10]) hβ ⟨x10, hm, rfl, rfl, rfl⟩
theorem T_rules_Class (s_1 : ApiSite) (shelf : Int) (post : ByteArray → Prop) (hm : V_rules_Class s_1 shelf post) :
    Tr Tryz.prog 57 [.agg (eApiSite s_1), .i shelf] [] 0 (fun A H' k => ∃ y, post y ∧ A = (.v (.string y)) ∧ H' = [] ∧ k = 0) := by
 refine Tr.intro (n := 20) Tryz.func57 rfl Tryz.ntmps57 rfl (fun w0 ok F β hβ => ?_)
 unfold V_rules_Class at hm
 refine C.seq (U.start ?_)
 refine U.e1 rfl (.none rfl) (by exact Eff1.box rfl rfl rfl rfl rfl) ?_
 refine U.ps 1 T rfl ?_
 refine U.done (C.nx (C.seq (C.seq ?_)))
 refine C.jn (fun (x3 : Bool) => [(1, .i shelf), (2, .p 0 0), (13, .b x3)]) (fun (x3 : Bool) => [(0, .box (eApiSite s_1))]) 1 hm (fun x3 hm => ?_) (fun J4 hm hJ4 => ?_)
 refine C.nx ?_
 refine C.ite rfl hm (fun hb6 hm => ?_) (fun hb6 hm => ?_)
 refine C.seq (U.start ?_)
 refine U.ps 1 T rfl ?_
 refine U.done (C.nx (C.ret (C.rt ?_)))
 exact C.f0 T (rs' := [.v (.string ByteArray.empty)]) hβ ⟨ByteArray.empty, hm, rfl, rfl, rfl⟩
 refine C.skip (C.nx (C.seq (U.start ?_)))
 refine U.ps 3 T rfl ?_
 obtain ⟨x11, hx11, hm⟩ := hm
 refine U.r rfl (.none rfl) rfl rfl (by exact Rd.ix T rfl rfl rfl rfl rfl rfl hx11) ?_
 refine U.ps 3 T rfl ?_
 refine U.done (C.nx (C.ret ?_))
 exact C.f0 T (rs' := [.v (.string x11.Class)]) hβ ⟨x11.Class, hm, rfl, rfl, rfl⟩
 refine U.start ?_
 refine U.ps 3 T rfl ?_
 refine hm.cs (fun hb5 hm => ?_) (fun hb5 hm => ?_)
 refine U.sks 5 2 false 7 hb5 rfl rfl rfl ?_
 refine U.r rfl (.none rfl) rfl rfl (by exact Rd.pk rfl rfl hb5 rfl) ?_
 refine U.done ?_
 exact St.wk (hJ4 _ hm) (Wk.f [some 0] ⟨bX, trivial⟩)
 refine U.pg 5 2 false 7 hb5 T rfl rfl rfl rfl ?_
 refine U.r rfl (.none rfl) rfl rfl (by exact Rd.pk' rfl rfl hb5 rfl) ?_
 refine U.done ?_
 exact St.wk (hJ4 _ hm) (Wk.f [some 0] ⟨bX, trivial⟩)
theorem T_rules_classes (s_1 : ApiSite) (post : (List (ApiApart × Bool)) → Prop) (hm : V_rules_classes s_1 post) :
    Tr Tryz.prog 84 [.agg (eApiSite s_1)] [] 0 (fun A H' k => ∃ y, post y ∧ A = (.o 0) ∧ H' = [(0, .val (.om kApiApart veB y))] ∧ k = 1) := by
 refine Tr.intro (n := 24) Tryz.func84 rfl Tryz.ntmps84 rfl (fun w0 ok F β hβ => ?_)
 unfold V_rules_classes at hm
 refine C.seq (U.start ?_)
 refine U.e1 rfl (.none rfl) (by exact Eff1.box rfl rfl rfl rfl rfl) ?_
 refine U.ps 1 T rfl ?_
 refine U.done (C.nx (C.seq (U.start ?_)))
 refine U.e1 rfl (.none rfl) (by exact Eff1.mm kApiApart veB rfl rfl rfl) ?_
 refine U.ps 1 T rfl ?_
 refine U.done (C.nx (C.seq (C.seq (U.start ?_))))
 refine U.ps 4 T rfl ?_
 refine U.done (C.nx ?_)
 refine C.jn (fun (x7 : List (ApiApart × Bool)) => [(3, .o 0)]) (fun (x7 : List (ApiApart × Bool)) => [(0, .val (.om kApiApart veB x7))]) 1 hm (fun x7 hm => ?_) (fun J8 hm hJ8 => ?_)
 refine C.nx (C.seq (U.start ?_))
 refine U.ps 2 T rfl ?_
 refine U.done (C.nx (C.ret ?_))
 exact C.fin T (rs' := [.o 0]) (H' := [(0, .val (.om kApiApart veB x7))]) (nl' := 1) [some 0] rfl rfl (.eq rfl) ⟨vL, trivial⟩ rfl rfl rfl rfl hβ ⟨x7, hm, rfl, rfl, rfl⟩
 refine C.block ?_
 refine St.wk (C.loop (fun (s9 : List (ApiApart × Bool) × Int) => [(3, .o 0), (8, .sl 2 eApiApart s_1.Aparts), (9, .i (s_1.Aparts.length : Int)), (10, .i s9.2)]) (fun (s9 : List (ApiApart × Bool) × Int) => [(0, .val (.om kApiApart veB s9.1))]) hm (fun s9 Y10 hm => ?_)) (Wk.f [some 1] ⟨vL, trivial⟩)
 refine C.seq (U.start ?_)
 refine U.ps 1 T rfl ?_
 refine U.done (C.nx (C.seq ?_))
 refine C.ite rfl hm (fun hb13 hm => ?_) (fun hb13 hm => ?_)
 refine C.skip (C.nx (C.seq (C.block (C.seq (U.start ?_)))))
 obtain ⟨x16, hx16, hm⟩ := hm
 refine U.r rfl (.none rfl) rfl rfl (by exact Rd.ix T rfl rfl rfl rfl rfl rfl hx16) ?_
 refine U.ps 1 T rfl ?_
 refine U.e1 rfl (.none rfl) (by exact Eff1.al T rfl rfl rfl rfl) ?_
 refine U.e1 rfl (.none rfl) (by exact Eff1.st T rfl rfl rfl rfl rfl rfl rfl rfl rfl rfl) ?_
 refine U.done (C.nx ?_)
 refine D.beg 9 [1] [0] mix rfl rfl (by kernel_rfl) (by repeat (first | exact NoPanicQ.body | exact NoPanicQ.rnd | refine NoPanicQ.th ?_ | refine NoPanicQ.blk ?_)) (fun hQ hS ws M' => ?_)
 refine D.ps 8 [(0, []), (1, []), (2, []), (3, []), (4, []), (5, []), (6, []), (7, [])] rfl hQ hS T rfl rfl (by kernel_rfl) ?_
 refine D.e1 8 rfl (.none rfl) (by exact Eff1.mu T (x := x16) (y := true) (.inl rfl) rfl kt90 (fun _ => rfl) rfl rfl rfl rfl rfl (.inl rfl) rfl) (by kernel_rfl) rfl rfl ?_
 refine D.ze1 rfl (.none rfl) (by exact Eff1.mu T (x := ({ A := x16.B, B := x16.A : ApiApart })) (y := true) (.inl rfl) rfl kt90 (fun _ => rfl) rfl rfl rfl rfl rfl (.inl rfl) rfl) (by kernel_rfl) (by kernel_rfl) ?_
 refine C.bnx (C.nx (U.start ?_))
 refine U.ps 2 T rfl ?_
 refine U.done (C.nx ?_)
 exact St.wk (C.next hm) (Wk.f [some 0] ⟨vL, trivial⟩)
 refine C.exit (C.ex (C.ex (C.bex ?_)))
 exact St.wk (hJ8 _ hm) (Wk.f [some 0] ⟨vL, trivial⟩)
theorem T_rules_Never (s_1 : ApiSite) (a : ByteArray) (b : ByteArray) (post : Bool → Prop) (hm : V_rules_Never s_1 a b post) :
    Tr Tryz.prog 56 [.agg (eApiSite s_1), .v (.string a), .v (.string b)] [] 0 (fun A H' k => ∃ y, post y ∧ A = (.b y) ∧ H' = [] ∧ k = 0) := by
 refine Tr.intro (n := 21) Tryz.func56 rfl Tryz.ntmps56 rfl (fun w0 ok F β hβ => ?_)
 unfold V_rules_Never at hm
 refine C.seq (U.start ?_)
 refine U.e1 rfl (.none rfl) (by exact Eff1.box rfl rfl rfl rfl rfl) ?_
 refine U.ps 1 T rfl ?_
 refine U.done (C.nx (C.seq ?_))
 refine C.jn (fun (x3 : Bool) => [(6, .b x3)]) (fun (x3 : Bool) => []) 0 hm (fun x3 hm => ?_) (fun J4 hm hJ4 => ?_)
 refine C.nx (C.ret ?_)
 exact C.f0 T (rs' := [.b x3]) hβ ⟨x3, hm, rfl, rfl, rfl⟩
 refine U.start ?_
 refine U.ps 3 T rfl ?_
 refine hm.cs (fun hb5 hm => ?_) (fun hb5 hm => ?_)
 refine U.sks 2 2 true 9 (ntF hb5) rfl rfl rfl ?_
 refine U.r rfl (.none rfl) rfl rfl (by exact Rd.pk' rfl rfl (ntF hb5) rfl) ?_
 refine U.ps 1 T rfl ?_
 refine U.sks 6 6 true 13 rfl rfl rfl rfl ?_
 refine U.r rfl (.none rfl) rfl rfl (by exact Rd.pk' rfl rfl rfl rfl) ?_
 refine U.ps 1 T rfl ?_
 refine U.done ?_
 exact St.wk (hJ4 _ hm) (Wk.e)
 refine U.pg 2 2 true 9 (ntT hb5) T rfl rfl rfl rfl ?_
 refine U.r rfl (.none rfl) rfl rfl (by exact Rd.pk rfl rfl (ntT hb5) rfl) ?_
 refine U.ps 1 T rfl ?_
 refine hm.cs (fun hb6 hm => ?_) (fun hb6 hm => ?_)
 refine U.sks 6 6 true 13 (ntF hb6) rfl rfl rfl ?_
 refine U.r rfl (.none rfl) rfl rfl (by exact Rd.pk' rfl rfl (ntF hb6) rfl) ?_
 refine U.ps 1 T rfl ?_
 refine U.done ?_
 exact St.wk (hJ4 _ hm) (Wk.e)
 refine U.pg 1 6 true 13 (ntT hb6) T rfl rfl rfl rfl ?_
 refine U.e rfl (.take 6 true 13 _ (ntT hb6) rfl rfl rfl) (by exact Eff.c [] (v := true) (T_rules_classes s_1 _ hm) en84 rfl rfl rfl (.eq rfl) trivial rfl rfl rfl rfl rfl rfl (fun _ _ => ⟨(.o _), ⟨.val (.om _ _ _ fun _ => (.v _)), trivial⟩⟩) (.inr ⟨rfl, rfl⟩) (fun _ => rfl) (fun _ => rfl) rfl) (fun x7' hm => ?_)
 obtain ⟨x7⟩ := x7'
 refine U.pg 3 6 true 13 (ntT hb6) T rfl rfl rfl rfl ?_
 refine U.r rfl (.take 6 true 13 _ (ntT hb6) rfl rfl rfl) rfl rfl (by exact Rd.lk T (ke := kApiApart) (ve := veB) (xs := x7) (z0 := false) (x := ({ A := a, B := b : ApiApart })) rfl rfl kt90 zt4 (fun _ => rfl) rfl (.o rfl) rfl rfl rfl) ?_
 refine U.r rfl (.none rfl) rfl rfl (by exact Rd.pk rfl rfl (ntT hb6) rfl) ?_
 refine U.ps 1 T rfl ?_
 refine U.done ?_
 exact St.wk (hJ4 _ hm) (Wk.e)
theorem T_rules_Drop (s_1 : ApiSite) (st : ApiState) (shelf : Int) (c : Int) (post : Int → Prop) (hm : V_rules_Drop s_1 st shelf c post) :
    Tr Tryz.prog 22 [.agg (eApiSite s_1), .agg (eApiState st), .i shelf, .i c] [] 0 (fun A H' k => ∃ y, post y ∧ A = (.i y) ∧ H' = [] ∧ k = 0) := by
 refine Tr.intro (n := 70) Tryz.func22 rfl Tryz.ntmps22 rfl (fun w0 ok F β hβ => ?_)
 unfold V_rules_Drop at hm
 refine C.seq (U.start ?_)
 refine U.e1 rfl (.none rfl) (by exact Eff1.box rfl rfl rfl rfl rfl) ?_
 refine U.e1 rfl (.none rfl) (by exact Eff1.box rfl rfl rfl rfl rfl) ?_
 refine U.ps 1 T rfl ?_
 refine U.done (C.nx (C.seq (C.block (C.seq ?_))))
 refine C.jn (fun (x3 : Bool) => [(2, .i shelf), (3, .i c), (4, .p 0 0), (5, .p 1 0), (12, .b x3)]) (fun (x3 : Bool) => [(0, .box (eApiSite s_1)), (1, .box (eApiState st))]) 2 hm (fun x3 hm => ?_) (fun J4 hm hJ4 => ?_)
 refine C.nx ?_
 refine C.ite rfl hm (fun hb6 hm => ?_) (fun hb6 hm => ?_)
 refine C.seq (U.start ?_)
 refine U.ps 1 T rfl ?_
 refine U.done (C.nx (C.ret (C.brt (C.rt ?_))))
 exact C.f0 T (rs' := [.i 4]) hβ ⟨4, hm, rfl, rfl, rfl⟩
 refine C.seq (U.start ?_)
 refine U.ps 2 T rfl ?_
 refine U.e rfl (.none rfl) (by exact Eff.k (T_rules_Stands s_1 c _ hm) en53 rfl rfl rfl (.eq rfl) (fun _ _ => ⟨(.v _), trivial⟩)) (fun x11' hm => ?_)
 obtain ⟨x11⟩ := x11'
 refine U.ps 2 T rfl ?_
 refine U.done (C.nx ?_)
 refine C.ite rfl hm (fun hb12 hm => ?_) (fun hb12 hm => ?_)
 refine C.seq (U.start ?_)
 refine U.ps 1 T rfl ?_
 refine U.done (C.nx (C.ret (C.brt (C.rt ?_))))
 exact C.f0 T (rs' := [.i 13]) hβ ⟨13, hm, rfl, rfl, rfl⟩
 refine C.skip (C.bnx (C.nx (C.seq (U.start ?_))))
 refine U.ps 1 T rfl ?_
 refine U.done (C.nx (C.seq (C.seq (U.start ?_))))
 refine U.ps 4 T rfl ?_
 refine U.done (C.nx ?_)
 refine C.jn (fun (x19 : Int) => [(9, .i x19)]) (fun (x19 : Int) => []) 0 hm (fun x19 hm => ?_) (fun J20 hm hJ20 => ?_)
 refine C.nx (C.seq (U.start ?_))
 refine U.ps 2 T rfl ?_
 refine U.done (C.nx (C.ret ?_))
 exact C.f0 T (rs' := [.i x19]) hβ ⟨x19, hm, rfl, rfl, rfl⟩
 refine C.block ?_
 refine St.wk (C.loop (fun (s21 : Int × Int) => [(2, .i shelf), (3, .i c), (4, .p 0 0), (5, .p 1 0), (9, .i s21.1), (28, .sl 1 eI st.Shelves), (29, .i (st.Shelves.length : Int)), (30, .i s21.2)]) (fun (s21 : Int × Int) => [(0, .box (eApiSite s_1)), (1, .box (eApiState st))]) hm (fun s21 Y22 hm => ?_)) (Wk.f [some 0, some 1] ⟨bX, bX, trivial⟩)
 refine C.seq (U.start ?_)
 refine U.ps 1 T rfl ?_
 refine U.done (C.nx (C.seq ?_))
 refine C.ite rfl hm (fun hb25 hm => ?_) (fun hb25 hm => ?_)
 refine C.skip (C.nx (C.seq ?_))
 refine C.jn (fun (x26 : Int) => [(2, .i shelf), (3, .i c), (4, .p 0 0), (5, .p 1 0), (9, .i x26), (28, .sl 1 eI st.Shelves), (29, .i (st.Shelves.length : Int)), (30, .i s21.2)]) (fun (x26 : Int) => [(0, .box (eApiSite s_1)), (1, .box (eApiState st))]) 2 hm (fun x26 hm => ?_) (fun J27 hm hJ27 => ?_)
 refine C.nx (U.start ?_)
 refine U.ps 2 T rfl ?_
 refine U.done (C.nx ?_)
 exact St.wk (C.next hm) (Wk.f [some 0, some 1] ⟨bX, bX, trivial⟩)
 refine C.block (C.seq (U.start ?_))
 refine U.ps 1 T rfl ?_
 obtain ⟨x30, hx30, hm⟩ := hm
 refine U.r rfl (.none rfl) rfl rfl (by exact Rd.ix T rfl rfl rfl rfl rfl rfl hx30) ?_
 refine U.ps 3 T rfl ?_
 refine U.done (C.nx (C.seq (C.seq ?_)))
 refine C.jn (fun (x31 : Bool) => [(2, .i shelf), (3, .i c), (4, .p 0 0), (5, .p 1 0), (9, .i s21.1), (10, .i s21.2), (11, .i x30), (28, .sl 1 eI st.Shelves), (29, .i (st.Shelves.length : Int)), (30, .i s21.2), (56, .b x31)]) (fun (x31 : Bool) => [(0, .box (eApiSite s_1)), (1, .box (eApiState st))]) 2 hm (fun x31 hm => ?_) (fun J32 hm hJ32 => ?_)
 refine C.nx ?_
 refine C.ite rfl hm (fun hb39 hm => ?_) (fun hb39 hm => ?_)
 refine C.exit (C.ex (C.bex ?_))
 exact St.wk (hJ27 _ hm) (Wk.f [some 0, some 1] ⟨bX, bX, trivial⟩)
 refine C.skip (C.nx (C.seq (C.seq (U.start ?_))))
 refine U.ps 3 T rfl ?_
 refine U.done (C.nx ?_)
 refine C.ite rfl hm (fun hb42 hm => ?_) (fun hb42 hm => ?_)
 refine C.seq (U.start ?_)
 refine U.ps 1 T rfl ?_
 refine U.done (C.nx (C.ret (C.rt (C.brt (C.rt (C.rt (C.brt (C.rt ?_))))))))
 exact C.f0 T (rs' := [.i 13]) hβ ⟨13, hm, rfl, rfl, rfl⟩
 refine C.skip (C.nx (C.seq ?_))
 refine D.beg 7 [0] [] mix rfl rfl (by kernel_rfl) (by repeat (first | exact NoPanicQ.body | exact NoPanicQ.rnd | refine NoPanicQ.th ?_ | refine NoPanicQ.blk ?_)) (fun hQ hS ws M' => ?_)
 refine D.ps 5 [(0, []), (1, [3]), (2, [3]), (4, [6]), (5, [6])] rfl hQ hS T rfl rfl (by kernel_rfl) ?_
 refine D.e 3 rfl (.none rfl) (by exact Eff.k (T_rules_Class s_1 shelf _ hm) en57 rfl rfl rfl (.eq rfl) (fun _ _ => ⟨(.v _), trivial⟩)) (by kernel_rfl) rfl rfl (fun x47' hm => ?_)
 obtain ⟨x47⟩ := x47'
 refine D.e 6 rfl (.none rfl) (by exact Eff.k (T_rules_Class s_1 s21.2 _ hm) en57 rfl rfl rfl (.eq rfl) (fun _ _ => ⟨(.v _), trivial⟩)) (by kernel_rfl) rfl rfl (fun x48' hm => ?_)
 obtain ⟨x48⟩ := x48'
 refine D.ze rfl (.none rfl) (by exact Eff.k (T_rules_Never s_1 x47 x48 _ hm) en56 rfl rfl rfl (.eq rfl) (fun _ _ => ⟨(.v _), trivial⟩)) (by kernel_rfl) (by kernel_rfl) (fun x49' hm => ?_)
 obtain ⟨x49⟩ := x49'
 refine C.nx ?_
 refine C.jn (fun (x50 : Int) => [(2, .i shelf), (3, .i c), (4, .p 0 0), (5, .p 1 0), (9, .i x50), (28, .sl 1 eI st.Shelves), (29, .i (st.Shelves.length : Int)), (30, .i s21.2)]) (fun (x50 : Int) => [(0, .box (eApiSite s_1)), (1, .box (eApiState st))]) 2 hm (fun x50 hm => ?_) (fun J51 hm hJ51 => ?_)
 refine C.bnx ?_
 exact St.wk (hJ27 _ hm) (Wk.f [some 0, some 1] ⟨bX, bX, trivial⟩)
 refine C.ite rfl hm (fun hb52 hm => ?_) (fun hb52 hm => ?_)
 refine U.start ?_
 refine U.ps 1 T rfl ?_
 refine U.done ?_
 exact St.wk (hJ51 _ hm) (Wk.f [some 0, some 1] ⟨bX, bX, trivial⟩)
 refine C.skip ?_
 exact St.wk (hJ51 _ hm) (Wk.f [some 0, some 1] ⟨bX, bX, trivial⟩)
 refine U.start ?_
 refine U.ps 4 T rfl ?_
 refine hm.cs (fun hb33 hm => ?_) (fun hb33 hm => ?_)
 refine U.sks 4 3 false 38 hb33 rfl rfl rfl ?_
 refine U.sku 6 7 true 42 rfl rfl rfl ?_
 refine U.sks 1 3 false 38 hb33 rfl rfl rfl ?_
 refine U.r rfl (.none rfl) rfl rfl (by exact Rd.pk rfl rfl hb33 rfl) ?_
 refine U.ps 1 T rfl ?_
 refine U.sks 4 16 false 51 rfl rfl rfl rfl ?_
 refine U.r rfl (.none rfl) rfl rfl (by exact Rd.pk rfl rfl rfl rfl) ?_
 refine U.done ?_
 exact St.wk (hJ32 _ hm) (Wk.f [some 0, some 1] ⟨bX, bX, trivial⟩)
 refine U.pg 4 3 false 38 hb33 T rfl rfl rfl rfl ?_
 refine hm.cs (fun hb34 hm => ?_) (fun hb34 hm => ?_)
 refine U.pg 4 7 true 42 hb34 T rfl rfl rfl rfl ?_
 refine U.e rfl (.take 7 true 42 _ hb34 rfl rfl rfl) (by exact Eff.k (T_floor_Near s_1.Floor x30 c _ hm) en54 rfl rfl rfl (.eq rfl) (fun _ _ => ⟨(.v _), trivial⟩)) (fun x35' hm => ?_)
 obtain ⟨x35⟩ := x35'
 refine U.pg 1 7 true 42 hb34 T rfl rfl rfl rfl ?_
 refine U.r rfl (.take 3 false 38 _ hb33 rfl rfl rfl) rfl rfl (by exact Rd.pk rfl rfl hb34 rfl) ?_
 refine U.r rfl (.none rfl) rfl rfl (by exact Rd.pk' rfl rfl hb33 rfl) ?_
 refine U.ps 1 T rfl ?_
 refine hm.cs (fun hb36 hm => ?_) (fun hb36 hm => ?_)
 refine U.pg 2 16 false 51 (ntF hb36) T rfl rfl rfl rfl ?_
 refine U.e rfl (.take 16 false 51 _ (ntF hb36) rfl rfl rfl) (by exact Eff.k (T_rules_Carried st s21.2 _ hm) en55 rfl rfl rfl (.eq rfl) (fun _ _ => ⟨(.v _), trivial⟩)) (fun x37' hm => ?_)
 obtain ⟨x37⟩ := x37'
 refine U.pg 1 16 false 51 (ntF hb36) T rfl rfl rfl rfl ?_
 refine U.r rfl (.none rfl) rfl rfl (by exact Rd.pk' rfl rfl (ntF hb36) rfl) ?_
 refine U.done ?_
 exact St.wk (hJ32 _ hm) (Wk.f [some 0, some 1] ⟨bX, bX, trivial⟩)
 refine U.sks 4 16 false 51 (ntT hb36) rfl rfl rfl ?_
 refine U.r rfl (.none rfl) rfl rfl (by exact Rd.pk rfl rfl (ntT hb36) rfl) ?_
 refine U.done ?_
 exact St.wk (hJ32 _ hm) (Wk.f [some 0, some 1] ⟨bX, bX, trivial⟩)
 refine U.sks 6 7 true 42 hb34 rfl rfl rfl ?_
 refine U.r rfl (.take 3 false 38 _ hb33 rfl rfl rfl) rfl rfl (by exact Rd.pk' rfl rfl hb34 rfl) ?_
 refine U.r rfl (.none rfl) rfl rfl (by exact Rd.pk' rfl rfl hb33 rfl) ?_
 refine U.ps 1 T rfl ?_
 refine U.pg 2 16 false 51 rfl T rfl rfl rfl rfl ?_
 refine U.e rfl (.take 16 false 51 _ rfl rfl rfl rfl) (by exact Eff.k (T_rules_Carried st s21.2 _ hm) en55 rfl rfl rfl (.eq rfl) (fun _ _ => ⟨(.v _), trivial⟩)) (fun x38' hm => ?_)
 obtain ⟨x38⟩ := x38'
 refine U.pg 1 16 false 51 rfl T rfl rfl rfl rfl ?_
 refine U.r rfl (.none rfl) rfl rfl (by exact Rd.pk' rfl rfl rfl rfl) ?_
 refine U.done ?_
 exact St.wk (hJ32 _ hm) (Wk.f [some 0, some 1] ⟨bX, bX, trivial⟩)
 refine C.exit (C.ex (C.ex (C.bex ?_)))
 exact St.wk (hJ20 _ hm) (Wk.e)
 refine U.start ?_
 refine U.ps 3 T rfl ?_
 refine hm.cs (fun hb5 hm => ?_) (fun hb5 hm => ?_)
 refine U.sks 5 2 false 15 hb5 rfl rfl rfl ?_
 refine U.r rfl (.none rfl) rfl rfl (by exact Rd.pk rfl rfl hb5 rfl) ?_
 refine U.ps 1 T rfl ?_
 refine U.done ?_
 exact St.wk (hJ4 _ hm) (Wk.f [some 0, some 1] ⟨bX, bX, trivial⟩)
 refine U.pg 5 2 false 15 hb5 T rfl rfl rfl rfl ?_
 refine U.r rfl (.none rfl) rfl rfl (by exact Rd.pk' rfl rfl hb5 rfl) ?_
 refine U.ps 1 T rfl ?_
 refine U.done ?_
 exact St.wk (hJ4 _ hm) (Wk.f [some 0, some 1] ⟨bX, bX, trivial⟩)
theorem T_act_Legal (s_1 : ApiSite) (st : ApiState) (robot : Int) (act : Int) (post : Int → Prop) (hm : V_act_Legal s_1 st robot act post) :
    Tr Tryz.prog 7 [.agg (eApiSite s_1), .agg (eApiState st), .i robot, .i act] [] 0 (fun A H' k => ∃ y, post y ∧ A = (.i y) ∧ H' = [] ∧ k = 0) := by
 refine Tr.intro (n := 110) Tryz.func7 rfl Tryz.ntmps7 rfl (fun w0 ok F β hβ => ?_)
 unfold V_act_Legal at hm
 refine C.seq (U.start ?_)
 refine U.e1 rfl (.none rfl) (by exact Eff1.box rfl rfl rfl rfl rfl) ?_
 refine U.e1 rfl (.none rfl) (by exact Eff1.box rfl rfl rfl rfl rfl) ?_
 refine U.ps 1 T rfl ?_
 refine U.done (C.nx (C.seq (C.seq ?_)))
 refine C.jn (fun (x3 : Bool) => [(2, .i robot), (3, .i act), (4, .p 0 0), (5, .p 1 0), (22, .b x3)]) (fun (x3 : Bool) => [(0, .box (eApiSite s_1)), (1, .box (eApiState st))]) 2 hm (fun x3 hm => ?_) (fun J4 hm hJ4 => ?_)
 refine C.nx ?_
 refine C.ite rfl hm (fun hb6 hm => ?_) (fun hb6 hm => ?_)
 refine C.seq (U.start ?_)
 refine U.ps 1 T rfl ?_
 refine U.done (C.nx (C.ret (C.rt ?_)))
 exact C.f0 T (rs' := [.i 4]) hβ ⟨4, hm, rfl, rfl, rfl⟩
 refine C.skip (C.nx (C.seq (C.seq ?_)))
 refine C.jn (fun (x9 : Bool) => [(2, .i robot), (3, .i act), (4, .p 0 0), (5, .p 1 0), (28, .b x9)]) (fun (x9 : Bool) => [(0, .box (eApiSite s_1)), (1, .box (eApiState st))]) 2 hm (fun x9 hm => ?_) (fun J10 hm hJ10 => ?_)
 refine C.nx ?_
 refine C.ite rfl hm (fun hb12 hm => ?_) (fun hb12 hm => ?_)
 refine C.seq (U.start ?_)
 refine U.ps 1 T rfl ?_
 refine U.done (C.nx (C.ret (C.rt ?_)))
 exact C.f0 T (rs' := [.i 1]) hβ ⟨1, hm, rfl, rfl, rfl⟩
 refine C.skip (C.nx (C.seq (C.seq (U.start ?_))))
 refine U.ps 2 T rfl ?_
 refine U.done (C.nx ?_)
 refine C.ite rfl hm (fun hb17 hm => ?_) (fun hb17 hm => ?_)
 refine C.seq (U.start ?_)
 refine U.ps 1 T rfl ?_
 refine U.done (C.nx (C.ret (C.rt ?_)))
 exact C.f0 T (rs' := [.i 0]) hβ ⟨0, hm, rfl, rfl, rfl⟩
 refine C.skip (C.nx (C.seq (U.start ?_)))
 refine U.ps 3 T rfl ?_
 obtain ⟨x22, hx22, hm⟩ := hm
 refine U.r rfl (.none rfl) rfl rfl (by exact Rd.ix T rfl rfl rfl rfl rfl rfl hx22) ?_
 refine U.ps 1 T rfl ?_
 refine U.e1 rfl (.none rfl) (by exact Eff1.al T rfl rfl rfl rfl) ?_
 refine U.e1 rfl (.none rfl) (by exact Eff1.st T rfl rfl rfl rfl rfl rfl rfl rfl rfl rfl) ?_
 refine U.done (C.nx (C.seq (U.start ?_)))
 refine U.ps 1 T rfl ?_
 refine U.e rfl (.none rfl) (by exact Eff.k (T_act_direction act _ hm) en18 rfl rfl rfl (.eq rfl) (fun _ _ => ⟨(.tup (.cons (.v _) (.cons (.v _) .nil))), trivial⟩)) (fun x25' hm => ?_)
 obtain ⟨x25⟩ := x25'
 refine U.ps 5 T rfl ?_
 refine U.done (C.nx (C.seq (C.seq ?_)))
 refine C.jn (fun (x26 : Bool) => [(3, .i act), (4, .p 0 0), (5, .p 1 0), (9, .p 2 0), (10, .i x25.1), (11, .b x25.2), (47, .b x26)]) (fun (x26 : Bool) => [(0, .box (eApiSite s_1)), (1, .box (eApiState st)), (2, .box (eApiRobot x22))]) 3 hm (fun x26 hm => ?_) (fun J27 hm hJ27 => ?_)
 refine C.nx ?_
 refine C.ite rfl hm (fun hb29 hm => ?_) (fun hb29 hm => ?_)
 refine C.seq (U.start ?_)
 refine U.ps 1 T rfl ?_
 refine U.done (C.nx (C.ret (C.rt ?_)))
 exact C.f0 T (rs' := [.i 9]) hβ ⟨9, hm, rfl, rfl, rfl⟩
 refine C.skip (C.nx (C.seq (C.seq ?_)))
 refine C.jn (fun (x32 : Bool) => [(3, .i act), (4, .p 0 0), (5, .p 1 0), (9, .p 2 0), (10, .i x25.1), (11, .b x25.2), (53, .b x32)]) (fun (x32 : Bool) => [(0, .box (eApiSite s_1)), (1, .box (eApiState st)), (2, .box (eApiRobot x22))]) 3 hm (fun x32 hm => ?_) (fun J33 hm hJ33 => ?_)
 refine C.nx ?_
 refine C.ite rfl hm (fun hb35 hm => ?_) (fun hb35 hm => ?_)
 refine C.seq (U.start ?_)
 refine U.ps 1 T rfl ?_
 refine U.done (C.nx (C.ret (C.rt ?_)))
 exact C.f0 T (rs' := [.i 8]) hβ ⟨8, hm, rfl, rfl, rfl⟩
 refine C.skip (C.nx (C.seq (C.seq (U.start ?_))))
 refine U.ps 8 T rfl ?_
 refine U.e rfl (.none rfl) (by exact Eff.k (T_battery_After st.Tick x22.Charge act (decide (x22.Load ≥ 0)) _ hm) en19 rfl rfl rfl (.eq rfl) (fun _ _ => ⟨(.tup (.cons (.v _) (.cons (.v _) .nil))), trivial⟩)) (fun x40' hm => ?_)
 obtain ⟨x40⟩ := x40'
 refine U.ps 5 T rfl ?_
 refine U.done (C.nx (C.seq (U.start ?_)))
 refine U.ps 2 T rfl ?_
 refine U.done (C.nx ?_)
 refine C.ite rfl hm (fun hb43 hm => ?_) (fun hb43 hm => ?_)
 refine C.seq (U.start ?_)
 refine U.ps 2 T rfl ?_
 refine U.done (C.nx (C.ret (C.rt ?_)))
 exact C.f0 T (rs' := [.i x40.2]) hβ ⟨x40.2, hm, rfl, rfl, rfl⟩
 refine C.skip (C.nx (C.seq (C.block (C.seq (U.start ?_)))))
 refine U.ps 2 T rfl ?_
 refine U.done (C.nx ?_)
 refine C.ite rfl hm (fun hb48 hm => ?_) (fun hb48 hm => ?_)
 refine C.seq (U.start ?_)
 refine U.ps 4 T rfl ?_
 refine U.e rfl (.none rfl) (by exact Eff.k (T_act_move s_1 st x22 x25.1 _ hm) en20 rfl rfl rfl (.eq rfl) (fun _ _ => ⟨(.v _), trivial⟩)) (fun x51' hm => ?_)
 obtain ⟨x51⟩ := x51'
 refine U.ps 1 T rfl ?_
 refine U.done (C.nx (C.ret (C.brt (C.rt ?_))))
 exact C.f0 T (rs' := [.i x51]) hβ ⟨x51, hm, rfl, rfl, rfl⟩
 refine C.seq (U.start ?_)
 refine U.ps 3 T rfl ?_
 refine U.done (C.nx ?_)
 refine C.ite rfl hm (fun hb54 hm => ?_) (fun hb54 hm => ?_)
 refine C.seq (U.start ?_)
 refine U.ps 3 T rfl ?_
 refine U.e rfl (.none rfl) (by exact Eff.k (T_act_lift s_1 st x22 _ hm) en21 rfl rfl rfl (.eq rfl) (fun _ _ => ⟨(.v _), trivial⟩)) (fun x57' hm => ?_)
 obtain ⟨x57⟩ := x57'
 refine U.ps 1 T rfl ?_
 refine U.done (C.nx (C.ret (C.brt (C.rt ?_))))
 exact C.f0 T (rs' := [.i x57]) hβ ⟨x57, hm, rfl, rfl, rfl⟩
 refine C.seq ?_
 refine C.jn (fun (x58 : Bool) => [(3, .i act), (4, .p 0 0), (5, .p 1 0), (9, .p 2 0), (83, .b x58)]) (fun (x58 : Bool) => [(0, .box (eApiSite s_1)), (1, .box (eApiState st)), (2, .box (eApiRobot x22))]) 3 hm (fun x58 hm => ?_) (fun J59 hm hJ59 => ?_)
 refine C.nx ?_
 refine C.ite rfl hm (fun hb61 hm => ?_) (fun hb61 hm => ?_)
 refine C.seq (U.start ?_)
 refine U.ps 1 T rfl ?_
 refine U.done (C.nx (C.ret (C.brt (C.rt ?_))))
 exact C.f0 T (rs' := [.i 7]) hβ ⟨7, hm, rfl, rfl, rfl⟩
 refine C.seq (U.start ?_)
 refine U.ps 3 T rfl ?_
 refine U.done (C.nx ?_)
 refine C.ite rfl hm (fun hb66 hm => ?_) (fun hb66 hm => ?_)
 refine C.seq (U.start ?_)
 refine U.ps 6 T rfl ?_
 refine U.e rfl (.none rfl) (by exact Eff.k (T_rules_Drop s_1 st x22.Load x22.Cell _ hm) en22 rfl rfl rfl (.eq rfl) (fun _ _ => ⟨(.v _), trivial⟩)) (fun x69' hm => ?_)
 obtain ⟨x69⟩ := x69'
 refine U.ps 1 T rfl ?_
 refine U.done (C.nx (C.ret (C.brt (C.rt ?_))))
 exact C.f0 T (rs' := [.i x69]) hβ ⟨x69, hm, rfl, rfl, rfl⟩
 refine C.seq (U.start ?_)
 refine U.ps 5 T rfl ?_
 obtain ⟨x72, hx72, hm⟩ := hm
 refine U.r rfl (.none rfl) rfl rfl (by exact Rd.ix T rfl rfl rfl rfl rfl rfl hx72) ?_
 refine U.ps 3 T rfl ?_
 refine U.done (C.nx ?_)
 refine C.ite rfl hm (fun hb73 hm => ?_) (fun hb73 hm => ?_)
 refine C.seq (U.start ?_)
 refine U.ps 1 T rfl ?_
 refine U.done (C.nx (C.ret (C.brt (C.rt ?_))))
 exact C.f0 T (rs' := [.i 13]) hβ ⟨13, hm, rfl, rfl, rfl⟩
 refine C.skip (C.bnx (C.nx (C.seq (U.start ?_))))
 refine U.ps 1 T rfl ?_
 refine U.done (C.nx (C.ret ?_))
 exact C.f0 T (rs' := [.i 0]) hβ ⟨0, hm, rfl, rfl, rfl⟩
 refine U.start ?_
 refine U.ps 3 T rfl ?_
 refine hm.cs (fun hb60 hm => ?_) (fun hb60 hm => ?_)
 refine U.pg 3 2 true 86 hb60 T rfl rfl rfl rfl ?_
 refine U.r rfl (.none rfl) rfl rfl (by exact Rd.pk rfl rfl hb60 rfl) ?_
 refine U.ps 1 T rfl ?_
 refine U.done ?_
 exact St.wk (hJ59 _ hm) (Wk.f [some 0, some 1, some 2] ⟨bX, bX, bX, trivial⟩)
 refine U.sks 3 2 true 86 hb60 rfl rfl rfl ?_
 refine U.r rfl (.none rfl) rfl rfl (by exact Rd.pk' rfl rfl hb60 rfl) ?_
 refine U.ps 1 T rfl ?_
 refine U.done ?_
 exact St.wk (hJ59 _ hm) (Wk.f [some 0, some 1, some 2] ⟨bX, bX, bX, trivial⟩)
 refine U.start ?_
 refine U.ps 2 T rfl ?_
 refine hm.cs (fun hb34 hm => ?_) (fun hb34 hm => ?_)
 refine U.pg 3 1 true 49 hb34 T rfl rfl rfl rfl ?_
 refine U.r rfl (.none rfl) rfl rfl (by exact Rd.pk rfl rfl hb34 rfl) ?_
 refine U.done ?_
 exact St.wk (hJ33 _ hm) (Wk.f [some 0, some 1, some 2] ⟨bX, bX, bX, trivial⟩)
 refine U.sks 3 1 true 49 hb34 rfl rfl rfl ?_
 refine U.r rfl (.none rfl) rfl rfl (by exact Rd.pk' rfl rfl hb34 rfl) ?_
 refine U.done ?_
 exact St.wk (hJ33 _ hm) (Wk.f [some 0, some 1, some 2] ⟨bX, bX, bX, trivial⟩)
 refine U.start ?_
 refine U.ps 3 T rfl ?_
 refine hm.cs (fun hb28 hm => ?_) (fun hb28 hm => ?_)
 refine U.sks 3 2 false 43 hb28 rfl rfl rfl ?_
 refine U.r rfl (.none rfl) rfl rfl (by exact Rd.pk rfl rfl hb28 rfl) ?_
 refine U.done ?_
 exact St.wk (hJ27 _ hm) (Wk.f [some 0, some 1, some 2] ⟨bX, bX, bX, trivial⟩)
 refine U.pg 3 2 false 43 hb28 T rfl rfl rfl rfl ?_
 refine U.r rfl (.none rfl) rfl rfl (by exact Rd.pk' rfl rfl hb28 rfl) ?_
 refine U.done ?_
 exact St.wk (hJ27 _ hm) (Wk.f [some 0, some 1, some 2] ⟨bX, bX, bX, trivial⟩)
 refine U.start ?_
 refine U.ps 3 T rfl ?_
 refine hm.cs (fun hb11 hm => ?_) (fun hb11 hm => ?_)
 refine U.sks 2 2 false 25 hb11 rfl rfl rfl ?_
 refine U.r rfl (.none rfl) rfl rfl (by exact Rd.pk rfl rfl hb11 rfl) ?_
 refine U.done ?_
 exact St.wk (hJ10 _ hm) (Wk.f [some 0, some 1] ⟨bX, bX, trivial⟩)
 refine U.pg 2 2 false 25 hb11 T rfl rfl rfl rfl ?_
 refine U.r rfl (.none rfl) rfl rfl (by exact Rd.pk' rfl rfl hb11 rfl) ?_
 refine U.done ?_
 exact St.wk (hJ10 _ hm) (Wk.f [some 0, some 1] ⟨bX, bX, trivial⟩)
 refine U.start ?_
 refine U.ps 3 T rfl ?_
 refine hm.cs (fun hb5 hm => ?_) (fun hb5 hm => ?_)
 refine U.sks 5 2 false 16 hb5 rfl rfl rfl ?_
 refine U.r rfl (.none rfl) rfl rfl (by exact Rd.pk rfl rfl hb5 rfl) ?_
 refine U.done ?_
 exact St.wk (hJ4 _ hm) (Wk.f [some 0, some 1] ⟨bX, bX, trivial⟩)
 refine U.pg 5 2 false 16 hb5 T rfl rfl rfl rfl ?_
 refine U.r rfl (.none rfl) rfl rfl (by exact Rd.pk' rfl rfl hb5 rfl) ?_
 refine U.done ?_
 exact St.wk (hJ4 _ hm) (Wk.f [some 0, some 1] ⟨bX, bX, trivial⟩)
theorem T_slices_Clone_int_int (s_1 : List Int) (post : (List Int) → Prop) (hm : V_slices_Clone_int_int s_1 post) :
    Tr Tryz.prog 58 [.sl 1 eI s_1] [] 0 (fun A H' k => ∃ y, post y ∧ A = (.o 0) ∧ H' = [(0, .val (.os 1 eI y))] ∧ k = 1) := by
 refine Tr.intro (n := 8) Tryz.func58 rfl Tryz.ntmps58 rfl (fun w0 ok F β hβ => ?_)
 unfold V_slices_Clone_int_int at hm
 refine C.seq (U.start ?_)
 refine U.ps 1 T rfl ?_
 refine U.done (C.nx (C.seq (C.seq (U.start ?_))))
 refine U.ps 1 T rfl ?_
 refine U.e rfl (.none rfl) (by exact Eff.isnil T true rfl rfl rfl rfl rfl rfl (.inl ⟨.sl, rfl⟩) rfl) (fun hb5' hhb5 => ?_)
 obtain ⟨hb5⟩ := hb5'
 replace hm := hm hb5 hhb5
 refine U.done (C.nx ?_)
 refine C.ite rfl hm (fun hb6 hm => ?_) (fun hb6 hm => ?_)
 refine C.seq (U.start ?_)
 refine U.ps 1 T rfl ?_
 refine U.done (C.nx (C.ret (C.rt ?_)))
 exact C.fin T (rs' := [.o 0]) (H' := [(0, .val (.os 1 eI []))]) (nl' := 1) [none] rfl rfl (.cons (.nilO _ _ ⟨rfl, rfl⟩ rfl) .nil) ⟨⟨_, rfl, .nil _ _⟩, trivial⟩ rfl rfl rfl rfl hβ ⟨[], hm, rfl, rfl, rfl⟩
 refine C.skip (C.nx (C.seq (U.start ?_)))
 refine U.e1 rfl (.none rfl) (by exact Eff1.bs T (enc := eI) (xs := ([] : List Int)) rfl rfl rfl rfl rfl rfl rfl rfl rfl rfl (fun _ _ => rfl) rfl rfl) ?_
 refine U.ps 1 T rfl ?_
 obtain ⟨hx11, hm⟩ := hm
 refine U.e1 rfl (.none rfl) (by exact Eff1.ap T rfl rfl rfl rfl rfl rfl (.inl rfl) rfl rfl rfl (fun _ => rfl) rfl hx11) ?_
 refine U.ps 1 T rfl ?_
 refine U.done (C.nx (C.ret ?_))
 exact C.fin T (rs' := [.o 0]) (H' := [(0, .val (.os 1 eI (([] : List Int) ++ s_1)))]) (nl' := 1) [some 1] rfl rfl (.eq rfl) ⟨vL, trivial⟩ rfl rfl rfl rfl hβ ⟨(([] : List Int) ++ s_1), hm, rfl, rfl, rfl⟩
theorem T_slices_Clone_api_Robot_api_Robot (s_1 : List ApiRobot) (post : (List ApiRobot) → Prop) (hm : V_slices_Clone_api_Robot_api_Robot s_1 post) :
    Tr Tryz.prog 59 [.sl 6 eApiRobot s_1] [] 0 (fun A H' k => ∃ y, post y ∧ A = (.o 0) ∧ H' = [(0, .val (.os 6 eApiRobot y))] ∧ k = 1) := by
 refine Tr.intro (n := 8) Tryz.func59 rfl Tryz.ntmps59 rfl (fun w0 ok F β hβ => ?_)
 unfold V_slices_Clone_api_Robot_api_Robot at hm
 refine C.seq (U.start ?_)
 refine U.ps 1 T rfl ?_
 refine U.done (C.nx (C.seq (C.seq (U.start ?_))))
 refine U.ps 1 T rfl ?_
 refine U.e rfl (.none rfl) (by exact Eff.isnil T true rfl rfl rfl rfl rfl rfl (.inl ⟨.sl, rfl⟩) rfl) (fun hb5' hhb5 => ?_)
 obtain ⟨hb5⟩ := hb5'
 replace hm := hm hb5 hhb5
 refine U.done (C.nx ?_)
 refine C.ite rfl hm (fun hb6 hm => ?_) (fun hb6 hm => ?_)
 refine C.seq (U.start ?_)
 refine U.ps 1 T rfl ?_
 refine U.done (C.nx (C.ret (C.rt ?_)))
 exact C.fin T (rs' := [.o 0]) (H' := [(0, .val (.os 6 eApiRobot []))]) (nl' := 1) [none] rfl rfl (.cons (.nilO _ _ ⟨rfl, rfl⟩ rfl) .nil) ⟨⟨_, rfl, .nil _ _⟩, trivial⟩ rfl rfl rfl rfl hβ ⟨[], hm, rfl, rfl, rfl⟩
 refine C.skip (C.nx (C.seq (U.start ?_)))
 refine U.e1 rfl (.none rfl) (by exact Eff1.bs T (enc := eApiRobot) (xs := ([] : List ApiRobot)) rfl rfl rfl rfl rfl rfl rfl rfl rfl rfl (fun _ _ => rfl) rfl rfl) ?_
 refine U.ps 1 T rfl ?_
 obtain ⟨hx11, hm⟩ := hm
 refine U.e1 rfl (.none rfl) (by exact Eff1.ap T rfl rfl rfl rfl rfl rfl (.inl rfl) rfl rfl rfl (fun _ => rfl) rfl hx11) ?_
 refine U.ps 1 T rfl ?_
 refine U.done (C.nx (C.ret ?_))
 exact C.fin T (rs' := [.o 0]) (H' := [(0, .val (.os 6 eApiRobot (([] : List ApiRobot) ++ s_1)))]) (nl' := 1) [some 1] rfl rfl (.eq rfl) ⟨vL, trivial⟩ rfl rfl rfl rfl hβ ⟨(([] : List ApiRobot) ++ s_1), hm, rfl, rfl, rfl⟩
theorem T_slices_Clone_api_Stuck_api_Stuck (s_1 : List ApiStuck) (post : (List ApiStuck) → Prop) (hm : V_slices_Clone_api_Stuck_api_Stuck s_1 post) :
    Tr Tryz.prog 60 [.sl 2 eApiStuck s_1] [] 0 (fun A H' k => ∃ y, post y ∧ A = (.o 0) ∧ H' = [(0, .val (.os 2 eApiStuck y))] ∧ k = 1) := by
 refine Tr.intro (n := 8) Tryz.func60 rfl Tryz.ntmps60 rfl (fun w0 ok F β hβ => ?_)
 unfold V_slices_Clone_api_Stuck_api_Stuck at hm
 refine C.seq (U.start ?_)
 refine U.ps 1 T rfl ?_
 refine U.done (C.nx (C.seq (C.seq (U.start ?_))))
 refine U.ps 1 T rfl ?_
 refine U.e rfl (.none rfl) (by exact Eff.isnil T true rfl rfl rfl rfl rfl rfl (.inl ⟨.sl, rfl⟩) rfl) (fun hb5' hhb5 => ?_)
 obtain ⟨hb5⟩ := hb5'
 replace hm := hm hb5 hhb5
 refine U.done (C.nx ?_)
 refine C.ite rfl hm (fun hb6 hm => ?_) (fun hb6 hm => ?_)
 refine C.seq (U.start ?_)
 refine U.ps 1 T rfl ?_
 refine U.done (C.nx (C.ret (C.rt ?_)))
 exact C.fin T (rs' := [.o 0]) (H' := [(0, .val (.os 2 eApiStuck []))]) (nl' := 1) [none] rfl rfl (.cons (.nilO _ _ ⟨rfl, rfl⟩ rfl) .nil) ⟨⟨_, rfl, .nil _ _⟩, trivial⟩ rfl rfl rfl rfl hβ ⟨[], hm, rfl, rfl, rfl⟩
 refine C.skip (C.nx (C.seq (U.start ?_)))
 refine U.e1 rfl (.none rfl) (by exact Eff1.bs T (enc := eApiStuck) (xs := ([] : List ApiStuck)) rfl rfl rfl rfl rfl rfl rfl rfl rfl rfl (fun _ _ => rfl) rfl rfl) ?_
 refine U.ps 1 T rfl ?_
 obtain ⟨hx11, hm⟩ := hm
 refine U.e1 rfl (.none rfl) (by exact Eff1.ap T rfl rfl rfl rfl rfl rfl (.inl rfl) rfl rfl rfl (fun _ => rfl) rfl hx11) ?_
 refine U.ps 1 T rfl ?_
 refine U.done (C.nx (C.ret ?_))
 exact C.fin T (rs' := [.o 0]) (H' := [(0, .val (.os 2 eApiStuck (([] : List ApiStuck) ++ s_1)))]) (nl' := 1) [some 1] rfl rfl (.eq rfl) ⟨vL, trivial⟩ rfl rfl rfl rfl hβ ⟨(([] : List ApiStuck) ++ s_1), hm, rfl, rfl, rfl⟩
theorem T_body_Clone (st : ApiState) (post : ApiState → Prop) (hm : V_body_Clone st post) :
    Tr Tryz.prog 23 [.agg (eApiState st)] [] 0 (fun A H' k => ∃ y, post y ∧ A = (.agg [.i y.Tick, .o 0, .o 1, .o 2, .o 3, .o 4]) ∧ H' = [(0, .val (.os 1 eI y.Shelves)), (1, .val (.os 6 eApiRobot y.Robots)), (2, .val (.os 1 eI y.People)), (3, .val (.os 1 eI y.Dead)), (4, .val (.os 2 eApiStuck y.Stuck))] ∧ k = 5) := by
 refine Tr.intro (n := 21) Tryz.func23 rfl Tryz.ntmps23 rfl (fun w0 ok F β hβ => ?_)
 unfold V_body_Clone at hm
 refine C.seq (U.start ?_)
 refine U.e1 rfl (.none rfl) (by exact Eff1.box rfl rfl rfl rfl rfl) ?_
 refine U.e1 rfl (.none rfl) (by exact Eff1.al T rfl rfl rfl rfl) ?_
 refine U.done (C.nx (C.seq ?_))
 refine D.beg 18 [0] [] mix rfl rfl (by kernel_rfl) (by repeat (first | exact NoPanicQ.body | exact NoPanicQ.rnd | refine NoPanicQ.th ?_ | refine NoPanicQ.blk ?_)) (fun hQ hS ws M' => ?_)
 refine D.ps 12 [(0, []), (1, []), (2, []), (3, []), (5, []), (6, []), (8, []), (9, []), (11, []), (12, []), (14, []), (15, [])] rfl hQ hS T rfl rfl (by kernel_rfl) ?_
 refine D.e 4 rfl (.none rfl) (by exact Eff.c [] (v := true) (T_slices_Clone_int_int st.Shelves _ hm) en58 rfl rfl rfl (.eq rfl) trivial rfl rfl rfl rfl rfl rfl (fun _ _ => ⟨(.o _), ⟨.val (.os _ _ _ fun _ => (.cons (.v _) .nil)), trivial⟩⟩) (.inr ⟨rfl, rfl⟩) (fun _ => rfl) (fun _ => rfl) rfl) (by kernel_rfl) rfl rfl (fun x5' hm => ?_)
 obtain ⟨x5⟩ := x5'
 refine D.e 7 rfl (.none rfl) (by exact Eff.c [] (v := true) (T_slices_Clone_api_Robot_api_Robot st.Robots _ hm) en59 rfl rfl rfl (.eq rfl) trivial rfl rfl rfl rfl rfl rfl (fun _ _ => ⟨(.o _), ⟨.val (.os _ _ _ fun _ => (.cons (.v _) (.cons (.v _) (.cons (.v _) (.cons (.v _) (.cons (.v _) (.cons (.v _) .nil))))))), trivial⟩⟩) (.inr ⟨rfl, rfl⟩) (fun _ => rfl) (fun _ => rfl) rfl) (by kernel_rfl) rfl rfl (fun x6' hm => ?_)
 obtain ⟨x6⟩ := x6'
 refine D.e 10 rfl (.none rfl) (by exact Eff.c [] (v := true) (T_slices_Clone_int_int st.People _ hm) en58 rfl rfl rfl (.eq rfl) trivial rfl rfl rfl rfl rfl rfl (fun _ _ => ⟨(.o _), ⟨.val (.os _ _ _ fun _ => (.cons (.v _) .nil)), trivial⟩⟩) (.inr ⟨rfl, rfl⟩) (fun _ => rfl) (fun _ => rfl) rfl) (by kernel_rfl) rfl rfl (fun x7' hm => ?_)
 obtain ⟨x7⟩ := x7'
 refine D.e 13 rfl (.none rfl) (by exact Eff.c [] (v := true) (T_slices_Clone_int_int st.Dead _ hm) en58 rfl rfl rfl (.eq rfl) trivial rfl rfl rfl rfl rfl rfl (fun _ _ => ⟨(.o _), ⟨.val (.os _ _ _ fun _ => (.cons (.v _) .nil)), trivial⟩⟩) (.inr ⟨rfl, rfl⟩) (fun _ => rfl) (fun _ => rfl) rfl) (by kernel_rfl) rfl rfl (fun x8' hm => ?_)
 obtain ⟨x8⟩ := x8'
 refine D.e 16 rfl (.none rfl) (by exact Eff.c [] (v := true) (T_slices_Clone_api_Stuck_api_Stuck st.Stuck _ hm) en60 rfl rfl rfl (.eq rfl) trivial rfl rfl rfl rfl rfl rfl (fun _ _ => ⟨(.o _), ⟨.val (.os _ _ _ fun _ => (.cons (.v _) (.cons (.v _) .nil))), trivial⟩⟩) (.inr ⟨rfl, rfl⟩) (fun _ => rfl) (fun _ => rfl) rfl) (by kernel_rfl) rfl rfl (fun x9' hm => ?_)
 obtain ⟨x9⟩ := x9'
 refine D.ps 1 [(17, [])] rfl hQ hS T rfl rfl (by kernel_rfl) ?_
 refine D.ze1 rfl (.none rfl) (by exact Eff1.st T rfl rfl rfl rfl rfl rfl rfl rfl rfl rfl) (by kernel_rfl) (by kernel_rfl) ?_
 refine C.nx (C.ret ?_)
 exact C.fin T (rs' := [.agg [.i (({ Tick := st.Tick, Shelves := x5, Robots := x6, People := x7, Dead := x8, Stuck := x9 : ApiState }).Tick), .o 0, .o 1, .o 2, .o 3, .o 4]]) (H' := [(0, .val (.os 1 eI (({ Tick := st.Tick, Shelves := x5, Robots := x6, People := x7, Dead := x8, Stuck := x9 : ApiState }).Shelves))), (1, .val (.os 6 eApiRobot (({ Tick := st.Tick, Shelves := x5, Robots := x6, People := x7, Dead := x8, Stuck := x9 : ApiState }).Robots))), (2, .val (.os 1 eI (({ Tick := st.Tick, Shelves := x5, Robots := x6, People := x7, Dead := x8, Stuck := x9 : ApiState }).People))), (3, .val (.os 1 eI (({ Tick := st.Tick, Shelves := x5, Robots := x6, People := x7, Dead := x8, Stuck := x9 : ApiState }).Dead))), (4, .val (.os 2 eApiStuck (({ Tick := st.Tick, Shelves := x5, Robots := x6, People := x7, Dead := x8, Stuck := x9 : ApiState }).Stuck)))]) (nl' := 5) [some 2, some 3, some 4, some 5, some 6] rfl rfl (.eq rfl) ⟨vL, vL, vL, vL, vL, trivial⟩ rfl rfl rfl rfl hβ ⟨({ Tick := st.Tick, Shelves := x5, Robots := x6, People := x7, Dead := x8, Stuck := x9 : ApiState }), hm, rfl, rfl, rfl⟩
theorem T_act_Do (s_1 : ApiSite) (st : ApiState) (robot : Int) (act : Int) (post : ApiState → Prop) (hm : V_act_Do s_1 st robot act post) :
    Tr Tryz.prog 8 [.agg (eApiSite s_1), .agg (eApiState st), .i robot, .i act] [] 0 (fun A H' k => ∃ y, post y ∧ A = (.agg [.i y.Tick, .o 0, .o 1, .o 2, .o 3, .o 4]) ∧ H' = [(0, .val (.os 1 eI y.Shelves)), (1, .val (.os 6 eApiRobot y.Robots)), (2, .val (.os 1 eI y.People)), (3, .val (.os 1 eI y.Dead)), (4, .val (.os 2 eApiStuck y.Stuck))] ∧ k = 5) := by
 refine Tr.intro (n := 126) Tryz.func8 rfl Tryz.ntmps8 rfl (fun w0 ok F β hβ => ?_)
 unfold V_act_Do at hm
 refine C.seq (U.start ?_)
 refine U.e1 rfl (.none rfl) (by exact Eff1.box rfl rfl rfl rfl rfl) ?_
 refine U.e1 rfl (.none rfl) (by exact Eff1.box rfl rfl rfl rfl rfl) ?_
 refine U.e1 rfl (.none rfl) (by exact Eff1.al T rfl rfl rfl rfl) ?_
 refine U.done (C.nx (C.seq (U.start ?_)))
 refine U.ps 1 T rfl ?_
 refine U.e rfl (.none rfl) (by exact Eff.c [] (v := true) (T_body_Clone st _ hm) en23 rfl rfl rfl (.eq rfl) trivial rfl rfl rfl rfl rfl rfl (fun _ _ => ⟨(.agg (.cons (.v _) (.cons (.o _) (.cons (.o _) (.cons (.o _) (.cons (.o _) (.cons (.o _) .nil))))))), ⟨.val (.os _ _ _ fun _ => (.cons (.v _) .nil)), .val (.os _ _ _ fun _ => (.cons (.v _) (.cons (.v _) (.cons (.v _) (.cons (.v _) (.cons (.v _) (.cons (.v _) .nil))))))), .val (.os _ _ _ fun _ => (.cons (.v _) .nil)), .val (.os _ _ _ fun _ => (.cons (.v _) .nil)), .val (.os _ _ _ fun _ => (.cons (.v _) (.cons (.v _) .nil))), trivial⟩⟩) (.inr ⟨rfl, rfl⟩) (fun _ => rfl) (fun _ => rfl) rfl) (fun x5' hm => ?_)
 obtain ⟨x5⟩ := x5'
 refine U.e1 rfl (.none rfl) (by exact Eff1.al T rfl rfl rfl rfl) ?_
 refine U.e1 rfl (.none rfl) (by exact Eff1.st T rfl rfl rfl rfl rfl rfl rfl rfl rfl rfl) ?_
 refine U.done (C.nx (C.seq (C.seq ?_)))
 refine C.jn (fun (x6 : Bool) => [(2, .i robot), (3, .i act), (4, .p 0 0), (5, .p 1 0), (8, .p 2 0), (9, .p 3 0), (35, .b x6)]) (fun (x6 : Bool) => [(0, .box (eApiSite s_1)), (1, .box (eApiState st)), (2, .box [.i 0, .v (.slice none 0 0), .v (.slice none 0 0), .v (.slice none 0 0), .v (.slice none 0 0), .v (.slice none 0 0)]), (3, .box [.i x5.Tick, .o 4, .o 5, .o 6, .o 7, .o 8]), (4, .val (.os 1 eI x5.Shelves)), (5, .val (.os 6 eApiRobot x5.Robots)), (6, .val (.os 1 eI x5.People)), (7, .val (.os 1 eI x5.Dead)), (8, .val (.os 2 eApiStuck x5.Stuck))]) 9 hm (fun x6 hm => ?_) (fun J7 hm hJ7 => ?_)
 refine C.nx ?_
 refine C.ite rfl hm (fun hb11 hm => ?_) (fun hb11 hm => ?_)
 refine C.seq (U.start ?_)
 refine U.ps 1 T rfl ?_
 refine U.e1 rfl (.none rfl) (by exact Eff1.st T rfl rfl rfl rfl rfl rfl rfl rfl rfl rfl) ?_
 refine U.done (C.nx (C.ret (C.rt ?_)))
 exact C.fin T (rs' := [.agg [.i x5.Tick, .o 0, .o 1, .o 2, .o 3, .o 4]]) (H' := [(0, .val (.os 1 eI x5.Shelves)), (1, .val (.os 6 eApiRobot x5.Robots)), (2, .val (.os 1 eI x5.People)), (3, .val (.os 1 eI x5.Dead)), (4, .val (.os 2 eApiStuck x5.Stuck))]) (nl' := 5) [some 4, some 5, some 6, some 7, some 8] rfl rfl (.eq rfl) ⟨vL, vL, vL, vL, vL, trivial⟩ rfl rfl rfl rfl hβ ⟨x5, hm, rfl, rfl, rfl⟩
 refine C.skip (C.nx (C.seq (U.start ?_)))
 refine U.ps 3 T rfl ?_
 obtain ⟨x16, hx16, hm⟩ := hm
 refine U.r rfl (.none rfl) rfl rfl (by exact Rd.io T rfl rfl rfl rfl rfl rfl rfl hx16) ?_
 refine U.ps 1 T rfl ?_
 refine U.done (C.nx (C.seq ?_))
 refine D.beg 9999 [1, 5] [] mix rfl rfl (by kernel_rfl) (by repeat (first | exact NoPanicQ.body | exact NoPanicQ.rnd | refine NoPanicQ.th ?_ | refine NoPanicQ.blk ?_)) (fun hQ hS ws M' => ?_)
 refine D.ps 5 [(0, []), (1, []), (2, []), (3, []), (4, [])] rfl hQ hS T rfl rfl (by kernel_rfl) ?_
 refine D.q 5 [] hQ hS rfl (.none rfl) rfl rfl (by exact Rd.le T rfl rfl rfl (idx_some hx16).2.2 rfl rfl rfl) rfl (by kernel_rfl) ?_
 refine D.ps 4 [(6, []), (7, []), (8, []), (9, [])] rfl hQ hS T rfl rfl (by kernel_rfl) ?_
 refine D.q 10 [] hQ hS rfl (.none rfl) rfl rfl (by exact Rd.le T rfl rfl rfl (idx_some hx16).2.2 rfl rfl rfl) rfl (by kernel_rfl) ?_
 refine D.ps 1 [(11, [])] rfl hQ hS T rfl rfl (by kernel_rfl) ?_
 refine D.e 12 rfl (.none rfl) (by exact Eff.k (T_battery_After st.Tick x16.Charge act (decide (x16.Load ≥ 0)) _ hm) en19 rfl rfl rfl (.eq rfl) (fun _ _ => ⟨(.tup (.cons (.v _) (.cons (.v _) .nil))), trivial⟩)) (by kernel_rfl) rfl rfl (fun x19' hm => ?_)
 obtain ⟨x19⟩ := x19'
 refine D.ps 5 [(13, []), (14, []), (15, []), (16, []), (17, [])] rfl hQ hS T rfl rfl (by kernel_rfl) ?_
 refine D.done (by kernel_rfl) ?_
 refine C.nx (C.seq (C.seq (U.start ?_)))
 refine U.ps 2 T rfl ?_
 refine U.done (C.nx ?_)
 refine C.jn (fun (x22 : Int) => [(3, .i act), (4, .p 0 0), (5, .p 1 0), (8, .p 2 0), (9, .p 3 0), (10, .ep 5 6 (Int.toNat robot) 0), (11, .i x22)]) (fun (x22 : Int) => [(0, .box (eApiSite s_1)), (1, .box (eApiState st)), (2, .box [.i 0, .v (.slice none 0 0), .v (.slice none 0 0), .v (.slice none 0 0), .v (.slice none 0 0), .v (.slice none 0 0)]), (3, .box [.i x5.Tick, .o 4, .o 5, .o 6, .o 7, .o 8]), (4, .val (.os 1 eI x5.Shelves)), (5, .val (.os 6 eApiRobot x5.Robots)), (6, .val (.os 1 eI x5.People)), (7, .val (.os 1 eI x5.Dead)), (8, .val (.os 2 eApiStuck x5.Stuck))]) 9 hm (fun x22 hm => ?_) (fun J23 hm hJ23 => ?_)
 refine C.nx (C.seq (U.start ?_))
 refine U.ps 4 T rfl ?_
 refine U.e1 rfl (.none rfl) (by exact Eff1.se T (z' := ({ Cell := x16.Cell, Load := x16.Load, Charge := x22, Rest := x16.Rest, Mute := x16.Mute, Dead := x16.Dead : ApiRobot })) rfl rfl rfl (idx_some hx16).2.2 rfl rfl rfl rfl rfl rfl rfl rfl (fun _ => rfl) rfl) ?_
 refine U.done (C.nx (C.seq (C.seq (U.start ?_))))
 refine U.ps 1 T rfl ?_
 refine U.done (C.nx (C.block (C.seq (U.start ?_))))
 refine U.ps 2 T rfl ?_
 refine U.done (C.nx ?_)
 refine C.jn (fun (x33 : List ApiRobot) => [(3, .i act), (4, .p 0 0), (8, .p 1 0), (9, .p 2 0), (10, .ep 4 6 (Int.toNat robot) 0)]) (fun (x33 : List ApiRobot) => [(0, .box (eApiSite s_1)), (1, .box [.i 0, .v (.slice none 0 0), .v (.slice none 0 0), .v (.slice none 0 0), .v (.slice none 0 0), .v (.slice none 0 0)]), (2, .box [.i x5.Tick, .o 3, .o 4, .o 5, .o 6, .o 7]), (3, .val (.os 1 eI x5.Shelves)), (4, .val (.os 6 eApiRobot x33)), (5, .val (.os 1 eI x5.People)), (6, .val (.os 1 eI x5.Dead)), (7, .val (.os 2 eApiStuck x5.Stuck))]) 8 hm (fun x33 hm => ?_) (fun J34 hm hJ34 => ?_)
 refine C.bnx (C.nx (C.seq (U.start ?_)))
 refine U.ps 1 T rfl ?_
 refine U.e rfl (.none rfl) (by exact Eff.k (T_act_direction act _ hm) en18 rfl rfl rfl (.eq rfl) (fun _ _ => ⟨(.tup (.cons (.v _) (.cons (.v _) .nil))), trivial⟩)) (fun x48' hm => ?_)
 obtain ⟨x48⟩ := x48'
 refine U.ps 5 T rfl ?_
 refine U.done (C.nx (C.seq (C.seq (U.start ?_))))
 refine U.ps 2 T rfl ?_
 refine U.done (C.nx ?_)
 refine C.ite rfl hm (fun hb51 hm => ?_) (fun hb51 hm => ?_)
 refine C.seq (U.start ?_)
 refine U.ps 1 T rfl ?_
 refine U.e1 rfl (.none rfl) (by exact Eff1.st T rfl rfl rfl rfl rfl rfl rfl rfl rfl rfl) ?_
 refine U.done (C.nx (C.ret (C.rt ?_)))
 exact C.fin T (rs' := [.agg [.i (({ Tick := x5.Tick, Shelves := x5.Shelves, Robots := x33, People := x5.People, Dead := x5.Dead, Stuck := x5.Stuck : ApiState }).Tick), .o 0, .o 1, .o 2, .o 3, .o 4]]) (H' := [(0, .val (.os 1 eI (({ Tick := x5.Tick, Shelves := x5.Shelves, Robots := x33, People := x5.People, Dead := x5.Dead, Stuck := x5.Stuck : ApiState }).Shelves))), (1, .val (.os 6 eApiRobot (({ Tick := x5.Tick, Shelves := x5.Shelves, Robots := x33, People := x5.People, Dead := x5.Dead, Stuck := x5.Stuck : ApiState }).Robots))), (2, .val (.os 1 eI (({ Tick := x5.Tick, Shelves := x5.Shelves, Robots := x33, People := x5.People, Dead := x5.Dead, Stuck := x5.Stuck : ApiState }).People))), (3, .val (.os 1 eI (({ Tick := x5.Tick, Shelves := x5.Shelves, Robots := x33, People := x5.People, Dead := x5.Dead, Stuck := x5.Stuck : ApiState }).Dead))), (4, .val (.os 2 eApiStuck (({ Tick := x5.Tick, Shelves := x5.Shelves, Robots := x33, People := x5.People, Dead := x5.Dead, Stuck := x5.Stuck : ApiState }).Stuck)))]) (nl' := 5) [some 3, some 4, some 5, some 6, some 7] rfl rfl (.eq rfl) ⟨vL, vL, vL, vL, vL, trivial⟩ rfl rfl rfl rfl hβ ⟨({ Tick := x5.Tick, Shelves := x5.Shelves, Robots := x33, People := x5.People, Dead := x5.Dead, Stuck := x5.Stuck : ApiState }), hm, rfl, rfl, rfl⟩
 refine C.skip (C.nx (C.seq (C.seq ?_)))
 refine D.beg 9999 [0, 4] [] mix rfl rfl (by kernel_rfl) (by repeat (first | exact NoPanicQ.body | exact NoPanicQ.rnd | refine NoPanicQ.th ?_ | refine NoPanicQ.blk ?_)) (fun hQ hS ws M' => ?_)
 refine D.ps 5 [(0, []), (1, []), (2, []), (3, []), (4, [])] rfl hQ hS T rfl rfl (by kernel_rfl) ?_
 obtain ⟨x56, hx56, hm⟩ := hm
 refine D.q 5 [] hQ hS rfl (.none rfl) rfl rfl (by exact Rd.le T rfl rfl rfl (idx_some hx56).2.2 rfl rfl rfl) rfl (by kernel_rfl) ?_
 refine D.ps 1 [(6, [])] rfl hQ hS T rfl rfl (by kernel_rfl) ?_
 refine D.e 7 rfl (.none rfl) (by exact Eff.k (T_floor_Next s_1.Floor x56.Cell x48.1 _ hm) en25 rfl rfl rfl (.eq rfl) (fun _ _ => ⟨(.tup (.cons (.v _) (.cons (.v _) .nil))), trivial⟩)) (by kernel_rfl) rfl rfl (fun x57' hm => ?_)
 obtain ⟨x57⟩ := x57'
 refine D.ps 5 [(8, []), (9, []), (10, []), (11, []), (12, [])] rfl hQ hS T rfl rfl (by kernel_rfl) ?_
 refine D.done (by kernel_rfl) ?_
 refine C.nx (C.seq (U.start ?_))
 refine U.ps 1 T rfl ?_
 refine U.done (C.nx ?_)
 refine C.jn (fun (x60 : List Int × List ApiRobot) => [(8, .p 0 0), (9, .p 1 0)]) (fun (x60 : List Int × List ApiRobot) => [(0, .box [.i 0, .v (.slice none 0 0), .v (.slice none 0 0), .v (.slice none 0 0), .v (.slice none 0 0), .v (.slice none 0 0)]), (1, .box [.i x5.Tick, .o 2, .o 3, .o 4, .o 5, .o 6]), (2, .val (.os 1 eI x60.1)), (3, .val (.os 6 eApiRobot x60.2)), (4, .val (.os 1 eI x5.People)), (5, .val (.os 1 eI x5.Dead)), (6, .val (.os 2 eApiStuck x5.Stuck))]) 7 hm (fun x60 hm => ?_) (fun J61 hm hJ61 => ?_)
 refine C.nx (C.seq (U.start ?_))
 refine U.ps 1 T rfl ?_
 refine U.e1 rfl (.none rfl) (by exact Eff1.st T rfl rfl rfl rfl rfl rfl rfl rfl rfl rfl) ?_
 refine U.done (C.nx (C.ret ?_))
 exact C.fin T (rs' := [.agg [.i (({ Tick := x5.Tick, Shelves := x60.1, Robots := x60.2, People := x5.People, Dead := x5.Dead, Stuck := x5.Stuck : ApiState }).Tick), .o 0, .o 1, .o 2, .o 3, .o 4]]) (H' := [(0, .val (.os 1 eI (({ Tick := x5.Tick, Shelves := x60.1, Robots := x60.2, People := x5.People, Dead := x5.Dead, Stuck := x5.Stuck : ApiState }).Shelves))), (1, .val (.os 6 eApiRobot (({ Tick := x5.Tick, Shelves := x60.1, Robots := x60.2, People := x5.People, Dead := x5.Dead, Stuck := x5.Stuck : ApiState }).Robots))), (2, .val (.os 1 eI (({ Tick := x5.Tick, Shelves := x60.1, Robots := x60.2, People := x5.People, Dead := x5.Dead, Stuck := x5.Stuck : ApiState }).People))), (3, .val (.os 1 eI (({ Tick := x5.Tick, Shelves := x60.1, Robots := x60.2, People := x5.People, Dead := x5.Dead, Stuck := x5.Stuck : ApiState }).Dead))), (4, .val (.os 2 eApiStuck (({ Tick := x5.Tick, Shelves := x60.1, Robots := x60.2, People := x5.People, Dead := x5.Dead, Stuck := x5.Stuck : ApiState }).Stuck)))]) (nl' := 5) [some 2, some 3, some 4, some 5, some 6] rfl rfl (.eq rfl) ⟨vL, vL, vL, vL, vL, trivial⟩ rfl rfl rfl rfl hβ ⟨({ Tick := x5.Tick, Shelves := x60.1, Robots := x60.2, People := x5.People, Dead := x5.Dead, Stuck := x5.Stuck : ApiState }), hm, rfl, rfl, rfl⟩
 refine C.ite rfl hm (fun hb62 hm => ?_) (fun hb62 hm => ?_)
 refine C.seq (U.start ?_)
 refine U.ps 5 T rfl ?_
 refine U.e rfl (.none rfl) (by exact Eff.k (T_rules_Speed s_1 x57.1 _ hm) en26 rfl rfl rfl (.eq rfl) (fun _ _ => ⟨(.v _), trivial⟩)) (fun x65' hm => ?_)
 obtain ⟨x65⟩ := x65'
 refine U.ps 3 T rfl ?_
 refine U.e1 rfl (.none rfl) (by exact Eff1.se T (z' := ({ Cell := x57.1, Load := x56.Load, Charge := x56.Charge, Rest := x56.Rest, Mute := x56.Mute, Dead := x56.Dead : ApiRobot })) rfl rfl rfl (idx_some hx56).2.2 rfl rfl rfl rfl rfl rfl rfl rfl (fun _ => rfl) rfl) ?_
 refine U.ps 2 T rfl ?_
 refine U.e1 rfl (.none rfl) (by exact Eff1.se T (z' := ({ Cell := ({ Cell := x57.1, Load := x56.Load, Charge := x56.Charge, Rest := x56.Rest, Mute := x56.Mute, Dead := x56.Dead : ApiRobot }).Cell, Load := ({ Cell := x57.1, Load := x56.Load, Charge := x56.Charge, Rest := x56.Rest, Mute := x56.Mute, Dead := x56.Dead : ApiRobot }).Load, Charge := ({ Cell := x57.1, Load := x56.Load, Charge := x56.Charge, Rest := x56.Rest, Mute := x56.Mute, Dead := x56.Dead : ApiRobot }).Charge, Rest := w64 (x65 - 1), Mute := ({ Cell := x57.1, Load := x56.Load, Charge := x56.Charge, Rest := x56.Rest, Mute := x56.Mute, Dead := x56.Dead : ApiRobot }).Mute, Dead := ({ Cell := x57.1, Load := x56.Load, Charge := x56.Charge, Rest := x56.Rest, Mute := x56.Mute, Dead := x56.Dead : ApiRobot }).Dead : ApiRobot })) rfl rfl rfl (set_get (idx_some hx56).2.2) rfl rfl rfl rfl rfl rfl rfl rfl (fun _ => rfl) rfl) ?_
 refine U.done (C.nx (C.seq (U.start ?_)))
 refine U.ps 3 T rfl ?_
 refine U.r rfl (.none rfl) rfl rfl (by exact Rd.le T rfl rfl rfl (set_get (set_get (idx_some hx56).2.2)) rfl rfl rfl) ?_
 refine U.ps 1 T rfl ?_
 refine U.done (C.nx ?_)
 refine C.jn (fun (x68 : List Int) => [(8, .p 0 0), (9, .p 1 0)]) (fun (x68 : List Int) => [(0, .box [.i 0, .v (.slice none 0 0), .v (.slice none 0 0), .v (.slice none 0 0), .v (.slice none 0 0), .v (.slice none 0 0)]), (1, .box [.i x5.Tick, .o 2, .o 3, .o 4, .o 5, .o 6]), (2, .val (.os 1 eI x68)), (3, .val (.os 6 eApiRobot ((x33.set (Int.toNat robot) ({ Cell := x57.1, Load := x56.Load, Charge := x56.Charge, Rest := x56.Rest, Mute := x56.Mute, Dead := x56.Dead : ApiRobot })).set (Int.toNat robot) ({ Cell := ({ Cell := x57.1, Load := x56.Load, Charge := x56.Charge, Rest := x56.Rest, Mute := x56.Mute, Dead := x56.Dead : ApiRobot }).Cell, Load := ({ Cell := x57.1, Load := x56.Load, Charge := x56.Charge, Rest := x56.Rest, Mute := x56.Mute, Dead := x56.Dead : ApiRobot }).Load, Charge := ({ Cell := x57.1, Load := x56.Load, Charge := x56.Charge, Rest := x56.Rest, Mute := x56.Mute, Dead := x56.Dead : ApiRobot }).Charge, Rest := w64 (x65 - 1), Mute := ({ Cell := x57.1, Load := x56.Load, Charge := x56.Charge, Rest := x56.Rest, Mute := x56.Mute, Dead := x56.Dead : ApiRobot }).Mute, Dead := ({ Cell := x57.1, Load := x56.Load, Charge := x56.Charge, Rest := x56.Rest, Mute := x56.Mute, Dead := x56.Dead : ApiRobot }).Dead : ApiRobot })))), (4, .val (.os 1 eI x5.People)), (5, .val (.os 1 eI x5.Dead)), (6, .val (.os 2 eApiStuck x5.Stuck))]) 7 hm (fun x68 hm => ?_) (fun J69 hm hJ69 => ?_)
 exact St.wk (hJ61 _ hm) (Wk.f [some 0, some 1, some 2, some 3, some 4, some 5, some 6] ⟨bX, bX, vL, vL, vL, vL, vL, trivial⟩)
 refine C.ite rfl hm (fun hb70 hm => ?_) (fun hb70 hm => ?_)
 refine D.beg 8 [2, 4] [] mix rfl rfl (by kernel_rfl) (by repeat (first | exact NoPanicQ.body | exact NoPanicQ.rnd | refine NoPanicQ.th ?_ | refine NoPanicQ.blk ?_)) (fun hQ hS ws M' => ?_)
 refine D.ps 5 [(0, []), (1, []), (2, []), (3, []), (4, [])] rfl hQ hS T rfl rfl (by kernel_rfl) ?_
 refine D.q 5 [] hQ hS rfl (.none rfl) rfl rfl (by exact Rd.le T rfl rfl rfl (set_get (set_get (idx_some hx56).2.2)) rfl rfl rfl) rfl (by kernel_rfl) ?_
 refine D.ps 1 [(6, [])] rfl hQ hS T rfl rfl (by kernel_rfl) ?_
 obtain ⟨x73, hx73, hm⟩ := hm
 refine D.q 7 [] hQ hS rfl (.none rfl) rfl rfl (by exact Rd.io T rfl rfl rfl rfl rfl rfl rfl hx73) rfl (by kernel_rfl) ?_
 refine D.ze1 rfl (.none rfl) (by exact Eff1.se T (z' := x57.1) rfl rfl rfl (idx_some hx73).2.2 rfl rfl rfl rfl rfl rfl rfl rfl (fun _ => rfl) rfl) (by kernel_rfl) (by kernel_rfl) ?_
 exact St.wk (hJ69 _ hm) (Wk.f [some 1, some 2, some 3, some 4, some 5, some 6, some 7] ⟨bX, bX, vL, vL, vL, vL, vL, trivial⟩)
 refine C.skip ?_
 exact St.wk (hJ69 _ hm) (Wk.f [some 1, some 2, some 3, some 4, some 5, some 6, some 7] ⟨bX, bX, vL, vL, vL, vL, vL, trivial⟩)
 refine C.skip ?_
 exact St.wk (hJ61 _ hm) (Wk.f [some 1, some 2, some 3, some 4, some 5, some 6, some 7] ⟨bX, bX, vL, vL, vL, vL, vL, trivial⟩)
 refine C.ite rfl hm (fun hb35 hm => ?_) (fun hb35 hm => ?_)
 refine D.beg 10 [0, 1, 5] [] mix rfl rfl (by kernel_rfl) (by repeat (first | exact NoPanicQ.body | exact NoPanicQ.rnd | refine NoPanicQ.th ?_ | refine NoPanicQ.blk ?_)) (fun hQ hS ws M' => ?_)
 refine D.ps 6 [(0, []), (1, []), (2, []), (3, []), (4, []), (5, [])] rfl hQ hS T rfl rfl (by kernel_rfl) ?_
 refine D.q 6 [] hQ hS rfl (.none rfl) rfl rfl (by exact Rd.le T rfl rfl rfl (set_get (idx_some hx16).2.2) rfl rfl rfl) rfl (by kernel_rfl) ?_
 refine D.e 7 rfl (.none rfl) (by exact Eff.k (T_rules_At s_1 st (({ Cell := x16.Cell, Load := x16.Load, Charge := x22, Rest := x16.Rest, Mute := x16.Mute, Dead := x16.Dead : ApiRobot }).Cell) _ hm) en24 rfl rfl rfl (.eq rfl) (fun _ _ => ⟨(.v _), trivial⟩)) (by kernel_rfl) rfl rfl (fun x38' hm => ?_)
 obtain ⟨x38⟩ := x38'
 refine D.ps 2 [(8, [9]), (9, [])] rfl hQ hS T rfl rfl (by kernel_rfl) ?_
 refine D.ze1 rfl (.none rfl) (by exact Eff1.se T (z' := ({ Cell := ({ Cell := x16.Cell, Load := x16.Load, Charge := x22, Rest := x16.Rest, Mute := x16.Mute, Dead := x16.Dead : ApiRobot }).Cell, Load := x38, Charge := ({ Cell := x16.Cell, Load := x16.Load, Charge := x22, Rest := x16.Rest, Mute := x16.Mute, Dead := x16.Dead : ApiRobot }).Charge, Rest := ({ Cell := x16.Cell, Load := x16.Load, Charge := x22, Rest := x16.Rest, Mute := x16.Mute, Dead := x16.Dead : ApiRobot }).Rest, Mute := ({ Cell := x16.Cell, Load := x16.Load, Charge := x22, Rest := x16.Rest, Mute := x16.Mute, Dead := x16.Dead : ApiRobot }).Mute, Dead := ({ Cell := x16.Cell, Load := x16.Load, Charge := x22, Rest := x16.Rest, Mute := x16.Mute, Dead := x16.Dead : ApiRobot }).Dead : ApiRobot })) rfl rfl rfl (set_get (idx_some hx16).2.2) rfl rfl rfl rfl rfl rfl rfl rfl (fun _ => rfl) rfl) (by kernel_rfl) (by kernel_rfl) ?_
 exact St.wk (hJ34 _ hm) (Wk.f [some 0, some 2, some 3, some 4, some 5, some 6, some 7, some 8] ⟨bX, bX, bX, vL, vL, vL, vL, vL, trivial⟩)
 refine C.seq (U.start ?_)
 refine U.ps 2 T rfl ?_
 refine U.done (C.nx ?_)
 refine C.jn (fun (x41 : List ApiRobot) => [(3, .i act), (4, .p 0 0), (8, .p 1 0), (9, .p 2 0), (10, .ep 4 6 (Int.toNat robot) 0)]) (fun (x41 : List ApiRobot) => [(0, .box (eApiSite s_1)), (1, .box [.i 0, .v (.slice none 0 0), .v (.slice none 0 0), .v (.slice none 0 0), .v (.slice none 0 0), .v (.slice none 0 0)]), (2, .box [.i x5.Tick, .o 3, .o 4, .o 5, .o 6, .o 7]), (3, .val (.os 1 eI x5.Shelves)), (4, .val (.os 6 eApiRobot x41)), (5, .val (.os 1 eI x5.People)), (6, .val (.os 1 eI x5.Dead)), (7, .val (.os 2 eApiStuck x5.Stuck))]) 8 hm (fun x41 hm => ?_) (fun J42 hm hJ42 => ?_)
 exact St.wk (hJ34 _ hm) (Wk.f [some 0, some 1, some 2, some 3, some 4, some 5, some 6, some 7] ⟨bX, bX, bX, vL, vL, vL, vL, vL, trivial⟩)
 refine C.ite rfl hm (fun hb43 hm => ?_) (fun hb43 hm => ?_)
 refine U.start ?_
 refine U.ps 3 T rfl ?_
 refine U.e1 rfl (.none rfl) (by exact Eff1.se T (z' := ({ Cell := ({ Cell := x16.Cell, Load := x16.Load, Charge := x22, Rest := x16.Rest, Mute := x16.Mute, Dead := x16.Dead : ApiRobot }).Cell, Load := (-1), Charge := ({ Cell := x16.Cell, Load := x16.Load, Charge := x22, Rest := x16.Rest, Mute := x16.Mute, Dead := x16.Dead : ApiRobot }).Charge, Rest := ({ Cell := x16.Cell, Load := x16.Load, Charge := x22, Rest := x16.Rest, Mute := x16.Mute, Dead := x16.Dead : ApiRobot }).Rest, Mute := ({ Cell := x16.Cell, Load := x16.Load, Charge := x22, Rest := x16.Rest, Mute := x16.Mute, Dead := x16.Dead : ApiRobot }).Mute, Dead := ({ Cell := x16.Cell, Load := x16.Load, Charge := x22, Rest := x16.Rest, Mute := x16.Mute, Dead := x16.Dead : ApiRobot }).Dead : ApiRobot })) rfl rfl rfl (set_get (idx_some hx16).2.2) rfl rfl rfl rfl rfl rfl rfl rfl (fun _ => rfl) rfl) ?_
 refine U.done ?_
 exact St.wk (hJ42 _ hm) (Wk.f [some 0, some 2, some 3, some 4, some 5, some 6, some 7, some 8] ⟨bX, bX, bX, vL, vL, vL, vL, vL, trivial⟩)
 refine C.skip ?_
 exact St.wk (hJ42 _ hm) (Wk.f [some 0, some 2, some 3, some 4, some 5, some 6, some 7, some 8] ⟨bX, bX, bX, vL, vL, vL, vL, vL, trivial⟩)
 refine C.ite rfl hm (fun hb24 hm => ?_) (fun hb24 hm => ?_)
 refine U.start ?_
 refine U.ps 1 T rfl ?_
 refine U.done ?_
 exact St.wk (hJ23 _ hm) (Wk.f [some 0, some 1, some 2, some 3, some 4, some 5, some 6, some 7, some 8] ⟨bX, bX, bX, bX, vL, vL, vL, vL, vL, trivial⟩)
 refine C.skip ?_
 exact St.wk (hJ23 _ hm) (Wk.f [some 0, some 1, some 2, some 3, some 4, some 5, some 6, some 7, some 8] ⟨bX, bX, bX, bX, vL, vL, vL, vL, vL, trivial⟩)
 refine U.start ?_
 refine U.ps 3 T rfl ?_
 refine hm.cs (fun hb8 hm => ?_) (fun hb8 hm => ?_)
 refine U.sks 5 2 false 21 hb8 rfl rfl rfl ?_
 refine U.r rfl (.none rfl) rfl rfl (by exact Rd.pk rfl rfl hb8 rfl) ?_
 refine U.ps 1 T rfl ?_
 refine U.sks 6 9 false 28 rfl rfl rfl rfl ?_
 refine U.r rfl (.none rfl) rfl rfl (by exact Rd.pk rfl rfl rfl rfl) ?_
 refine U.done ?_
 exact St.wk (hJ7 _ hm) (Wk.f [some 0, some 1, some 2, some 8, some 3, some 4, some 5, some 6, some 7] ⟨bX, bX, bX, bX, vL, vL, vL, vL, vL, trivial⟩)
 refine U.pg 5 2 false 21 hb8 T rfl rfl rfl rfl ?_
 refine U.r rfl (.none rfl) rfl rfl (by exact Rd.pk' rfl rfl hb8 rfl) ?_
 refine U.ps 1 T rfl ?_
 refine hm.cs (fun hb9 hm => ?_) (fun hb9 hm => ?_)
 refine U.sks 6 9 false 28 hb9 rfl rfl rfl ?_
 refine U.r rfl (.none rfl) rfl rfl (by exact Rd.pk rfl rfl hb9 rfl) ?_
 refine U.done ?_
 exact St.wk (hJ7 _ hm) (Wk.f [some 0, some 1, some 2, some 8, some 3, some 4, some 5, some 6, some 7] ⟨bX, bX, bX, bX, vL, vL, vL, vL, vL, trivial⟩)
 refine U.pg 3 9 false 28 hb9 T rfl rfl rfl rfl ?_
 obtain ⟨x10, hx10, hm⟩ := hm
 refine U.r rfl (.take 9 false 28 _ hb9 rfl rfl rfl) rfl rfl (by exact Rd.io T rfl rfl rfl rfl rfl rfl rfl hx10) ?_
 refine U.pg 1 9 false 28 hb9 T rfl rfl rfl rfl ?_
 refine U.r rfl (.take 9 false 28 _ hb9 rfl rfl rfl) rfl rfl (by exact Rd.le T rfl rfl rfl (idx_some hx10).2.2 rfl rfl rfl) ?_
 refine U.r rfl (.none rfl) rfl rfl (by exact Rd.pk' rfl rfl hb9 rfl) ?_
 refine U.done ?_
 exact St.wk (hJ7 _ hm) (Wk.f [some 0, some 1, some 2, some 8, some 3, some 4, some 5, some 6, some 7] ⟨bX, bX, bX, bX, vL, vL, vL, vL, vL, trivial⟩)
end Go.Proofs.YtbekicmmgohfbaaGreat
