/- The walks: each Go function does what its verification condition says (written by a program of the prover). -/
import Derived.Test.YtenbhocpjlmimaaGreatW2
import Derived.KernelRfl
set_option maxRecDepth 100000
set_option maxHeartbeats 8000000
set_option linter.unusedVariables false
set_option linter.unusedSimpArgs false
namespace Go.Proofs.YtenbhocpjlmimaaGreat
open Go Go.Taq
theorem T_taquinlaw15_ActTells (s_1 : ApiSite) (st : ApiState) (robot : Int) (a : Int) (post : Bool → Prop) (hm : V_taquinlaw15_ActTells s_1 st robot a post) :
    Tr Tryz.prog 3 [.agg (eApiSite s_1), .agg (eApiState st), .i robot, .i a] [] 0 (fun A H' k => ∃ y, post y ∧ A = (.b y) ∧ H' = [] ∧ k = 0) := by
 refine Tr.intro (n := 58) Tryz.func3 rfl Tryz.ntmps3 rfl (fun w0 ok F β hβ => ?_)
 unfold V_taquinlaw15_ActTells at hm
 refine C.seq (U.start ?_)
 refine U.e1 rfl (.none rfl) (by exact Eff1.box rfl rfl rfl rfl rfl) ?_
 refine U.e1 rfl (.none rfl) (by exact Eff1.box rfl rfl rfl rfl rfl) ?_
 refine U.ps 1 T rfl ?_
 refine U.done (C.nx (C.seq (U.start ?_)))
 refine U.e rfl (.none rfl) (by exact Eff.k (T_taquinlaw15_small _ hm) en8 rfl rfl rfl (.eq rfl) (fun _ _ => ⟨(.v _), trivial⟩)) (fun x5' hm => ?_)
 obtain ⟨x5⟩ := x5'
 refine U.ps 1 T rfl ?_
 refine U.done (C.nx (C.seq (C.seq (U.start ?_))))
 refine U.ps 2 T rfl ?_
 refine U.e rfl (.none rfl) (by exact Eff.k (T_taquinlaw15_fair s_1 st _ hm) en9 rfl rfl rfl (.eq rfl) (fun _ _ => ⟨(.v _), trivial⟩)) (fun x8' hm => ?_)
 obtain ⟨x8⟩ := x8'
 refine U.ps 1 T rfl ?_
 refine U.done (C.nx ?_)
 refine C.ite rfl hm (fun hb9 hm => ?_) (fun hb9 hm => ?_)
 refine C.seq (U.start ?_)
 refine U.ps 2 T rfl ?_
 refine U.done (C.nx (C.ret (C.rt ?_)))
 exact C.f0 T (rs' := [.b x5]) hβ ⟨x5, hm, rfl, rfl, rfl⟩
 refine C.skip (C.nx (C.seq (U.start ?_)))
 refine U.ps 4 T rfl ?_
 refine U.e rfl (.none rfl) (by exact Eff.k (T_act_Legal s_1 st robot a _ hm) en10 rfl rfl rfl (.eq rfl) (fun _ _ => ⟨(.v _), trivial⟩)) (fun x14' hm => ?_)
 obtain ⟨x14⟩ := x14'
 refine U.ps 1 T rfl ?_
 refine U.done (C.nx (C.seq (C.seq ?_)))
 refine C.jn (fun (x15 : Bool) => [(2, .i robot), (3, .i a), (4, .p 0 0), (5, .p 1 0), (9, .b x5), (10, .i x14), (40, .b x15)]) (fun (x15 : Bool) => [(0, .box (eApiSite s_1)), (1, .box (eApiState st))]) 2 hm (fun x15 hm => ?_) (fun J16 hm hJ16 => ?_)
 refine C.nx ?_
 refine C.ite rfl hm (fun hb22 hm => ?_) (fun hb22 hm => ?_)
 refine C.seq (U.start ?_)
 refine U.ps 1 T rfl ?_
 refine U.done (C.nx (C.ret (C.rt ?_)))
 exact C.f0 T (rs' := [.b false]) hβ ⟨false, hm, rfl, rfl, rfl⟩
 refine C.skip (C.nx (C.seq (C.seq (U.start ?_))))
 refine U.ps 2 T rfl ?_
 refine U.done (C.nx ?_)
 refine C.ite rfl hm (fun hb27 hm => ?_) (fun hb27 hm => ?_)
 refine C.seq (U.start ?_)
 refine U.ps 2 T rfl ?_
 refine U.done (C.nx (C.ret (C.rt ?_)))
 exact C.f0 T (rs' := [.b x5]) hβ ⟨x5, hm, rfl, rfl, rfl⟩
 refine C.skip (C.nx (C.seq ?_))
 refine C.jn (fun (x30 : Bool) => [(8, .b x30)]) (fun (x30 : Bool) => []) 0 hm (fun x30 hm => ?_) (fun J31 hm hJ31 => ?_)
 refine C.nx (C.ret ?_)
 exact C.f0 T (rs' := [.b x30]) hβ ⟨x30, hm, rfl, rfl, rfl⟩
 refine D.beg 9999 [0, 1] [] mix rfl rfl (by kernel_rfl) (by repeat (first | exact NoPanicQ.body | exact NoPanicQ.rnd | refine NoPanicQ.th ?_ | refine NoPanicQ.blk ?_)) (fun hQ hS ws M' => ?_)
 refine D.ps 2 [(0, []), (1, [])] rfl hQ hS T rfl rfl (by kernel_rfl) ?_
 refine hm.cs (fun hb32 hm => ?_) (fun hb32 hm => ?_)
 refine D.q 2 [] hQ hS rfl (.take 1 true 45 _ hb32 rfl rfl rfl) rfl rfl (by exact Rd.l T rfl rfl rfl) rfl (by kernel_rfl) ?_
 refine D.q 3 [] hQ hS rfl (.take 1 true 45 _ hb32 rfl rfl rfl) rfl rfl (by exact Rd.l T rfl rfl rfl) rfl (by kernel_rfl) ?_
 refine D.q 4 [] hQ hS rfl (.take 1 true 45 _ hb32 rfl rfl rfl) rfl rfl (by exact Rd.p T rfl) rfl (by kernel_rfl) ?_
 refine D.q 5 [] hQ hS rfl (.take 1 true 45 _ hb32 rfl rfl rfl) rfl rfl (by exact Rd.p T rfl) rfl (by kernel_rfl) ?_
 refine D.q 7 [] hQ hS rfl (.take 1 true 45 _ hb32 rfl rfl rfl) rfl rfl (by exact Rd.l T rfl rfl rfl) rfl (by kernel_rfl) ?_
 refine D.q 8 [] hQ hS rfl (.take 1 true 45 _ hb32 rfl rfl rfl) rfl rfl (by exact Rd.l T rfl rfl rfl) rfl (by kernel_rfl) ?_
 refine D.q 9 [] hQ hS rfl (.take 1 true 45 _ hb32 rfl rfl rfl) rfl rfl (by exact Rd.p T rfl) rfl (by kernel_rfl) ?_
 refine D.q 10 [] hQ hS rfl (.take 1 true 45 _ hb32 rfl rfl rfl) rfl rfl (by exact Rd.p T rfl) rfl (by kernel_rfl) ?_
 refine D.e 6 rfl (.take 1 true 45 _ hb32 rfl rfl rfl) (by exact Eff.c [] (v := true) (T_act_Do s_1 st robot a _ hm) en16 rfl rfl rfl (.eq rfl) trivial rfl rfl rfl rfl rfl rfl (fun _ _ => ⟨(.agg (.cons (.v _) (.cons (.o _) (.cons (.o _) (.cons (.o _) (.cons (.o _) (.cons (.o _) .nil))))))), ⟨.val (.os _ _ _ fun _ => (.cons (.v _) .nil)), .val (.os _ _ _ fun _ => (.cons (.v _) (.cons (.v _) (.cons (.v _) (.cons (.v _) (.cons (.v _) (.cons (.v _) .nil))))))), .val (.os _ _ _ fun _ => (.cons (.v _) .nil)), .val (.os _ _ _ fun _ => (.cons (.v _) .nil)), .val (.os _ _ _ fun _ => (.cons (.v _) (.cons (.v _) .nil))), trivial⟩⟩) (.inr ⟨rfl, rfl⟩) (fun _ => rfl) (fun _ => rfl) rfl) (by kernel_rfl) rfl rfl (fun x33' hm => ?_)
 obtain ⟨x33⟩ := x33'
 refine D.e 11 rfl (.take 1 true 45 _ hb32 rfl rfl rfl) (by exact Eff.c [] (v := true) (T_taquinref15_Do s_1 st robot a _ hm) en17 rfl rfl rfl (.eq rfl) trivial rfl rfl rfl rfl rfl rfl (fun _ _ => ⟨(.agg (.cons (.v _) (.cons (.o _) (.cons (.o _) (.cons (.o _) (.cons (.o _) (.cons (.o _) .nil))))))), ⟨.val (.os _ _ _ fun _ => (.cons (.v _) .nil)), .val (.os _ _ _ fun _ => (.cons (.v _) (.cons (.v _) (.cons (.v _) (.cons (.v _) (.cons (.v _) (.cons (.v _) .nil))))))), .val (.os _ _ _ fun _ => (.cons (.v _) .nil)), .val (.os _ _ _ fun _ => (.cons (.v _) .nil)), .val (.os _ _ _ fun _ => (.cons (.v _) (.cons (.v _) .nil))), trivial⟩⟩) (.inr ⟨rfl, rfl⟩) (fun _ => rfl) (fun _ => rfl) rfl) (by kernel_rfl) rfl rfl (fun x34' hm => ?_)
 obtain ⟨x34⟩ := x34'
 refine D.e 12 rfl (.take 1 true 45 _ hb32 rfl rfl rfl) (by exact Eff.k (T_taquinref14_Same x33 x34 _ hm) en15 rfl rfl rfl (.cons (.agg (.cons (.eq rfl) (.cons (.fz rfl rfl rfl (.os fun _ => .cons (.ro rfl) .nil)) (.cons (.fz rfl rfl rfl (.os fun _ => .cons (.ro rfl) (.cons (.ro rfl) (.cons (.ro rfl) (.cons (.ro rfl) (.cons (.ro rfl) (.cons (.ro rfl) .nil))))))) (.cons (.fz rfl rfl rfl (.os fun _ => .cons (.ro rfl) .nil)) (.cons (.fz rfl rfl rfl (.os fun _ => .cons (.ro rfl) .nil)) (.cons (.fz rfl rfl rfl (.os fun _ => .cons (.ro rfl) (.cons (.ro rfl) .nil))) .nil))))))) (.cons (.agg (.cons (.eq rfl) (.cons (.fz rfl rfl rfl (.os fun _ => .cons (.ro rfl) .nil)) (.cons (.fz rfl rfl rfl (.os fun _ => .cons (.ro rfl) (.cons (.ro rfl) (.cons (.ro rfl) (.cons (.ro rfl) (.cons (.ro rfl) (.cons (.ro rfl) .nil))))))) (.cons (.fz rfl rfl rfl (.os fun _ => .cons (.ro rfl) .nil)) (.cons (.fz rfl rfl rfl (.os fun _ => .cons (.ro rfl) .nil)) (.cons (.fz rfl rfl rfl (.os fun _ => .cons (.ro rfl) (.cons (.ro rfl) .nil))) .nil))))))) .nil)) (fun _ _ => ⟨(.v _), trivial⟩)) (by kernel_rfl) rfl rfl (fun x35' hm => ?_)
 obtain ⟨x35⟩ := x35'
 refine D.q 13 [] hQ hS rfl (.none rfl) rfl rfl (by exact Rd.pk rfl rfl hb32 rfl) rfl (by kernel_rfl) ?_
 refine D.ps 1 [(14, [])] rfl hQ hS T rfl rfl (by kernel_rfl) ?_
 refine D.done (by kernel_rfl) ?_
 exact St.wk (hJ31 _ hm) (Wk.e)
 refine D.sq 2 [] hQ hS rfl (.skip 1 true 45 _ hb32 rfl rfl rfl) rfl rfl (by kernel_rfl) ?_
 refine D.sq 3 [] hQ hS rfl (.skip 1 true 45 _ hb32 rfl rfl rfl) rfl rfl (by kernel_rfl) ?_
 refine D.sq 4 [] hQ hS rfl (.skip 1 true 45 _ hb32 rfl rfl rfl) rfl rfl (by kernel_rfl) ?_
 refine D.sq 5 [] hQ hS rfl (.skip 1 true 45 _ hb32 rfl rfl rfl) rfl rfl (by kernel_rfl) ?_
 refine D.sq 6 [] hQ hS rfl (.skip 1 true 45 _ hb32 rfl rfl rfl) rfl rfl (by kernel_rfl) ?_
 refine D.sq 7 [] hQ hS rfl (.skip 1 true 45 _ hb32 rfl rfl rfl) rfl rfl (by kernel_rfl) ?_
 refine D.sq 8 [] hQ hS rfl (.skip 1 true 45 _ hb32 rfl rfl rfl) rfl rfl (by kernel_rfl) ?_
 refine D.sq 9 [] hQ hS rfl (.skip 1 true 45 _ hb32 rfl rfl rfl) rfl rfl (by kernel_rfl) ?_
 refine D.sq 10 [] hQ hS rfl (.skip 1 true 45 _ hb32 rfl rfl rfl) rfl rfl (by kernel_rfl) ?_
 refine D.sq 11 [] hQ hS rfl (.skip 1 true 45 _ hb32 rfl rfl rfl) rfl rfl (by kernel_rfl) ?_
 refine D.sq 12 [] hQ hS rfl (.skip 1 true 45 _ hb32 rfl rfl rfl) rfl rfl (by kernel_rfl) ?_
 refine D.q 13 [] hQ hS rfl (.none rfl) rfl rfl (by exact Rd.pk' rfl rfl hb32 rfl) rfl (by kernel_rfl) ?_
 refine D.ps 1 [(14, [])] rfl hQ hS T rfl rfl (by kernel_rfl) ?_
 refine D.done (by kernel_rfl) ?_
 exact St.wk (hJ31 _ hm) (Wk.e)
 refine D.beg 9999 [0, 1] [] mix rfl rfl (by kernel_rfl) (by repeat (first | exact NoPanicQ.body | exact NoPanicQ.rnd | refine NoPanicQ.th ?_ | refine NoPanicQ.blk ?_)) (fun hQ hS ws M' => ?_)
 refine D.ps 5 [(0, []), (1, []), (2, []), (3, []), (4, [])] rfl hQ hS T rfl rfl (by kernel_rfl) ?_
 refine D.e 5 rfl (.none rfl) (by exact Eff.k (T_taquinref15_Legal s_1 st robot a _ hm) en11 rfl rfl rfl (.eq rfl) (fun _ _ => ⟨(.v _), trivial⟩)) (by kernel_rfl) rfl rfl (fun x17' hm => ?_)
 obtain ⟨x17⟩ := x17'
 refine D.ps 2 [(6, []), (7, [])] rfl hQ hS T rfl rfl (by kernel_rfl) ?_
 refine hm.cs (fun hb18 hm => ?_) (fun hb18 hm => ?_)
 refine D.sq 8 [] hQ hS rfl (.skip 7 false 29 _ hb18 rfl rfl rfl) rfl rfl (by kernel_rfl) ?_
 refine D.sq 9 [] hQ hS rfl (.skip 7 false 29 _ hb18 rfl rfl rfl) rfl rfl (by kernel_rfl) ?_
 refine D.sq 10 [] hQ hS rfl (.skip 7 false 29 _ hb18 rfl rfl rfl) rfl rfl (by kernel_rfl) ?_
 refine D.sq 11 [] hQ hS rfl (.skip 7 false 29 _ hb18 rfl rfl rfl) rfl rfl (by kernel_rfl) ?_
 refine D.sq 12 [] hQ hS rfl (.skip 7 false 29 _ hb18 rfl rfl rfl) rfl rfl (by kernel_rfl) ?_
 refine D.sq 13 [] hQ hS rfl (.skip 7 false 29 _ hb18 rfl rfl rfl) rfl rfl (by kernel_rfl) ?_
 refine D.sq 14 [] hQ hS rfl (.skip 7 false 29 _ hb18 rfl rfl rfl) rfl rfl (by kernel_rfl) ?_
 refine D.sq 15 [] hQ hS rfl (.skip 7 false 29 _ hb18 rfl rfl rfl) rfl rfl (by kernel_rfl) ?_
 refine D.sq 16 [] hQ hS rfl (.skip 7 false 29 _ hb18 rfl rfl rfl) rfl rfl (by kernel_rfl) ?_
 refine D.sq 17 [] hQ hS rfl (.skip 7 false 29 _ hb18 rfl rfl rfl) rfl rfl (by kernel_rfl) ?_
 refine D.q 18 [] hQ hS rfl (.none rfl) rfl rfl (by exact Rd.pk rfl rfl hb18 rfl) rfl (by kernel_rfl) ?_
 refine D.done (by kernel_rfl) ?_
 exact St.wk (hJ16 _ hm) (Wk.f [some 0, some 1] ⟨bX, bX, trivial⟩)
 refine D.q 8 [] hQ hS rfl (.take 7 false 29 _ hb18 rfl rfl rfl) rfl rfl (by exact Rd.l T rfl rfl rfl) rfl (by kernel_rfl) ?_
 refine D.q 9 [] hQ hS rfl (.take 7 false 29 _ hb18 rfl rfl rfl) rfl rfl (by exact Rd.l T rfl rfl rfl) rfl (by kernel_rfl) ?_
 refine D.q 10 [] hQ hS rfl (.take 7 false 29 _ hb18 rfl rfl rfl) rfl rfl (by exact Rd.p T rfl) rfl (by kernel_rfl) ?_
 refine D.q 12 [] hQ hS rfl (.take 7 false 29 _ hb18 rfl rfl rfl) rfl rfl (by exact Rd.l T rfl rfl rfl) rfl (by kernel_rfl) ?_
 refine D.q 13 [] hQ hS rfl (.take 7 false 29 _ hb18 rfl rfl rfl) rfl rfl (by exact Rd.l T rfl rfl rfl) rfl (by kernel_rfl) ?_
 refine D.q 14 [] hQ hS rfl (.take 7 false 29 _ hb18 rfl rfl rfl) rfl rfl (by exact Rd.p T rfl) rfl (by kernel_rfl) ?_
 refine D.e 11 rfl (.take 7 false 29 _ hb18 rfl rfl rfl) (by exact Eff.c [] (v := true) (T_act_Acts s_1 st robot _ hm) en13 rfl rfl rfl (.eq rfl) trivial rfl rfl rfl rfl rfl rfl (fun _ _ => ⟨(.o _), ⟨.val (.os _ _ _ fun _ => (.cons (.v _) .nil)), trivial⟩⟩) (.inr ⟨rfl, rfl⟩) (fun _ => rfl) (fun _ => rfl) rfl) (by kernel_rfl) rfl rfl (fun x19' hm => ?_)
 obtain ⟨x19⟩ := x19'
 refine D.e 15 rfl (.take 7 false 29 _ hb18 rfl rfl rfl) (by exact Eff.c [] (v := true) (T_taquinref15_Acts s_1 st robot _ hm) en14 rfl rfl rfl (.eq rfl) trivial rfl rfl rfl rfl rfl rfl (fun _ _ => ⟨(.o _), ⟨.val (.os _ _ _ fun _ => (.cons (.v _) .nil)), trivial⟩⟩) (.inr ⟨rfl, rfl⟩) (fun _ => rfl) (fun _ => rfl) rfl) (by kernel_rfl) rfl rfl (fun x20' hm => ?_)
 obtain ⟨x20⟩ := x20'
 refine D.e 16 rfl (.take 7 false 29 _ hb18 rfl rfl rfl) (by exact Eff.k (T_taquinref07_Same x19 x20 _ hm) en12 rfl rfl rfl (.cons (.fz rfl rfl rfl (.os fun _ => .cons (.ro rfl) .nil)) (.cons (.fz rfl rfl rfl (.os fun _ => .cons (.ro rfl) .nil)) .nil)) (fun _ _ => ⟨(.v _), trivial⟩)) (by kernel_rfl) rfl rfl (fun x21' hm => ?_)
 obtain ⟨x21⟩ := x21'
 refine D.q 17 [] hQ hS rfl (.take 7 false 29 _ hb18 rfl rfl rfl) rfl rfl (by exact Rd.p T rfl) rfl (by kernel_rfl) ?_
 refine D.q 18 [] hQ hS rfl (.none rfl) rfl rfl (by exact Rd.pk' rfl rfl hb18 rfl) rfl (by kernel_rfl) ?_
 refine D.done (by kernel_rfl) ?_
 exact St.wk (hJ16 _ hm) (Wk.f [some 0, some 1] ⟨bX, bX, trivial⟩)
end Go.Proofs.YtenbhocpjlmimaaGreat
