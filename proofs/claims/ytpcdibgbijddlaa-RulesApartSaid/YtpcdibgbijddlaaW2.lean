/- The walks: each Go function does what its verification condition says (written by a program of the prover). -/
import Derived.Test.YtpcdibgbijddlaaW1
import Derived.KernelRfl
set_option maxRecDepth 100000
set_option maxHeartbeats 8000000
set_option linter.unusedVariables false
set_option linter.unusedSimpArgs false
namespace Go.Proofs.Ytpcdibgbijddlaa
open Go Go.Taq
theorem T_taquinlaw12_RulesApart (s_1 : ApiSite) (st : ApiState) (post : Bool → Prop) (hm : V_taquinlaw12_RulesApart s_1 st post) :
    Tr Try.prog 3 [.agg (eApiSite s_1), .agg (eApiState st)] [] 0 (fun A H' k => ∃ y, post y ∧ A = (.b y) ∧ H' = [] ∧ k = 0) := by
 refine Tr.intro (n := 150) Try.func3 rfl Try.ntmps3 rfl (fun w0 ok F β hβ => ?_)
 unfold V_taquinlaw12_RulesApart at hm
 refine C.seq (U.start ?_)
 refine U.e1 (o := _) rfl (.none rfl) (by exact Eff1.box rfl rfl rfl rfl rfl) ?_
 refine U.e1 (o := _) rfl (.none rfl) (by exact Eff1.box rfl rfl rfl rfl rfl) ?_
 refine U.ps 1 T rfl ?_
 refine U.done (C.nx (C.seq (U.start ?_)))
 refine U.e (o := _) rfl (.none rfl) (by exact Eff.c [] (v := true) (T_taquinlaw12_small _ hm) en8 rfl rfl rfl (.eq rfl) trivial rfl rfl rfl rfl rfl rfl (fun _ _ => ⟨(.v _), trivial⟩) (.inr ⟨rfl, rfl⟩) (fun _ => rfl) (fun _ => rfl) rfl) (fun x5' hm => ?_)
 obtain ⟨x5⟩ := x5'
 refine U.ps 1 T rfl ?_
 refine U.done (C.nx (C.seq (C.seq (U.start ?_))))
 refine U.ps 2 T rfl ?_
 refine U.e (o := _) rfl (.none rfl) (by exact Eff.c [] (v := true) (T_taquinlaw12_fits s_1 st _ hm) en9 rfl rfl rfl (.eq rfl) trivial rfl rfl rfl rfl rfl rfl (fun _ _ => ⟨(.v _), trivial⟩) (.inr ⟨rfl, rfl⟩) (fun _ => rfl) (fun _ => rfl) rfl) (fun x8' hm => ?_)
 obtain ⟨x8⟩ := x8'
 refine U.ps 1 T rfl ?_
 refine U.done (C.nx ?_)
 refine C.ite rfl hm (fun hb9 hm => ?_) (fun hb9 hm => ?_)
 ·refine C.seq (U.start ?_)
  refine U.ps 2 T rfl ?_
  refine U.done (C.nx (C.ret (C.rt ?_)))
  exact C.fin T (rs' := [.b x5]) (H' := []) (nl' := 0) [] rfl rfl (.eq rfl) trivial rfl rfl rfl rfl hβ ⟨x5, hm, rfl, rfl, rfl⟩
 ·refine C.skip (C.nx (C.seq (U.start ?_)))
  refine U.ps 2 T rfl ?_
  refine U.e (o := _) rfl (.none rfl) (by exact Eff.c [] (v := true) (T_rules_Apart s_1 st _ hm) en10 rfl rfl rfl (.eq rfl) trivial rfl rfl rfl rfl rfl rfl (fun _ _ => ⟨(.tup (.cons (.v _) (.cons (.v _) (.cons (.v _) .nil)))), trivial⟩) (.inr ⟨rfl, rfl⟩) (fun _ => rfl) (fun _ => rfl) rfl) (fun x14' hm => ?_)
  obtain ⟨x14⟩ := x14'
  refine U.ps 7 T rfl ?_
  refine U.done (C.nx (C.seq (U.start ?_)))
  refine U.ps 1 T rfl ?_
  refine U.done (C.nx (C.seq (C.seq (U.start ?_))))
  refine U.ps 1 T rfl ?_
  refine U.done (C.nx ?_)
  refine C.jn (fun (x19 : Bool) => [(2, .p 0 0), (3, .p 1 0), (5, .b x5), (8, .b x14.2.2), (9, .b x19)]) (fun (x19 : Bool) => [(0, .box (eApiSite s_1)), (1, .box (eApiState st))]) 2 hm (fun x19 hm => ?_) (fun J20 hm hJ20 => ?_)
  ·refine C.nx (C.seq (U.start ?_))
   refine U.ps 1 T rfl ?_
   refine U.e1 (o := _) rfl (.none rfl) (by exact Eff1.al T rfl rfl rfl rfl) ?_
   refine U.e1 (o := _) rfl (.none rfl) (by exact Eff1.st T rfl rfl rfl rfl rfl rfl rfl rfl rfl rfl) ?_
   refine U.done (C.nx (C.seq (U.start ?_)))
   refine U.ps 1 T rfl ?_
   refine U.e1 (o := _) rfl (.none rfl) (by exact Eff1.st T rfl rfl rfl rfl rfl rfl rfl rfl rfl rfl) ?_
   refine U.done (C.nx (C.seq (C.seq (U.start ?_))))
   refine U.ps 1 T rfl ?_
   refine U.done (C.nx ?_)
   refine C.jn (fun (x83 : List ApiRobot) => [(2, .p 0 0), (3, .p 1 0), (5, .b x5), (8, .b x14.2.2), (9, .b x19), (13, .p 2 0)]) (fun (x83 : List ApiRobot) => [(0, .box (eApiSite s_1)), (1, .box (eApiState st)), (2, .box [.i st.Tick, .sl 1 eI st.Shelves, .o 3, .sl 1 eI st.People, .sl 1 eI st.Dead, .sl 2 eApiStuck st.Stuck]), (3, .val (.os 6 eApiRobot x83))]) 4 hm (fun x83 hm => ?_) (fun J84 hm hJ84 => ?_)
   ·refine C.nx (C.seq (U.start ?_))
    refine U.ps 2 T rfl ?_
    refine U.e (o := _) rfl (.none rfl) (by exact Eff.c [] (v := true) (T_rules_Apart s_1 ({ Tick := st.Tick, Shelves := st.Shelves, Robots := x83, People := st.People, Dead := st.Dead, Stuck := st.Stuck : ApiState }) _ hm) en10 rfl rfl rfl (.cons (.eq rfl) (.cons (.agg (.cons (.eq rfl) (.cons (.eq rfl) (.cons (.fz rfl rfl rfl (.os fun _ => .cons (.ro rfl) (.cons (.ro rfl) (.cons (.ro rfl) (.cons (.ro rfl) (.cons (.ro rfl) (.cons (.ro rfl) .nil))))))) (.eq rfl))))) .nil)) trivial rfl rfl rfl rfl rfl rfl (fun _ _ => ⟨(.tup (.cons (.v _) (.cons (.v _) (.cons (.v _) .nil)))), trivial⟩) (.inr ⟨rfl, rfl⟩) (fun _ => rfl) (fun _ => rfl) rfl) (fun x97' hm => ?_)
    obtain ⟨x97⟩ := x97'
    refine U.ps 7 T rfl ?_
    refine U.done (C.nx (C.seq ?_))
    refine C.jn (fun (x98 : Bool) => [(4, .b x98)]) (fun (x98 : Bool) => []) 0 hm (fun x98 hm => ?_) (fun J99 hm hJ99 => ?_)
    ·refine C.nx (C.ret ?_)
     exact C.fin T (rs' := [.b x98]) (H' := []) (nl' := 0) [] rfl rfl (.eq rfl) trivial rfl rfl rfl rfl hβ ⟨x98, hm, rfl, rfl, rfl⟩
    ·refine U.start ?_
     refine U.ps 2 T rfl ?_
     refine hm.cs (fun hb100 hm => ?_) (fun hb100 hm => ?_)
     ·refine U.pg 3 1 true 133 hb100 T rfl rfl rfl rfl ?_
      refine U.r (o := _) rfl (.none rfl) rfl rfl (by exact Rd.pk rfl rfl hb100 rfl) ?_
      refine U.ps 1 T rfl ?_
      refine hm.cs (fun hb101 hm => ?_) (fun hb101 hm => ?_)
      ·refine U.pg 2 6 true 138 hb101 T rfl rfl rfl rfl ?_
       refine U.r (o := _) rfl (.none rfl) rfl rfl (by exact Rd.pk rfl rfl hb101 rfl) ?_
       refine U.ps 1 T rfl ?_
       refine hm.cs (fun hb102 hm => ?_) (fun hb102 hm => ?_)
       ·refine U.sks 6 10 true 142 (ntF hb102) rfl rfl rfl ?_
        refine U.r (o := _) rfl (.none rfl) rfl rfl (by exact Rd.pk' rfl rfl (ntF hb102) rfl) ?_
        refine U.ps 1 T rfl ?_
        refine U.done ?_
        exact St.wk (hJ99 _ hm) (Wk.mk' [] rfl rfl (.eqs rfl) trivial rfl)
       ·refine U.pg 4 10 true 142 (ntT hb102) T rfl rfl rfl rfl ?_
        refine U.e (o := _) rfl (.take 10 true 142 _ (ntT hb102) rfl rfl rfl) (by exact Eff.c [] (v := true) (T_rules_Carried ({ Tick := st.Tick, Shelves := st.Shelves, Robots := x83, People := st.People, Dead := st.Dead, Stuck := st.Stuck : ApiState }) (st.Shelves.length : Int) _ hm) en14 rfl rfl rfl (.cons (.agg (.cons (.eq rfl) (.cons (.eq rfl) (.cons (.fz rfl rfl rfl (.os fun _ => .cons (.ro rfl) (.cons (.ro rfl) (.cons (.ro rfl) (.cons (.ro rfl) (.cons (.ro rfl) (.cons (.ro rfl) .nil))))))) (.eq rfl))))) (.eq rfl)) trivial rfl rfl rfl rfl rfl rfl (fun _ _ => ⟨(.v _), trivial⟩) (.inr ⟨rfl, rfl⟩) (fun _ => rfl) (fun _ => rfl) rfl) (fun x103' hm => ?_)
        obtain ⟨x103⟩ := x103'
        refine U.pg 1 10 true 142 (ntT hb102) T rfl rfl rfl rfl ?_
        refine U.r (o := _) rfl (.none rfl) rfl rfl (by exact Rd.pk rfl rfl (ntT hb102) rfl) ?_
        refine U.ps 1 T rfl ?_
        refine U.done ?_
        exact St.wk (hJ99 _ hm) (Wk.mk' [] rfl rfl (.eqs rfl) trivial rfl)
      ·refine U.sks 2 6 true 138 hb101 rfl rfl rfl ?_
       refine U.r (o := _) rfl (.none rfl) rfl rfl (by exact Rd.pk' rfl rfl hb101 rfl) ?_
       refine U.ps 1 T rfl ?_
       refine U.sks 6 10 true 142 rfl rfl rfl rfl ?_
       refine U.r (o := _) rfl (.none rfl) rfl rfl (by exact Rd.pk' rfl rfl rfl rfl) ?_
       refine U.ps 1 T rfl ?_
       refine U.done ?_
       exact St.wk (hJ99 _ hm) (Wk.mk' [] rfl rfl (.eqs rfl) trivial rfl)
     ·refine U.sks 3 1 true 133 hb100 rfl rfl rfl ?_
      refine U.r (o := _) rfl (.none rfl) rfl rfl (by exact Rd.pk' rfl rfl hb100 rfl) ?_
      refine U.ps 1 T rfl ?_
      refine U.sks 2 6 true 138 rfl rfl rfl rfl ?_
      refine U.r (o := _) rfl (.none rfl) rfl rfl (by exact Rd.pk' rfl rfl rfl rfl) ?_
      refine U.ps 1 T rfl ?_
      refine U.sks 6 10 true 142 rfl rfl rfl rfl ?_
      refine U.r (o := _) rfl (.none rfl) rfl rfl (by exact Rd.pk' rfl rfl rfl rfl) ?_
      refine U.ps 1 T rfl ?_
      refine U.done ?_
      exact St.wk (hJ99 _ hm) (Wk.mk' [] rfl rfl (.eqs rfl) trivial rfl)
   ·refine C.block ?_
    refine St.wk (C.loop (fun (s85 : List ApiRobot × Int) => [(2, .p 0 0), (3, .p 1 0), (5, .b x5), (8, .b x14.2.2), (9, .b x19), (13, .p 2 0), (14, .i s85.2)]) (fun (s85 : List ApiRobot × Int) => [(0, .box (eApiSite s_1)), (1, .box (eApiState st)), (2, .box [.i st.Tick, .sl 1 eI st.Shelves, .o 3, .sl 1 eI st.People, .sl 1 eI st.Dead, .sl 2 eApiStuck st.Stuck]), (3, .val (.os 6 eApiRobot s85.1))]) hm (fun s85 Y86 hm => ?_)) (Wk.mk' [some 0, some 1, some 2, none] rfl rfl (.eqs rfl) ⟨⟨_, rfl, .box rfl (.eq rfl)⟩, ⟨_, rfl, .box rfl (.eq rfl)⟩, ⟨_, rfl, .box rfl (.cons (.eq rfl) (.cons (.eq rfl) (.cons (.nilO _ _ ⟨rfl, rfl⟩ rfl) (.eq rfl))))⟩, ⟨_, rfl, .nil _ _⟩, trivial⟩ rfl)
    refine C.seq (C.seq (U.start ?_))
    refine U.ps 5 T rfl ?_
    refine U.done (C.nx ?_)
    refine C.ite rfl hm (fun hb89 hm => ?_) (fun hb89 hm => ?_)
    ·refine C.skip (C.nx (C.seq (C.block (U.start ?_))))
     refine U.ps 4 T rfl ?_
     refine U.e1 (o := _) rfl (.none rfl) (by exact Eff1.bs T (enc := eApiRobot) (xs := ([({ Cell := 0, Load := s85.2, Charge := 0, Rest := 0, Mute := 0, Dead := false : ApiRobot })] : List ApiRobot)) rfl rfl rfl rfl rfl rfl rfl rfl rfl rfl (fun _ _ => rfl) rfl rfl) ?_
     obtain ⟨hx92, hm⟩ := hm
     refine U.e1 (o := _) rfl (.none rfl) (by exact Eff1.ap T rfl rfl rfl rfl rfl rfl (.inr ⟨_, rfl, rfl⟩) rfl rfl rfl (fun _ => rfl) rfl hx92) ?_
     refine U.ps 1 T rfl ?_
     refine U.e1 (o := _) rfl (.none rfl) (by exact Eff1.st T rfl rfl rfl rfl rfl rfl rfl rfl rfl rfl) ?_
     refine U.done (C.bnx (C.nx (U.start ?_)))
     refine U.ps 3 T rfl ?_
     refine U.done (C.nx ?_)
     exact St.wk (C.next hm) (Wk.mk' [some 0, some 1, some 2, some 5] rfl rfl (.eqs rfl) ⟨⟨_, rfl, .box rfl (.eq rfl)⟩, ⟨_, rfl, .box rfl (.eq rfl)⟩, ⟨_, rfl, .box rfl (.eq rfl)⟩, ⟨_, rfl, .val rfl⟩, trivial⟩ rfl)
    ·refine C.exit (C.ex (C.ex (C.bex ?_)))
     exact St.wk (hJ84 _ hm) (Wk.mk' [some 0, some 1, some 2, some 3] rfl rfl (.eqs rfl) ⟨⟨_, rfl, .box rfl (.eq rfl)⟩, ⟨_, rfl, .box rfl (.eq rfl)⟩, ⟨_, rfl, .box rfl (.eq rfl)⟩, ⟨_, rfl, .val rfl⟩, trivial⟩ rfl)
  ·refine C.block ?_
   refine St.wk (C.loop (fun (s21 : Bool × Int) => [(2, .p 0 0), (3, .p 1 0), (5, .b x5), (6, .i x14.1), (7, .i x14.2.1), (8, .b x14.2.2), (9, .b s21.1), (10, .i s21.2)]) (fun (s21 : Bool × Int) => [(0, .box (eApiSite s_1)), (1, .box (eApiState st))]) hm (fun s21 Y22 hm => ?_)) (Wk.mk' [some 0, some 1] rfl rfl (.eqs rfl) ⟨⟨_, rfl, .box rfl (.eq rfl)⟩, ⟨_, rfl, .box rfl (.eq rfl)⟩, trivial⟩ rfl)
   refine C.seq (C.seq (U.start ?_))
   refine U.ps 5 T rfl ?_
   refine U.done (C.nx ?_)
   refine C.ite rfl hm (fun hb25 hm => ?_) (fun hb25 hm => ?_)
   ·refine C.skip (C.nx (C.seq ?_))
    refine C.jn (fun (x26 : Bool) => [(2, .p 0 0), (3, .p 1 0), (5, .b x5), (6, .i x14.1), (7, .i x14.2.1), (8, .b x14.2.2), (9, .b x26), (10, .i s21.2)]) (fun (x26 : Bool) => [(0, .box (eApiSite s_1)), (1, .box (eApiState st))]) 2 hm (fun x26 hm => ?_) (fun J27 hm hJ27 => ?_)
    ·refine C.nx (U.start ?_)
     refine U.ps 3 T rfl ?_
     refine U.done (C.nx ?_)
     exact St.wk (C.next hm) (Wk.mk' [some 0, some 1] rfl rfl (.eqs rfl) ⟨⟨_, rfl, .box rfl (.eq rfl)⟩, ⟨_, rfl, .box rfl (.eq rfl)⟩, trivial⟩ rfl)
    ·refine C.block (C.seq (U.start ?_))
     refine U.ps 3 T rfl ?_
     refine U.done (C.nx ?_)
     refine C.jn (fun (x30 : Bool) => [(2, .p 0 0), (3, .p 1 0), (5, .b x5), (6, .i x14.1), (7, .i x14.2.1), (8, .b x14.2.2), (9, .b x30), (10, .i s21.2)]) (fun (x30 : Bool) => [(0, .box (eApiSite s_1)), (1, .box (eApiState st))]) 2 hm (fun x30 hm => ?_) (fun J31 hm hJ31 => ?_)
     ·refine C.bnx ?_
      exact St.wk (hJ27 _ hm) (Wk.mk' [some 0, some 1] rfl rfl (.eqs rfl) ⟨⟨_, rfl, .box rfl (.eq rfl)⟩, ⟨_, rfl, .box rfl (.eq rfl)⟩, trivial⟩ rfl)
     ·refine C.block ?_
      refine St.wk (C.loop (fun (s32 : Bool × Int) => [(2, .p 0 0), (3, .p 1 0), (5, .b x5), (6, .i x14.1), (7, .i x14.2.1), (8, .b x14.2.2), (9, .b s32.1), (10, .i s21.2), (11, .i s32.2)]) (fun (s32 : Bool × Int) => [(0, .box (eApiSite s_1)), (1, .box (eApiState st))]) hm (fun s32 Y33 hm => ?_)) (Wk.mk' [some 0, some 1] rfl rfl (.eqs rfl) ⟨⟨_, rfl, .box rfl (.eq rfl)⟩, ⟨_, rfl, .box rfl (.eq rfl)⟩, trivial⟩ rfl)
      refine C.seq (C.seq (U.start ?_))
      refine U.ps 5 T rfl ?_
      refine U.done (C.nx ?_)
      refine C.ite rfl hm (fun hb36 hm => ?_) (fun hb36 hm => ?_)
      ·refine C.skip (C.nx (C.seq (C.block (C.seq ?_))))
       refine D.beg 9999 [0] [] mix rfl rfl (by kernel_rfl) (by repeat (first | exact NoPanicQ.body | exact NoPanicQ.rnd | refine NoPanicQ.th ?_ | refine NoPanicQ.blk ?_)) (fun hQ hS ws M' => ?_)
       refine D.ps 5 [(0, []), (1, []), (2, []), (4, []), (5, [])] rfl hQ hS T rfl rfl (by kernel_rfl) ?_
       refine D.e (o := _) 3 rfl (.none rfl) (by exact Eff.c [] (v := true) (T_rules_Class s_1 s21.2 _ hm) en12 rfl rfl rfl (.eq rfl) trivial rfl rfl rfl rfl rfl rfl (fun _ _ => ⟨(.v _), trivial⟩) (.inr ⟨rfl, rfl⟩) (fun _ => rfl) (fun _ => rfl) rfl) (by kernel_rfl) rfl rfl (fun x39' hm => ?_)
       obtain ⟨x39⟩ := x39'
       refine D.e (o := _) 6 rfl (.none rfl) (by exact Eff.c [] (v := true) (T_rules_Class s_1 s32.2 _ hm) en12 rfl rfl rfl (.eq rfl) trivial rfl rfl rfl rfl rfl rfl (fun _ _ => ⟨(.v _), trivial⟩) (.inr ⟨rfl, rfl⟩) (fun _ => rfl) (fun _ => rfl) rfl) (by kernel_rfl) rfl rfl (fun x40' hm => ?_)
       obtain ⟨x40⟩ := x40'
       refine D.e (o := _) 7 rfl (.none rfl) (by exact Eff.c [] (v := true) (T_rules_Never s_1 x39 x40 _ hm) en11 rfl rfl rfl (.eq rfl) trivial rfl rfl rfl rfl rfl rfl (fun _ _ => ⟨(.v _), trivial⟩) (.inr ⟨rfl, rfl⟩) (fun _ => rfl) (fun _ => rfl) rfl) (by kernel_rfl) rfl rfl (fun x41' hm => ?_)
       obtain ⟨x41⟩ := x41'
       refine D.ps 1 [(8, [])] rfl hQ hS T rfl rfl (by kernel_rfl) ?_
       refine D.done (by kernel_rfl) ?_
       refine C.nx (C.seq (C.seq ?_))
       refine D.beg 9999 [0] [] mix rfl rfl (by kernel_rfl) (by repeat (first | exact NoPanicQ.body | exact NoPanicQ.rnd | refine NoPanicQ.th ?_ | refine NoPanicQ.blk ?_)) (fun hQ hS ws M' => ?_)
       refine D.ps 6 [(0, []), (1, []), (2, []), (3, []), (5, []), (6, [])] rfl hQ hS T rfl rfl (by kernel_rfl) ?_
       refine D.e (o := _) 4 rfl (.none rfl) (by exact Eff.c [] (v := true) (T_rules_Class s_1 s32.2 _ hm) en12 rfl rfl rfl (.eq rfl) trivial rfl rfl rfl rfl rfl rfl (fun _ _ => ⟨(.v _), trivial⟩) (.inr ⟨rfl, rfl⟩) (fun _ => rfl) (fun _ => rfl) rfl) (by kernel_rfl) rfl rfl (fun x44' hm => ?_)
       obtain ⟨x44⟩ := x44'
       refine D.e (o := _) 7 rfl (.none rfl) (by exact Eff.c [] (v := true) (T_rules_Class s_1 s21.2 _ hm) en12 rfl rfl rfl (.eq rfl) trivial rfl rfl rfl rfl rfl rfl (fun _ _ => ⟨(.v _), trivial⟩) (.inr ⟨rfl, rfl⟩) (fun _ => rfl) (fun _ => rfl) rfl) (by kernel_rfl) rfl rfl (fun x45' hm => ?_)
       obtain ⟨x45⟩ := x45'
       refine D.e (o := _) 8 rfl (.none rfl) (by exact Eff.c [] (v := true) (T_rules_Never s_1 x44 x45 _ hm) en11 rfl rfl rfl (.eq rfl) trivial rfl rfl rfl rfl rfl rfl (fun _ _ => ⟨(.v _), trivial⟩) (.inr ⟨rfl, rfl⟩) (fun _ => rfl) (fun _ => rfl) rfl) (by kernel_rfl) rfl rfl (fun x46' hm => ?_)
       obtain ⟨x46⟩ := x46'
       refine D.ps 1 [(9, [])] rfl hQ hS T rfl rfl (by kernel_rfl) ?_
       refine D.done (by kernel_rfl) ?_
       refine C.nx ?_
       refine C.ite rfl hm (fun hb47 hm => ?_) (fun hb47 hm => ?_)
       ·refine C.seq (U.start ?_)
        refine U.ps 1 T rfl ?_
        refine U.done (C.nx (C.ret (C.rt (C.brt (C.rt (C.rt (C.brt (C.brt (C.rt (C.rt (C.brt (C.rt ?_))))))))))))
        exact C.fin T (rs' := [.b false]) (H' := []) (nl' := 0) [] rfl rfl (.eq rfl) trivial rfl rfl rfl rfl hβ ⟨false, hm, rfl, rfl, rfl⟩
       ·refine C.skip (C.nx (C.seq ?_))
        refine C.jn (fun (x50 : Bool) => [(2, .p 0 0), (3, .p 1 0), (5, .b x5), (6, .i x14.1), (7, .i x14.2.1), (8, .b x14.2.2), (9, .b s32.1), (10, .i s21.2), (11, .i s32.2), (92, .b x50)]) (fun (x50 : Bool) => [(0, .box (eApiSite s_1)), (1, .box (eApiState st))]) 2 hm (fun x50 hm => ?_) (fun J51 hm hJ51 => ?_)
        ·refine C.nx ?_
         refine C.jn (fun (x60 : Bool) => [(2, .p 0 0), (3, .p 1 0), (5, .b x5), (6, .i x14.1), (7, .i x14.2.1), (8, .b x14.2.2), (9, .b x60), (10, .i s21.2), (11, .i s32.2)]) (fun (x60 : Bool) => [(0, .box (eApiSite s_1)), (1, .box (eApiState st))]) 2 hm (fun x60 hm => ?_) (fun J61 hm hJ61 => ?_)
         ·refine C.bnx (C.nx (U.start ?_))
          refine U.ps 3 T rfl ?_
          refine U.done (C.nx ?_)
          exact St.wk (C.next hm) (Wk.mk' [some 0, some 1] rfl rfl (.eqs rfl) ⟨⟨_, rfl, .box rfl (.eq rfl)⟩, ⟨_, rfl, .box rfl (.eq rfl)⟩, trivial⟩ rfl)
         ·refine C.ite rfl hm (fun hb62 hm => ?_) (fun hb62 hm => ?_)
          ·refine C.seq (C.seq ?_)
           refine C.jn (fun (x63 : Bool) => [(2, .p 0 0), (3, .p 1 0), (5, .b x5), (6, .i x14.1), (7, .i x14.2.1), (8, .b x14.2.2), (10, .i s21.2), (11, .i s32.2), (108, .b x63)]) (fun (x63 : Bool) => [(0, .box (eApiSite s_1)), (1, .box (eApiState st))]) 2 hm (fun x63 hm => ?_) (fun J64 hm hJ64 => ?_)
           ·refine C.nx ?_
            refine C.ite rfl hm (fun hb68 hm => ?_) (fun hb68 hm => ?_)
            ·refine C.seq (U.start ?_)
             refine U.ps 1 T rfl ?_
             refine U.done (C.nx (C.ret (C.rt (C.brt (C.rt (C.rt (C.brt (C.brt (C.rt (C.rt (C.brt (C.rt ?_))))))))))))
             exact C.fin T (rs' := [.b false]) (H' := []) (nl' := 0) [] rfl rfl (.eq rfl) trivial rfl rfl rfl rfl hβ ⟨false, hm, rfl, rfl, rfl⟩
            ·refine C.skip (C.nx (U.start ?_))
             refine U.ps 1 T rfl ?_
             refine U.done ?_
             exact St.wk (hJ61 _ hm) (Wk.mk' [some 0, some 1] rfl rfl (.eqs rfl) ⟨⟨_, rfl, .box rfl (.eq rfl)⟩, ⟨_, rfl, .box rfl (.eq rfl)⟩, trivial⟩ rfl)
           ·refine U.start ?_
            refine U.ps 3 T rfl ?_
            refine hm.cs (fun hb65 hm => ?_) (fun hb65 hm => ?_)
            ·refine U.sks 3 2 true 95 (ntF hb65) rfl rfl rfl ?_
             refine U.sku 3 5 false 98 rfl rfl rfl ?_
             refine U.sks 2 2 true 95 (ntF hb65) rfl rfl rfl ?_
             refine U.sku 3 10 false 103 rfl rfl rfl ?_
             refine U.sks 1 2 true 95 (ntF hb65) rfl rfl rfl ?_
             refine U.r (o := _) rfl (.none rfl) rfl rfl (by exact Rd.pk' rfl rfl (ntF hb65) rfl) ?_
             refine U.done ?_
             exact St.wk (hJ64 _ hm) (Wk.mk' [some 0, some 1] rfl rfl (.eqs rfl) ⟨⟨_, rfl, .box rfl (.eq rfl)⟩, ⟨_, rfl, .box rfl (.eq rfl)⟩, trivial⟩ rfl)
            ·refine U.pg 3 2 true 95 (ntT hb65) T rfl rfl rfl rfl ?_
             refine hm.cs (fun hb66 hm => ?_) (fun hb66 hm => ?_)
             ·refine U.pg 3 5 false 98 (ntF hb66) T rfl rfl rfl rfl ?_
              refine U.r (o := _) rfl (.take 2 true 95 _ (ntT hb65) rfl rfl rfl) rfl rfl (by exact Rd.pk' rfl rfl (ntF hb66) rfl) ?_
              refine U.pg 1 2 true 95 (ntT hb65) T rfl rfl rfl rfl ?_
              refine hm.cs (fun hb67 hm => ?_) (fun hb67 hm => ?_)
              ·refine U.sks 3 10 false 103 hb67 rfl rfl rfl ?_
               refine U.r (o := _) rfl (.take 2 true 95 _ (ntT hb65) rfl rfl rfl) rfl rfl (by exact Rd.pk rfl rfl hb67 rfl) ?_
               refine U.r (o := _) rfl (.none rfl) rfl rfl (by exact Rd.pk rfl rfl (ntT hb65) rfl) ?_
               refine U.done ?_
               exact St.wk (hJ64 _ hm) (Wk.mk' [some 0, some 1] rfl rfl (.eqs rfl) ⟨⟨_, rfl, .box rfl (.eq rfl)⟩, ⟨_, rfl, .box rfl (.eq rfl)⟩, trivial⟩ rfl)
              ·refine U.pg 3 10 false 103 hb67 T rfl rfl rfl rfl ?_
               refine U.r (o := _) rfl (.take 2 true 95 _ (ntT hb65) rfl rfl rfl) rfl rfl (by exact Rd.pk' rfl rfl hb67 rfl) ?_
               refine U.r (o := _) rfl (.none rfl) rfl rfl (by exact Rd.pk rfl rfl (ntT hb65) rfl) ?_
               refine U.done ?_
               exact St.wk (hJ64 _ hm) (Wk.mk' [some 0, some 1] rfl rfl (.eqs rfl) ⟨⟨_, rfl, .box rfl (.eq rfl)⟩, ⟨_, rfl, .box rfl (.eq rfl)⟩, trivial⟩ rfl)
             ·refine U.sks 3 5 false 98 (ntT hb66) rfl rfl rfl ?_
              refine U.r (o := _) rfl (.take 2 true 95 _ (ntT hb65) rfl rfl rfl) rfl rfl (by exact Rd.pk rfl rfl (ntT hb66) rfl) ?_
              refine U.pg 1 2 true 95 (ntT hb65) T rfl rfl rfl rfl ?_
              refine U.sks 3 10 false 103 rfl rfl rfl rfl ?_
              refine U.r (o := _) rfl (.take 2 true 95 _ (ntT hb65) rfl rfl rfl) rfl rfl (by exact Rd.pk rfl rfl rfl rfl) ?_
              refine U.r (o := _) rfl (.none rfl) rfl rfl (by exact Rd.pk rfl rfl (ntT hb65) rfl) ?_
              refine U.done ?_
              exact St.wk (hJ64 _ hm) (Wk.mk' [some 0, some 1] rfl rfl (.eqs rfl) ⟨⟨_, rfl, .box rfl (.eq rfl)⟩, ⟨_, rfl, .box rfl (.eq rfl)⟩, trivial⟩ rfl)
          ·refine C.skip ?_
           exact St.wk (hJ61 _ hm) (Wk.mk' [some 0, some 1] rfl rfl (.eqs rfl) ⟨⟨_, rfl, .box rfl (.eq rfl)⟩, ⟨_, rfl, .box rfl (.eq rfl)⟩, trivial⟩ rfl)
        ·refine D.beg 9999 [0, 1] [] mix rfl rfl (by kernel_rfl) (by repeat (first | exact NoPanicQ.body | exact NoPanicQ.rnd | refine NoPanicQ.th ?_ | refine NoPanicQ.blk ?_)) (fun hQ hS ws M' => ?_)
         refine D.ps 2 [(0, []), (1, [])] rfl hQ hS T rfl rfl (by kernel_rfl) ?_
         refine hm.cs (fun hb52 hm => ?_) (fun hb52 hm => ?_)
         ·refine D.q (o := _) 2 [] hQ hS rfl (.take 1 true 66 _ hb52 rfl rfl rfl) rfl rfl (by exact Rd.p T rfl) rfl (by kernel_rfl) ?_
          refine D.q (o := _) 3 [] hQ hS rfl (.take 1 true 66 _ hb52 rfl rfl rfl) rfl rfl (by exact Rd.l T rfl rfl rfl) rfl (by kernel_rfl) ?_
          refine D.q (o := _) 4 [] hQ hS rfl (.take 1 true 66 _ hb52 rfl rfl rfl) rfl rfl (by exact Rd.p T rfl) rfl (by kernel_rfl) ?_
          refine D.q (o := _) 5 [] hQ hS rfl (.take 1 true 66 _ hb52 rfl rfl rfl) rfl rfl (by exact Rd.l T rfl rfl rfl) rfl (by kernel_rfl) ?_
          refine D.q (o := _) 6 [] hQ hS rfl (.take 1 true 66 _ hb52 rfl rfl rfl) rfl rfl (by exact Rd.p T rfl) rfl (by kernel_rfl) ?_
          obtain ⟨x53, hx53, hm⟩ := hm
          refine D.q (o := _) 7 [] hQ hS rfl (.take 1 true 66 _ hb52 rfl rfl rfl) rfl rfl (by exact Rd.ix T rfl rfl rfl rfl rfl rfl hx53) rfl (by kernel_rfl) ?_
          refine D.q (o := _) 8 [] hQ hS rfl (.take 1 true 66 _ hb52 rfl rfl rfl) rfl rfl (by exact Rd.l T rfl rfl rfl) rfl (by kernel_rfl) ?_
          refine D.q (o := _) 9 [] hQ hS rfl (.take 1 true 66 _ hb52 rfl rfl rfl) rfl rfl (by exact Rd.p T rfl) rfl (by kernel_rfl) ?_
          refine D.q (o := _) 10 [] hQ hS rfl (.take 1 true 66 _ hb52 rfl rfl rfl) rfl rfl (by exact Rd.l T rfl rfl rfl) rfl (by kernel_rfl) ?_
          refine D.q (o := _) 11 [] hQ hS rfl (.take 1 true 66 _ hb52 rfl rfl rfl) rfl rfl (by exact Rd.p T rfl) rfl (by kernel_rfl) ?_
          obtain ⟨x54, hx54, hm⟩ := hm
          refine D.q (o := _) 12 [] hQ hS rfl (.take 1 true 66 _ hb52 rfl rfl rfl) rfl rfl (by exact Rd.ix T rfl rfl rfl rfl rfl rfl hx54) rfl (by kernel_rfl) ?_
          refine D.q (o := _) 13 [] hQ hS rfl (.take 1 true 66 _ hb52 rfl rfl rfl) rfl rfl (by exact Rd.l T rfl rfl rfl) rfl (by kernel_rfl) ?_
          refine D.e (o := _) 14 rfl (.take 1 true 66 _ hb52 rfl rfl rfl) (by exact Eff.c [] (v := true) (T_taquinref07_Near s_1.Floor x53 x54 _ hm) en13 rfl rfl rfl (.eq rfl) trivial rfl rfl rfl rfl rfl rfl (fun _ _ => ⟨(.v _), trivial⟩) (.inr ⟨rfl, rfl⟩) (fun _ => rfl) (fun _ => rfl) rfl) (by kernel_rfl) rfl rfl (fun x55' hm => ?_)
          obtain ⟨x55⟩ := x55'
          refine D.q (o := _) 15 [] hQ hS rfl (.none rfl) rfl rfl (by exact Rd.pk rfl rfl hb52 rfl) rfl (by kernel_rfl) ?_
          refine D.ps 1 [(16, [])] rfl hQ hS T rfl rfl (by kernel_rfl) ?_
          refine hm.cs (fun hb56 hm => ?_) (fun hb56 hm => ?_)
          ·refine D.q (o := _) 17 [] hQ hS rfl (.take 16 true 81 _ hb56 rfl rfl rfl) rfl rfl (by exact Rd.l T rfl rfl rfl) rfl (by kernel_rfl) ?_
           refine D.q (o := _) 18 [] hQ hS rfl (.take 16 true 81 _ hb56 rfl rfl rfl) rfl rfl (by exact Rd.p T rfl) rfl (by kernel_rfl) ?_
           refine D.e (o := _) 19 rfl (.take 16 true 81 _ hb56 rfl rfl rfl) (by exact Eff.c [] (v := true) (T_rules_Carried st s21.2 _ hm) en14 rfl rfl rfl (.eq rfl) trivial rfl rfl rfl rfl rfl rfl (fun _ _ => ⟨(.v _), trivial⟩) (.inr ⟨rfl, rfl⟩) (fun _ => rfl) (fun _ => rfl) rfl) (by kernel_rfl) rfl rfl (fun x57' hm => ?_)
           obtain ⟨x57⟩ := x57'
           refine D.q (o := _) 20 [] hQ hS rfl (.take 16 true 81 _ hb56 rfl rfl rfl) rfl rfl (by exact Rd.p T rfl) rfl (by kernel_rfl) ?_
           refine D.q (o := _) 21 [] hQ hS rfl (.none rfl) rfl rfl (by exact Rd.pk rfl rfl hb56 rfl) rfl (by kernel_rfl) ?_
           refine D.ps 1 [(22, [])] rfl hQ hS T rfl rfl (by kernel_rfl) ?_
           refine hm.cs (fun hb58 hm => ?_) (fun hb58 hm => ?_)
           ·refine D.q (o := _) 23 [] hQ hS rfl (.take 22 true 87 _ hb58 rfl rfl rfl) rfl rfl (by exact Rd.l T rfl rfl rfl) rfl (by kernel_rfl) ?_
            refine D.q (o := _) 24 [] hQ hS rfl (.take 22 true 87 _ hb58 rfl rfl rfl) rfl rfl (by exact Rd.p T rfl) rfl (by kernel_rfl) ?_
            refine D.e (o := _) 25 rfl (.take 22 true 87 _ hb58 rfl rfl rfl) (by exact Eff.c [] (v := true) (T_rules_Carried st s32.2 _ hm) en14 rfl rfl rfl (.eq rfl) trivial rfl rfl rfl rfl rfl rfl (fun _ _ => ⟨(.v _), trivial⟩) (.inr ⟨rfl, rfl⟩) (fun _ => rfl) (fun _ => rfl) rfl) (by kernel_rfl) rfl rfl (fun x59' hm => ?_)
            obtain ⟨x59⟩ := x59'
            refine D.q (o := _) 26 [] hQ hS rfl (.take 22 true 87 _ hb58 rfl rfl rfl) rfl rfl (by exact Rd.p T rfl) rfl (by kernel_rfl) ?_
            refine D.q (o := _) 27 [] hQ hS rfl (.none rfl) rfl rfl (by exact Rd.pk rfl rfl hb58 rfl) rfl (by kernel_rfl) ?_
            refine D.done (by kernel_rfl) ?_
            exact St.wk (hJ51 _ hm) (Wk.mk' [some 0, some 1] rfl rfl (.eqs rfl) ⟨⟨_, rfl, .box rfl (.eq rfl)⟩, ⟨_, rfl, .box rfl (.eq rfl)⟩, trivial⟩ rfl)
           ·refine D.sq (o := _) 23 [] hQ hS rfl (.skip 22 true 87 _ hb58 rfl rfl rfl) rfl rfl (by kernel_rfl) ?_
            refine D.sq (o := _) 24 [] hQ hS rfl (.skip 22 true 87 _ hb58 rfl rfl rfl) rfl rfl (by kernel_rfl) ?_
            refine D.sq (o := _) 25 [] hQ hS rfl (.skip 22 true 87 _ hb58 rfl rfl rfl) rfl rfl (by kernel_rfl) ?_
            refine D.sq (o := _) 26 [] hQ hS rfl (.skip 22 true 87 _ hb58 rfl rfl rfl) rfl rfl (by kernel_rfl) ?_
            refine D.q (o := _) 27 [] hQ hS rfl (.none rfl) rfl rfl (by exact Rd.pk' rfl rfl hb58 rfl) rfl (by kernel_rfl) ?_
            refine D.done (by kernel_rfl) ?_
            exact St.wk (hJ51 _ hm) (Wk.mk' [some 0, some 1] rfl rfl (.eqs rfl) ⟨⟨_, rfl, .box rfl (.eq rfl)⟩, ⟨_, rfl, .box rfl (.eq rfl)⟩, trivial⟩ rfl)
          ·refine D.sq (o := _) 17 [] hQ hS rfl (.skip 16 true 81 _ hb56 rfl rfl rfl) rfl rfl (by kernel_rfl) ?_
           refine D.sq (o := _) 18 [] hQ hS rfl (.skip 16 true 81 _ hb56 rfl rfl rfl) rfl rfl (by kernel_rfl) ?_
           refine D.sq (o := _) 19 [] hQ hS rfl (.skip 16 true 81 _ hb56 rfl rfl rfl) rfl rfl (by kernel_rfl) ?_
           refine D.sq (o := _) 20 [] hQ hS rfl (.skip 16 true 81 _ hb56 rfl rfl rfl) rfl rfl (by kernel_rfl) ?_
           refine D.q (o := _) 21 [] hQ hS rfl (.none rfl) rfl rfl (by exact Rd.pk' rfl rfl hb56 rfl) rfl (by kernel_rfl) ?_
           refine D.ps 1 [(22, [])] rfl hQ hS T rfl rfl (by kernel_rfl) ?_
           refine D.sq (o := _) 23 [] hQ hS rfl (.skip 22 true 87 _ rfl rfl rfl rfl) rfl rfl (by kernel_rfl) ?_
           refine D.sq (o := _) 24 [] hQ hS rfl (.skip 22 true 87 _ rfl rfl rfl rfl) rfl rfl (by kernel_rfl) ?_
           refine D.sq (o := _) 25 [] hQ hS rfl (.skip 22 true 87 _ rfl rfl rfl rfl) rfl rfl (by kernel_rfl) ?_
           refine D.sq (o := _) 26 [] hQ hS rfl (.skip 22 true 87 _ rfl rfl rfl rfl) rfl rfl (by kernel_rfl) ?_
           refine D.q (o := _) 27 [] hQ hS rfl (.none rfl) rfl rfl (by exact Rd.pk' rfl rfl rfl rfl) rfl (by kernel_rfl) ?_
           refine D.done (by kernel_rfl) ?_
           exact St.wk (hJ51 _ hm) (Wk.mk' [some 0, some 1] rfl rfl (.eqs rfl) ⟨⟨_, rfl, .box rfl (.eq rfl)⟩, ⟨_, rfl, .box rfl (.eq rfl)⟩, trivial⟩ rfl)
         ·refine D.sq (o := _) 2 [] hQ hS rfl (.skip 1 true 66 _ hb52 rfl rfl rfl) rfl rfl (by kernel_rfl) ?_
          refine D.sq (o := _) 3 [] hQ hS rfl (.skip 1 true 66 _ hb52 rfl rfl rfl) rfl rfl (by kernel_rfl) ?_
          refine D.sq (o := _) 4 [] hQ hS rfl (.skip 1 true 66 _ hb52 rfl rfl rfl) rfl rfl (by kernel_rfl) ?_
          refine D.sq (o := _) 5 [] hQ hS rfl (.skip 1 true 66 _ hb52 rfl rfl rfl) rfl rfl (by kernel_rfl) ?_
          refine D.sq (o := _) 6 [] hQ hS rfl (.skip 1 true 66 _ hb52 rfl rfl rfl) rfl rfl (by kernel_rfl) ?_
          refine D.sq (o := _) 7 [] hQ hS rfl (.skip 1 true 66 _ hb52 rfl rfl rfl) rfl rfl (by kernel_rfl) ?_
          refine D.sq (o := _) 8 [] hQ hS rfl (.skip 1 true 66 _ hb52 rfl rfl rfl) rfl rfl (by kernel_rfl) ?_
          refine D.sq (o := _) 9 [] hQ hS rfl (.skip 1 true 66 _ hb52 rfl rfl rfl) rfl rfl (by kernel_rfl) ?_
          refine D.sq (o := _) 10 [] hQ hS rfl (.skip 1 true 66 _ hb52 rfl rfl rfl) rfl rfl (by kernel_rfl) ?_
          refine D.sq (o := _) 11 [] hQ hS rfl (.skip 1 true 66 _ hb52 rfl rfl rfl) rfl rfl (by kernel_rfl) ?_
          refine D.sq (o := _) 12 [] hQ hS rfl (.skip 1 true 66 _ hb52 rfl rfl rfl) rfl rfl (by kernel_rfl) ?_
          refine D.sq (o := _) 13 [] hQ hS rfl (.skip 1 true 66 _ hb52 rfl rfl rfl) rfl rfl (by kernel_rfl) ?_
          refine D.sq (o := _) 14 [] hQ hS rfl (.skip 1 true 66 _ hb52 rfl rfl rfl) rfl rfl (by kernel_rfl) ?_
          refine D.q (o := _) 15 [] hQ hS rfl (.none rfl) rfl rfl (by exact Rd.pk' rfl rfl hb52 rfl) rfl (by kernel_rfl) ?_
          refine D.ps 1 [(16, [])] rfl hQ hS T rfl rfl (by kernel_rfl) ?_
          refine D.sq (o := _) 17 [] hQ hS rfl (.skip 16 true 81 _ rfl rfl rfl rfl) rfl rfl (by kernel_rfl) ?_
          refine D.sq (o := _) 18 [] hQ hS rfl (.skip 16 true 81 _ rfl rfl rfl rfl) rfl rfl (by kernel_rfl) ?_
          refine D.sq (o := _) 19 [] hQ hS rfl (.skip 16 true 81 _ rfl rfl rfl rfl) rfl rfl (by kernel_rfl) ?_
          refine D.sq (o := _) 20 [] hQ hS rfl (.skip 16 true 81 _ rfl rfl rfl rfl) rfl rfl (by kernel_rfl) ?_
          refine D.q (o := _) 21 [] hQ hS rfl (.none rfl) rfl rfl (by exact Rd.pk' rfl rfl rfl rfl) rfl (by kernel_rfl) ?_
          refine D.ps 1 [(22, [])] rfl hQ hS T rfl rfl (by kernel_rfl) ?_
          refine D.sq (o := _) 23 [] hQ hS rfl (.skip 22 true 87 _ rfl rfl rfl rfl) rfl rfl (by kernel_rfl) ?_
          refine D.sq (o := _) 24 [] hQ hS rfl (.skip 22 true 87 _ rfl rfl rfl rfl) rfl rfl (by kernel_rfl) ?_
          refine D.sq (o := _) 25 [] hQ hS rfl (.skip 22 true 87 _ rfl rfl rfl rfl) rfl rfl (by kernel_rfl) ?_
          refine D.sq (o := _) 26 [] hQ hS rfl (.skip 22 true 87 _ rfl rfl rfl rfl) rfl rfl (by kernel_rfl) ?_
          refine D.q (o := _) 27 [] hQ hS rfl (.none rfl) rfl rfl (by exact Rd.pk' rfl rfl rfl rfl) rfl (by kernel_rfl) ?_
          refine D.done (by kernel_rfl) ?_
          exact St.wk (hJ51 _ hm) (Wk.mk' [some 0, some 1] rfl rfl (.eqs rfl) ⟨⟨_, rfl, .box rfl (.eq rfl)⟩, ⟨_, rfl, .box rfl (.eq rfl)⟩, trivial⟩ rfl)
      ·refine C.exit (C.ex (C.ex (C.bex ?_)))
       exact St.wk (hJ31 _ hm) (Wk.mk' [some 0, some 1] rfl rfl (.eqs rfl) ⟨⟨_, rfl, .box rfl (.eq rfl)⟩, ⟨_, rfl, .box rfl (.eq rfl)⟩, trivial⟩ rfl)
   ·refine C.exit (C.ex (C.ex (C.bex ?_)))
    exact St.wk (hJ20 _ hm) (Wk.mk' [some 0, some 1] rfl rfl (.eqs rfl) ⟨⟨_, rfl, .box rfl (.eq rfl)⟩, ⟨_, rfl, .box rfl (.eq rfl)⟩, trivial⟩ rfl)
end Go.Proofs.Ytpcdibgbijddlaa
