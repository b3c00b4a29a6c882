/- The walks: each Go function does what its verification condition says (written by a program of the prover). -/
import Derived.Test.YtlaehjhkcanffaaEnc
import Derived.KernelRfl
set_option maxRecDepth 100000
set_option maxHeartbeats 8000000
set_option linter.unusedVariables false
set_option linter.unusedSimpArgs false
namespace Go.Proofs.Ytlaehjhkcanffaa
open Go Go.Taq
def X_dock_matching_give_1__p0_p3_p5_p6 : (Int × DockMatching × List (Int × Bool) × Int) → ((Bool × DockMatching × List (Int × Bool) × Int) → Prop) → Prop | (robot, v1, c1, c2), post => Tr Try.prog 73 [.i robot, .p 0 0, .p 3 0, .p 5 0, .p 6 0] [(0, .box [.p 1 0]), (1, .box [.sl 1 eLeI v1.lists, .o 2]), (2, .val (.om kI veI v1.owner)), (3, .box [.o 4]), (4, .val (.om kI veB c1)), (5, .box [.i c2]), (6, .box [.fn (.func 73) [] [.p 0 0, .p 3 0, .p 5 0, .p 6 0]])] 7 (fun A H' k => ∃ y, post y ∧ A = (.b y.1) ∧ H' = [(0, .box [.p 1 0]), (1, .box [.sl 1 eLeI y.2.1.lists, .o 7]), (3, .box [.o 8]), (5, .box [.i y.2.2.2]), (6, .box [.fn (.func 73) [] [.p 0 0, .p 3 0, .p 5 0, .p 6 0]]), (7, .val (.om kI veI y.2.1.owner)), (8, .val (.om kI veB y.2.2.1))] ∧ k = 9)
theorem U_dock_matching_give_1__p0_p3_p5_p6 (robot : Int) (v1 : DockMatching) (c1 : List (Int × Bool)) (c2 : Int) (post : (Bool × DockMatching × List (Int × Bool) × Int) → Prop) (h : X_dock_matching_give_1__p0_p3_p5_p6 (robot, v1, c1, c2) post) : Tr Try.prog 73 [.i robot, .p 0 0, .p 3 0, .p 5 0, .p 6 0] [(0, .box [.p 1 0]), (1, .box [.sl 1 eLeI v1.lists, .o 2]), (2, .val (.om kI veI v1.owner)), (3, .box [.o 4]), (4, .val (.om kI veB c1)), (5, .box [.i c2]), (6, .box [.fn (.func 73) [] [.p 0 0, .p 3 0, .p 5 0, .p 6 0]])] 7 (fun A H' k => ∃ y, post y ∧ A = (.b y.1) ∧ H' = [(0, .box [.p 1 0]), (1, .box [.sl 1 eLeI y.2.1.lists, .o 7]), (3, .box [.o 8]), (5, .box [.i y.2.2.2]), (6, .box [.fn (.func 73) [] [.p 0 0, .p 3 0, .p 5 0, .p 6 0]]), (7, .val (.om kI veI y.2.1.owner)), (8, .val (.om kI veB y.2.2.1))] ∧ k = 9) := h
theorem T_dock_matching_give_1__p0_p3_p5_p6 (robot : Int) (v1 : DockMatching) (c1 : List (Int × Bool)) (c2 : Int) (post : (Bool × DockMatching × List (Int × Bool) × Int) → Prop) (g : V_dock_matching_give_1__p0_p3_p5_p6 robot v1 c1 c2 post) :
    Tr Try.prog 73 [.i robot, .p 0 0, .p 3 0, .p 5 0, .p 6 0] [(0, .box [.p 1 0]), (1, .box [.sl 1 eLeI v1.lists, .o 2]), (2, .val (.om kI veI v1.owner)), (3, .box [.o 4]), (4, .val (.om kI veB c1)), (5, .box [.i c2]), (6, .box [.fn (.func 73) [] [.p 0 0, .p 3 0, .p 5 0, .p 6 0]])] 7 (fun A H' k => ∃ y, post y ∧ A = (.b y.1) ∧ H' = [(0, .box [.p 1 0]), (1, .box [.sl 1 eLeI y.2.1.lists, .o 7]), (3, .box [.o 8]), (5, .box [.i y.2.2.2]), (6, .box [.fn (.func 73) [] [.p 0 0, .p 3 0, .p 5 0, .p 6 0]]), (7, .val (.om kI veI y.2.1.owner)), (8, .val (.om kI veB y.2.2.1))] ∧ k = 9) := by
 refine U_dock_matching_give_1__p0_p3_p5_p6 robot v1 c1 c2 _ (g X_dock_matching_give_1__p0_p3_p5_p6 (fun a post g => ?_))
 obtain ⟨robot, v1, c1, c2⟩ := a
 replace g : B_dock_matching_give_1__p0_p3_p5_p6 X_dock_matching_give_1__p0_p3_p5_p6 robot v1 c1 c2 post := g
 show Tr Try.prog 73 [.i robot, .p 0 0, .p 3 0, .p 5 0, .p 6 0] [(0, .box [.p 1 0]), (1, .box [.sl 1 eLeI v1.lists, .o 2]), (2, .val (.om kI veI v1.owner)), (3, .box [.o 4]), (4, .val (.om kI veB c1)), (5, .box [.i c2]), (6, .box [.fn (.func 73) [] [.p 0 0, .p 3 0, .p 5 0, .p 6 0]])] 7 (fun A H' k => ∃ y, post y ∧ A = (.b y.1) ∧ H' = [(0, .box [.p 1 0]), (1, .box [.sl 1 eLeI y.2.1.lists, .o 7]), (3, .box [.o 8]), (5, .box [.i y.2.2.2]), (6, .box [.fn (.func 73) [] [.p 0 0, .p 3 0, .p 5 0, .p 6 0]]), (7, .val (.om kI veI y.2.1.owner)), (8, .val (.om kI veB y.2.2.1))] ∧ k = 9)
 refine Tr.go Try.func73 Try.ntmps73 fun _ _ _ _ o => ?_
 unfold B_dock_matching_give_1__p0_p3_p5_p6 at g
 refine C.ss (U.pd 1 T (C.xs (C.ss ?_)))
 refine U.ps 5 T rfl ?_
 obtain ⟨x5, y5, g⟩ := g
 refine U.ix T y5 ?_
 refine U.pd 3 T (C.nx ?_)
 refine C.jn (fun (x6 : List (List Int) × List (Int × Int) × List (Int × Bool) × Int) => []) (fun x6 => [(0, .box [.p 1 0]), (1, .box [.sl 1 eLeI x6.1, .o 7]), (3, .box [.o 8]), (5, .box [.i x6.2.2.2]), (6, .box [.fn (.func 73) [] [.p 0 0, .p 3 0, .p 5 0, .p 6 0]]), (7, .val (.om kI veI x6.2.1)), (8, .val (.om kI veB x6.2.2.1))]) 9 g (fun x6 g => ?_) fun J7 g j7 => ?_
 ·refine C.xt ?_
  refine U.pd 1 T (C.nx (C.ret ?_))
  exact C.g1 (idR 9) T o ⟨(false, ({ lists := x6.1, owner := x6.2.1 : DockMatching }), x6.2.2.1, x6.2.2.2), g, rfl, rfl, rfl⟩
 ·refine C.block ?_
  refine St.wk (C.loop (fun (s8 : List (List Int) × List (Int × Int) × List (Int × Bool) × Int × Int) => [(0, .i robot), (1, .p 0 0), (2, .p 3 0), (3, .p 5 0), (4, .p 6 0), (17, .sl 1 eI x5), (18, .i (x5.length : Int)), (19, .i s8.2.2.2.2)]) (fun s8 => [(0, .box [.p 1 0]), (1, .box [.sl 1 eLeI s8.1, .o 7]), (3, .box [.o 8]), (5, .box [.i s8.2.2.2.1]), (6, .box [.fn (.func 73) [] [.p 0 0, .p 3 0, .p 5 0, .p 6 0]]), (7, .val (.om kI veI s8.2.1)), (8, .val (.om kI veB s8.2.2.1))]) g (fun s8 Y9 g => ?_)) (Wk.a [some 0, some 1, some 2, some 3, some 4, some 5, some 6, some 2, some 4])
  refine C.ss (U.pd 1 T (C.xs ?_))
  refine C.ite rfl g (fun b12 g => ?_) fun b12 g => ?_
  ·refine C.skip (C.xs ?_)
   refine C.jn (fun (x13 : List (List Int) × List (Int × Int) × List (Int × Bool) × Int) => [(0, .i robot), (1, .p 0 0), (2, .p 3 0), (3, .p 5 0), (4, .p 6 0), (17, .sl 1 eI x5), (18, .i (x5.length : Int)), (19, .i s8.2.2.2.2)]) (fun x13 => [(0, .box [.p 1 0]), (1, .box [.sl 1 eLeI x13.1, .o 7]), (3, .box [.o 8]), (5, .box [.i x13.2.2.2]), (6, .box [.fn (.func 73) [] [.p 0 0, .p 3 0, .p 5 0, .p 6 0]]), (7, .val (.om kI veI x13.2.1)), (8, .val (.om kI veB x13.2.2.1))]) 9 g (fun x13 g => ?_) fun J14 g j14 => ?_
   ·refine C.nx (U.start ?_)
    refine U.pd 2 T (C.nx ?_)
    exact St.wk (C.next g) (Wk.a (idR 9))
   ·refine C.block (C.ss ?_)
    obtain ⟨x17, y17, g⟩ := g
    refine U.ix T y17 ?_
    refine U.pd 2 T (C.xs (C.ss ?_))
    refine U.ps 2 T rfl (U.r rfl (.none rfl) rfl rfl (by exact Rd.lk T (ke := kI) (ve := veB) (xs := s8.2.2.1) (z0 := false) (x := x17) rfl rfl kt3 zt4 (fun _ => rfl) rfl (.o rfl) rfl rfl rfl) ?_)
    refine U.done (C.nx ?_)
    refine C.ite rfl g (fun b20 g => ?_) fun b20 g => ?_
    ·refine C.exit (C.ex (C.bex ?_))
     exact St.wa (idR 9) (j14 _ g)
    ·refine C.skip (C.xt ?_)
     refine U.ps 2 T rfl (U.e1 rfl (.none rfl) (by exact Eff1.mu T (x := x17) (y := true) (.inl rfl) rfl kt3 (fun _ => rfl) rfl rfl rfl rfl rfl (.inl rfl) rfl) ?_)
     refine U.done (C.xt (U.ps 5 T rfl (U.r rfl (.none rfl) rfl rfl (by exact Rd.lk2 T (ke := kI) (ve := veI) (xs := s8.2.1) (z0 := 0) (x := x17) rfl rfl kt3 zt3 (fun _ => rfl) rfl (.o rfl) rfl rfl rfl) ?_)))
     refine U.pd 5 T (C.xs ?_)
     refine C.jn (fun (x25 : List (List Int) × List (Int × Int) × List (Int × Bool) × Int × Bool) => [(0, .i robot), (1, .p 0 0), (2, .p 3 0), (3, .p 5 0), (4, .p 6 0), (8, .i x17), (17, .sl 1 eI x5), (18, .i (x5.length : Int)), (19, .i s8.2.2.2.2), (48, .b x25.2.2.2.2)]) (fun x25 => [(0, .box [.p 1 0]), (1, .box [.sl 1 eLeI x25.1, .o 7]), (3, .box [.o 8]), (5, .box [.i x25.2.2.2.1]), (6, .box [.fn (.func 73) [] [.p 0 0, .p 3 0, .p 5 0, .p 6 0]]), (7, .val (.om kI veI x25.2.1)), (8, .val (.om kI veB x25.2.2.1))]) 9 g (fun x25 g => ?_) fun J26 g j26 => ?_
     ·refine C.nx ?_
      refine C.ite rfl g (fun b30 g => ?_) fun b30 g => ?_
      ·refine C.ss ?_
       refine U.ps 6 T rfl (U.e1 rfl (.none rfl) (by exact Eff1.mu T (x := x17) (y := robot) (.inl rfl) rfl kt3 (fun _ => rfl) rfl rfl rfl rfl rfl (.inl rfl) rfl) ?_)
       refine U.done (C.xt (U.pd 1 T (C.nx (C.ret (C.brt (C.rt (C.rt (C.brt (C.rt ?_)))))))))
       exact C.g1 (idR 9) T o ⟨(true, ({ lists := x25.1, owner := (upd x25.2.1 x17 robot) : DockMatching }), x25.2.2.1, x25.2.2.2.1), g, rfl, rfl, rfl⟩
      ·refine C.skip (C.bnx ?_)
       exact St.wa (idR 9) (j14 _ g)
     ·refine U.start ?_
      refine U.ps 3 T rfl ?_
      refine g.cs (fun b27 g => ?_) fun b27 g => ?_
      ·refine U.pq 4 2 false 39 (ntF b27) T ?_
       refine g.cs (fun b28 g => ?_) fun b28 g => ?_
       ·refine U.pq 2 6 true 43 b28 T ?_
        refine U.c [some 0, some 1, some 7, some 3, some 8, some 5, some 6] (U_dock_matching_give_1__p0_p3_p5_p6 ((lk s8.2.1 x17).getD 0) ({ lists := s8.1, owner := s8.2.1 : DockMatching }) (upd s8.2.2.1 x17 true) s8.2.2.2.1 _ g) en73 (fun x29 g => ?_) (hw := .take 6 true 43 _ b28 rfl rfl rfl)
        refine U.r rfl (.tk 2 false 39 (ntF b27)) rfl rfl (by exact Rd.pk rfl rfl b28 rfl) ?_
        refine U.pk' (ntF b27) ?_
        refine U.done ?_
        exact St.wa [some 0, some 1, some 2, some 3, some 4, some 5, some 6, some 16, some 17] (j26 _ g)
       ·refine U.sk' 3 6 true 43 b28 ?_
        refine U.r rfl (.tk 2 false 39 (ntF b27)) rfl rfl (by exact Rd.pk' rfl rfl b28 rfl) ?_
        refine U.pk' (ntF b27) ?_
        refine U.done ?_
        exact St.wa (idR 9) (j26 _ g)
      ·refine U.sk' 4 2 false 39 (ntT b27) ?_
       refine U.sku 3 6 true 43 rfl rfl rfl ?_
       refine U.sk' 1 2 false 39 (ntT b27) ?_
       refine U.pk (ntT b27) ?_
       refine U.done ?_
       exact St.wa (idR 9) (j26 _ g)
  ·refine C.exit (C.ex (C.ex (C.bex ?_)))
   exact St.wk (j7 _ g) (Wk.mk' [some 0, some 1, some 2, some 3, some 4, some 5, some 6, some 7, some 8] rfl rfl trivial ⟨bX, bX, bX, bX, bX, vL, vL, trivial⟩ rfl)
theorem T_dock_matching_give__p0 (robot : Int) (first : Int) (m : DockMatching) (post : (Bool × DockMatching) → Prop) (g : V_dock_matching_give__p0 robot first m post) :
    Tr Try.prog 52 [.p 0 0, .i robot, .i first] [(0, .box [.sl 1 eLeI m.lists, .o 1]), (1, .val (.om kI veI m.owner))] 2 (fun A H' k => ∃ y, post y ∧ A = (.b y.1) ∧ H' = [(0, .box [.sl 1 eLeI y.2.lists, .o 2]), (2, .val (.om kI veI y.2.owner))] ∧ k = 3) := by
 refine Tr.go Try.func52 Try.ntmps52 fun _ _ _ _ o => ?_
 unfold V_dock_matching_give__p0 at g
 refine C.ss (U.bx ?_)
 refine U.bx ?_
 refine U.pd 1 T (C.xt ?_)
 refine U.e1 rfl (.none rfl) (by exact Eff1.mm kI veB rfl rfl rfl) ?_
 refine U.al T ?_
 refine U.st T ?_
 refine U.done (C.xt (U.al T ?_))
 refine U.done (C.xt (U.ps 1 T rfl (U.st T ?_)))
 refine U.done (C.xt (U.ps 2 T rfl (U.c [some 2, some 0, some 1, some 5, some 4, some 3, some 6] (T_dock_matching_give_1__p0_p3_p5_p6 robot m ([] : List (Int × Bool)) first _ g) en73 (fun x11 g => ?_))))
 refine U.pd 1 T (C.nx (C.ret ?_))
 exact C.g1 [some 0, some 1, some 14] T o ⟨(x11.1, x11.2.1), g, rfl, rfl, rfl⟩
theorem T_dock_most (l : List (List Int)) (given : List Int) (post : Int → Prop) (g : V_dock_most l given post) :
    Tr Try.prog 21 [.sl 1 eLeI l, .sl 1 eI given] [] 0 (pI post) := by
 refine Tr.go Try.func21 Try.ntmps21 fun _ _ _ _ o => ?_
 unfold V_dock_most at g
 refine C.ss (U.pd 1 T (C.xt ?_))
 refine U.ps 1 T rfl (U.e1 rfl (.none rfl) (by exact Eff1.mm kI veI rfl rfl rfl) ?_)
 refine U.ps 1 T rfl (U.bx ?_)
 refine U.pd 1 T (C.xs (C.ss ?_))
 refine U.pd 3 T (C.nx ?_)
 refine C.jn (fun (x7 : List (Int × Int)) => [(0, .sl 1 eLeI l), (1, .sl 1 eI given), (5, .p 0 0)]) (fun x7 => [(0, .box [.sl 1 eLeI l, .o 1]), (1, .val (.om kI veI x7))]) 2 g (fun x7 g => ?_) fun J8 g j8 => ?_
 refine C.xs (C.ss (U.pd 3 T (C.nx ?_)))
 refine C.jn (fun (x28 : List (List Int) × List (Int × Int)) => [(5, .p 0 0)]) (fun x28 => [(0, .box [.sl 1 eLeI x28.1, .o 1]), (1, .val (.om kI veI x28.2))]) 2 g (fun x28 g => ?_) fun J29 g j29 => ?_
 refine C.xt (U.ps 4 T rfl (U.r rfl (.none rfl) rfl rfl (by exact Rd.lm T (ke := kI) (ve := veI) (xs := x28.2) rfl rfl (fun _ => rfl) rfl (.o rfl)) ?_))
 refine U.pd 1 T (C.nx (C.ret ?_))
 exact C.f1 T o (pIi g)
 refine C.block (St.wk (C.loop (fun (s30 : List (List Int) × List (Int × Int) × Int) => [(0, .sl 1 eLeI l), (1, .sl 1 eI given), (5, .p 0 0), (8, .i s30.2.2)]) (fun s30 => [(0, .box [.sl 1 eLeI s30.1, .o 1]), (1, .val (.om kI veI s30.2.1))]) g (fun s30 Y31 g => ?_)) (Wk.a (idR 2)))
 refine C.seq (C.ss (U.pd 4 T (C.nx ?_)))
 refine C.ite rfl g (fun b34 g => ?_) fun b34 g => ?_
 refine C.skip (C.xs (C.block (U.start (U.ps 4 T rfl (U.c (idR 2) (T_dock_matching_give__p0 s30.2.2 (given.length : Int) ({ lists := s30.1, owner := s30.2.1 : DockMatching }) _ g) en52 (fun x37 g => ?_))))))
 refine U.done (C.bnx (C.nx (U.start (U.pd 3 T (C.nx ?_)))))
 exact St.wk (C.next g) (Wk.a [some 0, some 4])
 refine C.exit (C.ex (C.ex (C.bex ?_)))
 exact St.wa (idR 2) (j29 _ g)
 refine C.block (St.wk (C.loop (fun (s9 : List (Int × Int) × Int) => [(0, .sl 1 eLeI l), (1, .sl 1 eI given), (5, .p 0 0), (13, .sl 1 eI given), (14, .i (given.length : Int)), (15, .i s9.2)]) (fun s9 => [(0, .box [.sl 1 eLeI l, .o 1]), (1, .val (.om kI veI s9.1))]) g (fun s9 Y10 g => ?_)) (Wk.a [some 1, some 0]))
 refine C.ss (U.pd 1 T (C.xs ?_))
 refine C.ite rfl g (fun b13 g => ?_) fun b13 g => ?_
 refine C.skip (C.xs (C.block (C.ss (U.ps 1 T rfl ?_))))
 obtain ⟨x16, y16, g⟩ := g
 refine U.ix T y16 ?_
 refine U.pd 3 T (C.xt ?_)
 refine U.pd 2 T (C.nx ?_)
 refine C.jn (fun (x19 : List (Int × Int)) => [(0, .sl 1 eLeI l), (1, .sl 1 eI given), (5, .p 0 0), (13, .sl 1 eI given), (14, .i (given.length : Int)), (15, .i s9.2)]) (fun x19 => [(0, .box [.sl 1 eLeI l, .o 1]), (1, .val (.om kI veI x19))]) 2 g (fun x19 g => ?_) fun J20 g j20 => ?_
 refine C.bnx (C.nx (U.start (U.pd 2 T (C.nx ?_))))
 exact St.wk (C.next g) (Wk.a (idR 2))
 refine C.ite rfl g (fun b21 g => ?_) fun b21 g => ?_
 refine U.start (U.ps 6 T rfl (U.e1 rfl (.none rfl) (by exact Eff1.mu T (x := x16) (y := s9.2) (.inl rfl) rfl kt3 (fun _ => rfl) rfl rfl rfl rfl rfl (.inl rfl) rfl) ?_))
 refine U.done ?_
 exact St.wa (idR 2) (j20 _ g)
 refine C.skip ?_
 exact St.wa (idR 2) (j20 _ g)
 refine C.exit (C.ex (C.ex (C.bex ?_)))
 exact St.wa (idR 2) (j8 _ g)
theorem T_slices_Values_int_int (s_1 : List Int) (post : (List Int) → Prop) (g : V_slices_Values_int_int s_1 post) :
    Tr Try.prog 24 [.sl 1 eI s_1] [] 0 (fun A H' k => ∃ y, post y ∧ A = (.fn (.func 55) [] [.p 0 0]) ∧ H' = [(0, .box [.sl 1 eI y])] ∧ k = 1) := by
 refine Tr.go Try.func24 Try.ntmps24 fun _ _ _ _ o => ?_
 unfold V_slices_Values_int_int at g
 refine C.ss (U.bx ?_)
 refine U.pd 1 T (C.xt ?_)
 refine U.pd 2 T (C.nx (C.ret ?_))
 exact C.g1 [some 0] T o ⟨(s_1), g, rfl, rfl, rfl⟩
theorem T_slices_AppendSeq_int_int__o0_slices_Values_int_int_1 (seq_c0 : List Int) (s_1 : List Int) (post : (List Int) → Prop) (g : V_slices_AppendSeq_int_int__o0_slices_Values_int_int_1 seq_c0 s_1 post) :
    Tr Try.prog 74 [.o 0, .fn (.func 55) [] [.rp [.sl 1 eI seq_c0]]] [(0, .val (.os 1 eI s_1))] 1 (fun A H' k => ∃ y, post y ∧ A = (.o 1) ∧ H' = [(1, .val (.os 1 eI y))] ∧ k = 2) := by
 refine Tr.go Try.func74 Try.ntmps74 fun _ _ _ _ o => ?_
 unfold V_slices_AppendSeq_int_int__o0_slices_Values_int_int_1 at g
 refine C.ss (U.bx ?_)
 refine U.pd 1 T (C.xs (C.ss ?_))
 refine U.pd 1 T (C.nx (C.block ?_))
 obtain ⟨y8, g⟩ := g
 refine St.wk (C.range (Γ0 := [(2, .p 1 0), (6, .fn (.func 55) [] [.rp [.sl 1 eI seq_c0]])]) (Γ1 := fun (x5 : Int) => [(5, .i x5), (7, .i x5), (2, .p 1 0), (6, .fn (.func 55) [] [.rp [.sl 1 eI seq_c0]])]) (Hf := fun (s6 : List Int) => [(1, .box [.o 2]), (2, .val (.os 1 eI s6))]) 2 g (it55 seq_c0 y8) en55 rfl rfl rfl rfl rfl (fun _ => rfl) rfl rfl (fun _ => rfl) (fun x5 s6 Y7 g w0 ok M β l => ?_) (fun s12 g => ?_)) (Wk.a [some 0, some 1, some 0])
 refine CI.block ?_
 refine UI.start (by kernel_rfl) (by repeat (first | exact NoOut.rnd | refine NoOut.th ?_ | refine NoOut.blk ?_)) ?_
 refine U.ps 2 T rfl (U.bs T eI ([x5] : List Int) ?_)
 obtain ⟨y11, g⟩ := g
 refine U.ap T y11 ?_
 refine U.st T ?_
 refine U.done (C.bnx ?_)
 exact St.wk (CI.next g) (Wk.mk' [some 0, some 1, some 4] rfl rfl trivial ⟨bX, vL, trivial⟩ rfl)
 refine C.bnx (C.xt (U.pd 2 T (C.nx (C.ret ?_))))
 exact C.g1 [some 0, some 2] T o ⟨s12, g, rfl, rfl, rfl⟩
theorem T_slices_Collect_int__slices_Values_int_int_1 (seq_c0 : List Int) (post : (List Int) → Prop) (g : V_slices_Collect_int__slices_Values_int_int_1 seq_c0 post) :
    Tr Try.prog 53 [.fn (.func 55) [] [.rp [.sl 1 eI seq_c0]]] [] 0 (fun A H' k => ∃ y, post y ∧ A = (.o 0) ∧ H' = [(0, .val (.os 1 eI y))] ∧ k = 1) := by
 refine Tr.go Try.func53 Try.ntmps53 fun _ _ _ _ o => ?_
 unfold V_slices_Collect_int__slices_Values_int_int_1 at g
 refine C.ss (U.pd 1 T (C.xt ?_))
 refine U.ps 1 T rfl (U.c [none] (T_slices_AppendSeq_int_int__o0_slices_Values_int_int_1 seq_c0 [] _ g) en74 (fun x5 g => ?_))
 refine U.pd 1 T (C.nx (C.ret ?_))
 exact C.g1 [some 1] T o ⟨x5, g, rfl, rfl, rfl⟩
def siR54 : Go.Shelf.Ren := ⟨fun | 125 => 76 | 128 => 95 | 129 => 96 | 189 => 54 | 215 => 103 | 216 => 92 | 257 => 75 | 294 => 86 | 295 => 87 | 296 => 88 | 297 => 89 | 298 => 90 | 299 => 91 | 300 => 93 | 301 => 94 | 328 => 98 | 329 => 99 | 330 => 100 | 331 => 101 | 332 => 102 | 343 => 104 | n => n, fun | 0 => 0 | 3 => 3 | 4 => 4 | 5 => 5 | 9 => 9 | 28 => 23 | 46 => 97 | 51 => 121 | 53 => 124 | 131 => 27 | 182 => 133 | 183 => 134 | 218 => 141 | 222 => 145 | 228 => 147 | 229 => 127 | n => n, fun n => n⟩
theorem siL54 : Go.Proofs.Lays.n189 Try.prog siR54 where
  mixed := by kernel_rfl
  f125 := Try.func76.trans (congrArg some (by kernel_rfl))
  f128 := Try.func95.trans (congrArg some (by kernel_rfl))
  f129 := Try.func96.trans (congrArg some (by kernel_rfl))
  f189 := Try.func54.trans (congrArg some (by kernel_rfl))
  f215 := Try.func103.trans (congrArg some (by kernel_rfl))
  f216 := Try.func92.trans (congrArg some (by kernel_rfl))
  f257 := Try.func75.trans (congrArg some (by kernel_rfl))
  f294 := Try.func86.trans (congrArg some (by kernel_rfl))
  f295 := Try.func87.trans (congrArg some (by kernel_rfl))
  f296 := Try.func88.trans (congrArg some (by kernel_rfl))
  f297 := Try.func89.trans (congrArg some (by kernel_rfl))
  f298 := Try.func90.trans (congrArg some (by kernel_rfl))
  f299 := Try.func91.trans (congrArg some (by kernel_rfl))
  f300 := Try.func93.trans (congrArg some (by kernel_rfl))
  f301 := Try.func94.trans (congrArg some (by kernel_rfl))
  f328 := Try.func98.trans (congrArg some (by kernel_rfl))
  f329 := Try.func99.trans (congrArg some (by kernel_rfl))
  f330 := Try.func100.trans (congrArg some (by kernel_rfl))
  f331 := Try.func101.trans (congrArg some (by kernel_rfl))
  f332 := Try.func102.trans (congrArg some (by kernel_rfl))
  f343 := Try.func104.trans (congrArg some (by kernel_rfl))
  t0 := Try.underlying0
  a0 := Try.isAgg0
  z0 := Try.sizeOf0
  v0 := Try.zeroValue0
  t3 := Try.underlying3
  a3 := Try.isAgg3
  z3 := Try.sizeOf3
  v3 := Try.zeroValue3
  t4 := Try.underlying4
  a4 := Try.isAgg4
  z4 := Try.sizeOf4
  v4 := Try.zeroValue4
  t5 := Try.underlying5
  a5 := Try.isAgg5
  z5 := Try.sizeOf5
  v5 := Try.zeroValue5
  t9 := Try.underlying9
  a9 := Try.isAgg9
  z9 := Try.sizeOf9
  v9 := Try.zeroValue9
  t28 := Try.underlying23
  a28 := Try.isAgg23
  z28 := Try.sizeOf23
  v28 := Try.zeroValue23
  t46 := Try.underlying97
  a46 := Try.isAgg97
  z46 := Try.sizeOf97
  v46 := Try.zeroValue97
  t51 := Try.underlying121
  a51 := Try.isAgg121
  z51 := Try.sizeOf121
  v51 := Try.zeroValue121
  t53 := Try.underlying124
  a53 := Try.isAgg124
  z53 := Try.sizeOf124
  v53 := Try.zeroValue124
  t131 := Try.underlying27
  a131 := Try.isAgg27
  z131 := Try.sizeOf27
  v131 := Try.zeroValue27
  t182 := Try.underlying133
  a182 := Try.isAgg133
  z182 := Try.sizeOf133
  v182 := Try.zeroValue133
  t183 := Try.underlying134
  a183 := Try.isAgg134
  z183 := Try.sizeOf134
  v183 := Try.zeroValue134
  t218 := Try.underlying141
  a218 := Try.isAgg141
  z218 := Try.sizeOf141
  v218 := Try.zeroValue141
  t222 := Try.underlying145
  a222 := Try.isAgg145
  z222 := Try.sizeOf145
  v222 := Try.zeroValue145
  t228 := Try.underlying147
  a228 := Try.isAgg147
  z228 := Try.sizeOf147
  v228 := Try.zeroValue147
  t229 := Try.underlying127
  a229 := Try.isAgg127
  z229 := Try.sizeOf127
  v229 := Try.zeroValue127
theorem T_slices_Sort_int_int__o0 (p0 : List Int) (post : List Int → Prop) (g : V_slices_Sort_int_int__o0 p0 post) :
    Tr Try.prog 54 [.o 0] [(0, .val (.os 1 eI p0))] 1 (fun A H' k => ∃ y, post y ∧ A = (.tup []) ∧ H' = [(0, .val (.os 1 eI y))] ∧ k = 1) := by
 unfold V_slices_Sort_int_int__o0 at g
 exact Tr.sortInt siL54 p0 g.1 g.2
theorem T_slices_Sorted_int__slices_Values_int_int_1 (seq_c0 : List Int) (post : (List Int) → Prop) (g : V_slices_Sorted_int__slices_Values_int_int_1 seq_c0 post) :
    Tr Try.prog 23 [.fn (.func 55) [] [.rp [.sl 1 eI seq_c0]]] [] 0 (fun A H' k => ∃ y, post y ∧ A = (.o 0) ∧ H' = [(0, .val (.os 1 eI y))] ∧ k = 1) := by
 refine Tr.go Try.func23 Try.ntmps23 fun _ _ _ _ o => ?_
 unfold V_slices_Sorted_int__slices_Values_int_int_1 at g
 refine C.ss (U.pd 1 T (C.xt ?_))
 refine U.ps 1 T rfl (U.k (T_slices_Collect_int__slices_Values_int_int_1 seq_c0 _ g) en53 (fun x5 g => ?_))
 refine U.pd 1 T (C.xt ?_)
 refine U.ps 1 T rfl (U.c [some 0] (T_slices_Sort_int_int__o0 x5 _ g) en54 (fun x8 g => ?_))
 refine U.done (C.xt (U.pd 2 T (C.nx (C.ret ?_))))
 exact C.g1 [some 0] T o ⟨x8, g, rfl, rfl, rfl⟩
theorem T_slices_Compact_int_int__o0 (s_1 : List Int) (post : (List Int) → Prop) (g : V_slices_Compact_int_int__o0 s_1 post) :
    Tr Try.prog 22 [.o 0] [(0, .val (.os 1 eI s_1))] 1 (fun A H' k => ∃ y, post y ∧ A = (.o 1) ∧ H' = [(1, .val (.os 1 eI y))] ∧ k = 2) := by
 refine Tr.go Try.func22 Try.ntmps22 fun _ _ _ _ o => ?_
 unfold V_slices_Compact_int_int__o0 at g
 refine C.ss (U.pd 1 T (C.xs (C.ss ?_)))
 refine U.pd 3 T (C.nx ?_)
 refine C.ite rfl g (fun b5 g => ?_) fun b5 g => ?_
 refine C.ss (U.pd 2 T (C.nx (C.ret (C.rt ?_))))
 exact C.g1 [some 0, some 0] T o ⟨s_1, g, rfl, rfl, rfl⟩
 refine C.skip (C.xs (C.ss (U.pd 1 T (C.nx ?_))))
 refine C.jn (fun (x10 : Unit) => [(0, .o 0)]) (fun x10 => [(0, .val (.os 1 eI s_1))]) 1 g (fun x10 g => ?_) fun J11 g j11 => ?_
 refine C.xt (U.pd 2 T (C.nx (C.ret ?_)))
 exact C.g1 [some 0, some 0] T o ⟨s_1, g, rfl, rfl, rfl⟩
 refine C.block (St.wk (C.loop (fun (s12 : Int) => [(0, .o 0), (3, .i s12)]) (fun s12 => [(0, .val (.os 1 eI s_1))]) g (fun s12 Y13 g => ?_)) (Wk.a [some 0]))
 refine C.seq (C.ss (U.pd 4 T (C.nx ?_)))
 refine C.ite rfl g (fun b16 g => ?_) fun b16 g => ?_
 refine C.skip (C.xs ?_)
 refine C.jn (fun (x17 : Unit) => [(0, .o 0), (3, .i s12)]) (fun x17 => [(0, .val (.os 1 eI s_1))]) 1 g (fun x17 g => ?_) fun J18 g j18 => ?_
 refine C.nx (U.start (U.pd 3 T (C.nx ?_)))
 exact St.wk (C.next g) (Wk.a [some 0])
 refine C.block (C.seq (D.bq mix 9999 [0] [] (fun hQ hS ws M' => ?_)))
 refine D.pq 2 (zl [0, 1]) T ?_
 obtain ⟨x21, y21, g⟩ := g
 refine D.q 2 [] hQ hS rfl (.none rfl) rfl rfl (by exact Rd.io T rfl rfl rfl rfl rfl rfl rfl y21) rfl (by kernel_rfl) ?_
 refine D.q 3 [] hQ hS rfl (.none rfl) rfl rfl (by exact Rd.le T rfl rfl rfl (idx_some y21).2.2 rfl rfl rfl) rfl (by kernel_rfl) ?_
 refine D.pq 3 (zl [4, 5, 6]) T ?_
 obtain ⟨x22, y22, g⟩ := g
 refine D.q 7 [] hQ hS rfl (.none rfl) rfl rfl (by exact Rd.io T rfl rfl rfl rfl rfl rfl rfl y22) rfl (by kernel_rfl) ?_
 refine D.q 8 [] hQ hS rfl (.none rfl) rfl rfl (by exact Rd.le T rfl rfl rfl (idx_some y22).2.2 rfl rfl rfl) rfl (by kernel_rfl) ?_
 refine D.pq 1 [(9, [])] T ?_
 refine D.done (by kernel_rfl) ?_
 refine C.nx ?_
 refine C.ite rfl g (fun b23 g => ?_) fun b23 g => ?_
 refine C.ss (U.ps 2 T rfl ?_)
 obtain ⟨y26, g⟩ := g
 refine U.r rfl (.none rfl) rfl rfl (by exact Rd.vw T rfl rfl rfl rfl rfl rfl (.some _ rfl) (.none _) y26) ?_
 refine U.pd 1 T (C.xs (C.ss ?_))
 refine U.pd 1 T (C.nx ?_)
 refine C.jn (fun (x29 : List Int × Int) => [(0, .o 0), (3, .i x29.2)]) (fun x29 => [(0, .val (.os 1 eI x29.1))]) 1 g (fun x29 g => ?_) fun J30 g j30 => ?_
 refine C.xt (U.ps 2 T rfl ?_)
 obtain ⟨y55, g⟩ := g
 refine U.r rfl (.none rfl) rfl rfl (by exact Rd.vw T rfl rfl rfl rfl rfl rfl (.some _ rfl) (.none _) y55) ?_
 obtain ⟨y56, g⟩ := g
 refine U.e1 rfl (.none rfl) (by exact Eff1.clv T (z0 := 0) rfl rfl rfl rfl rfl rfl rfl (fun _ => rfl) rfl y56) ?_
 refine U.done (C.xt (U.ps 2 T rfl ?_))
 obtain ⟨y59, g⟩ := g
 refine U.e1 rfl (.none rfl) (by exact Eff1.sw T rfl rfl rfl rfl rfl rfl rfl rfl (.none _) (.some _ rfl) y59) ?_
 refine U.pd 1 T (C.nx (C.ret (C.brt (C.rt (C.rt (C.brt (C.rt ?_)))))))
 exact C.g1 (idR 2) T o ⟨(sub (x29.1.take (Int.toNat x29.2) ++ (List.replicate (Int.toNat ((x29.1.length : Int) - x29.2)) 0 ++ x29.1.drop ((Int.toNat x29.2) + (Int.toNat ((x29.1.length : Int) - x29.2))))) 0 x29.2), g, rfl, rfl, rfl⟩
 refine C.block (St.wk (C.loop (fun (s31 : List Int × Int × Int) => [(0, .o 0), (3, .i s31.2.1), (4, .vw 0 1 (Int.toNat s12) (Int.toNat ((s_1.length : Int) - s12))), (5, .i s31.2.2)]) (fun s31 => [(0, .val (.os 1 eI s31.1))]) g (fun s31 Y32 g => ?_)) (Wk.a [some 0]))
 refine C.seq (C.ss (U.ps 2 T rfl (U.r rfl (.none rfl) rfl rfl (by exact Rd.vl T rfl rfl rfl) ?_)))
 refine U.pd 1 T (C.nx ?_)
 refine C.ite rfl g (fun b35 g => ?_) fun b35 g => ?_
 refine C.skip (C.xs (C.block (C.seq (D.bq mix 9999 [0] [] (fun hQ hS ws M' => ?_)))))
 refine D.pq 2 (zl [0, 1]) T ?_
 obtain ⟨y38, g⟩ := g
 refine D.q 2 [] hQ hS rfl (.none rfl) rfl rfl (by exact Rd.vi T rfl rfl rfl rfl rfl rfl y38) rfl (by kernel_rfl) ?_
 obtain ⟨x39, y39, g⟩ := g
 refine D.q 3 [] hQ hS rfl (.none rfl) rfl rfl (by exact Rd.le T rfl rfl rfl y39 rfl rfl rfl) rfl (by kernel_rfl) ?_
 refine D.pq 3 (zl [4, 5, 6]) T ?_
 obtain ⟨y40, g⟩ := g
 refine D.q 7 [] hQ hS rfl (.none rfl) rfl rfl (by exact Rd.vi T rfl rfl rfl rfl rfl rfl y40) rfl (by kernel_rfl) ?_
 obtain ⟨x41, y41, g⟩ := g
 refine D.q 8 [] hQ hS rfl (.none rfl) rfl rfl (by exact Rd.le T rfl rfl rfl y41 rfl rfl rfl) rfl (by kernel_rfl) ?_
 refine D.pq 1 [(9, [])] T ?_
 refine D.done (by kernel_rfl) ?_
 refine C.nx ?_
 refine C.jn (fun (x42 : List Int × Int) => [(0, .o 0), (3, .i x42.2), (4, .vw 0 1 (Int.toNat s12) (Int.toNat ((s_1.length : Int) - s12))), (5, .i s31.2.2)]) (fun x42 => [(0, .val (.os 1 eI x42.1))]) 1 g (fun x42 g => ?_) fun J43 g j43 => ?_
 refine C.bnx (C.nx (U.start (U.pd 3 T (C.nx ?_))))
 exact St.wk (C.next g) (Wk.a [some 0])
 refine C.ite rfl g (fun b44 g => ?_) fun b44 g => ?_
 refine C.ss (U.ps 4 T rfl ?_)
 obtain ⟨y47, g⟩ := g
 refine U.r rfl (.none rfl) rfl rfl (by exact Rd.vi T rfl rfl rfl rfl rfl rfl y47) ?_
 refine U.r rfl (.none rfl) rfl rfl (by exact Rd.le T rfl rfl rfl y39 rfl rfl rfl) ?_
 obtain ⟨x48, y48, g⟩ := g
 refine U.r rfl (.none rfl) rfl rfl (by exact Rd.io T rfl rfl rfl rfl rfl rfl rfl y48) ?_
 refine U.e1 rfl (.none rfl) (by exact Eff1.se T (z' := x39) rfl rfl rfl (idx_some y48).2.2 rfl rfl rfl rfl rfl rfl rfl rfl (fun _ => rfl) rfl) ?_
 refine U.done (C.nx (U.start (U.pd 3 T ?_)))
 exact St.wa [some 0] (j43 _ g)
 refine C.skip ?_
 exact St.wa [some 0] (j43 _ g)
 refine C.exit (C.ex (C.ex (C.bex ?_)))
 exact St.wa [some 0] (j30 _ g)
 refine C.skip (C.bnx ?_)
 exact St.wa [some 0] (j18 _ g)
 refine C.exit (C.ex (C.ex (C.bex ?_)))
 exact St.wa [some 0] (j11 _ g)
theorem T_slices_Index_int_int (s_1 : List Int) (v : Int) (post : Int → Prop) (g : V_slices_Index_int_int s_1 v post) :
    Tr Try.prog 56 [.sl 1 eI s_1, .i v] [] 0 (pI post) := by
 refine Tr.go Try.func56 Try.ntmps56 fun _ _ _ _ o => ?_
 unfold V_slices_Index_int_int at g
 refine C.ss (U.pd 1 T (C.xs (C.ss ?_)))
 refine U.pd 3 T (C.nx ?_)
 refine C.jn (fun (x5 : Unit) => []) (fun x5 => []) 0 g (fun x5 g => ?_) fun J6 g j6 => ?_
 refine C.xt (U.pd 1 T (C.nx (C.ret ?_)))
 exact C.f1 T o (pIi g)
 refine C.block (St.wk (C.loop (fun (s7 : Int) => [(0, .sl 1 eI s_1), (1, .i v), (7, .i (s_1.length : Int)), (8, .i s7)]) (fun s7 => []) g (fun s7 Y8 g => ?_)) (Wk.e))
 refine C.ss (U.pd 1 T (C.xs ?_))
 refine C.ite rfl g (fun b11 g => ?_) fun b11 g => ?_
 refine C.skip (C.xs (C.block (C.ss (U.pd 2 T (C.xt ?_)))))
 refine U.ps 3 T rfl ?_
 obtain ⟨x16, y16, g⟩ := g
 refine U.ix T y16 ?_
 refine U.pd 2 T (C.nx ?_)
 refine C.ite rfl g (fun b17 g => ?_) fun b17 g => ?_
 refine C.ss (U.pd 2 T (C.nx (C.ret (C.brt (C.rt (C.rt (C.brt (C.rt ?_))))))))
 exact C.f1 T o (pIi g)
 refine C.skip (C.bnx (C.nx (U.start (U.pd 2 T (C.nx ?_)))))
 exact St.wk (C.next g) (Wk.e)
 refine C.exit (C.ex (C.ex (C.bex ?_)))
 exact St.wk (j6 _ g) (Wk.mk' [] rfl rfl trivial trivial rfl)
theorem T_slices_Contains_int_int (s_1 : List Int) (v : Int) (post : Bool → Prop) (g : V_slices_Contains_int_int s_1 v post) :
    Tr Try.prog 25 [.sl 1 eI s_1, .i v] [] 0 (pB post) := by
 refine Tr.go Try.func25 Try.ntmps25 fun _ _ _ _ o => ?_
 unfold V_slices_Contains_int_int at g
 refine C.ss (U.pd 1 T (C.xt ?_))
 refine U.ps 2 T rfl (U.k (T_slices_Index_int_int s_1 v _ g) en56 (fun x5 g => ?_))
 refine U.pd 2 T (C.nx (C.ret ?_))
 exact C.f1 T o (pBi g)
theorem T_slices_Clone_int_int (s_1 : List Int) (post : (List Int) → Prop) (g : V_slices_Clone_int_int s_1 post) :
    Tr Try.prog 26 [.sl 1 eI s_1] [] 0 (fun A H' k => ∃ y, post y ∧ A = (.o 0) ∧ H' = [(0, .val (.os 1 eI y))] ∧ k = 1) := by
 refine Tr.go Try.func26 Try.ntmps26 fun _ _ _ _ o => ?_
 unfold V_slices_Clone_int_int at g
 refine C.ss (U.pd 1 T (C.xs (C.ss ?_)))
 refine U.ps 1 T rfl (U.e rfl (.none rfl) (by exact Eff.isnil T true rfl rfl rfl rfl rfl rfl (.inl ⟨.sl, rfl⟩) rfl) (fun b5' hhb5 => ?_))
 obtain ⟨b5⟩ := b5'
 replace g := g b5 hhb5
 refine U.done (C.nx ?_)
 refine C.ite rfl g (fun b6 g => ?_) fun b6 g => ?_
 refine C.ss (U.pd 1 T (C.nx (C.ret (C.rt ?_))))
 exact C.g1 [none] T o ⟨[], g, rfl, rfl, rfl⟩
 refine C.skip (C.xt (U.bs T eI ([] : List Int) ?_))
 refine U.ps 1 T rfl ?_
 obtain ⟨y11, g⟩ := g
 refine U.ap T y11 ?_
 refine U.pd 1 T (C.nx (C.ret ?_))
 exact C.g1 [some 1] T o ⟨(([] : List Int) ++ s_1), g, rfl, rfl, rfl⟩
theorem T_dock_Match (l : List (List Int)) (post : (List Int) → Prop) (g : V_dock_Match l post) :
    Tr Try.prog 8 [.sl 1 eLeI l] [] 0 (fun A H' k => ∃ y, post y ∧ A = (.o 0) ∧ H' = [(0, .val (.os 1 eI y))] ∧ k = 1) := by
 refine Tr.go Try.func8 Try.ntmps8 fun _ _ _ _ o => ?_
 unfold V_dock_Match at g
 refine C.ss (U.pd 1 T (C.xt ?_))
 refine U.ps 1 T rfl (U.k (T_dock_most l [] _ g) en21 (fun x5 g => ?_))
 refine U.pd 1 T (C.xt ?_)
 refine U.pd 1 T (C.xs (C.ss ?_))
 refine U.pd 3 T (C.nx ?_)
 refine C.jn (fun (x10 : List Int) => [(4, .o 0)]) (fun x10 => [(0, .val (.os 1 eI x10))]) 1 g (fun x10 g => ?_) fun J11 g j11 => ?_
 refine C.xt (U.pd 2 T (C.nx (C.ret ?_)))
 exact C.g1 [some 0] T o ⟨x10, g, rfl, rfl, rfl⟩
 refine C.block ?_
 refine St.wk (C.loop (fun (s12 : List Int × Int) => [(0, .sl 1 eLeI l), (3, .i x5), (4, .o 0), (12, .sl 1 eLeI l), (13, .i (l.length : Int)), (14, .i s12.2)]) (fun s12 => [(0, .val (.os 1 eI s12.1))]) g (fun s12 Y13 g => ?_)) (Wk.mk' [none] rfl rfl ⟨⟨_, rfl, (.eq rfl)⟩, ⟨_, rfl, (.eq rfl)⟩, ⟨_, rfl, (.nilO _ _ ⟨rfl, rfl⟩ rfl)⟩, ChkG.eqs rfl⟩ ⟨⟨_, rfl, .nil _ _⟩, trivial⟩ rfl)
 refine C.ss (U.pd 1 T (C.xs ?_))
 refine C.ite rfl g (fun b16 g => ?_) fun b16 g => ?_
 refine C.skip (C.xs ?_)
 refine C.jn (fun (x17 : List Int) => [(0, .sl 1 eLeI l), (3, .i x5), (4, .o 0), (12, .sl 1 eLeI l), (13, .i (l.length : Int)), (14, .i s12.2)]) (fun x17 => [(0, .val (.os 1 eI x17))]) 1 g (fun x17 g => ?_) fun J18 g j18 => ?_
 refine C.nx (U.start (U.pd 2 T (C.nx ?_)))
 exact St.wk (C.next g) (Wk.a [some 0])
 refine C.block (C.ss ?_)
 obtain ⟨x21, y21, g⟩ := g
 refine U.ix T y21 ?_
 refine U.pd 2 T (C.xt ?_)
 refine U.pd 1 T (C.xs (C.ss ?_))
 refine U.ps 1 T rfl (U.e rfl (.none rfl) (by exact Eff.c [] (v := false) (T_slices_Values_int_int x21 _ g) en24 rfl rfl rfl (.eq rfl) trivial rfl rfl rfl rfl rfl rfl (fun h => by cases h) (.inr ⟨rfl, rfl⟩) (fun _ => rfl) (fun _ => rfl) rfl) (fun x26' g => ?_))
 obtain ⟨x26⟩ := x26'
 refine U.k (T_slices_Sorted_int__slices_Values_int_int_1 x26 _ g) en23 fun x27 g => ?_
 refine U.c [some 2] (T_slices_Compact_int_int__o0 x27 _ g) en22 fun x28 g => ?_
 refine U.pd 2 T (C.nx ?_)
 refine C.jn (fun (x29 : Int) => [(0, .sl 1 eLeI l), (3, .i x5), (4, .o 0), (7, .i x29), (12, .sl 1 eLeI l), (13, .i (l.length : Int)), (14, .i s12.2)]) (fun x29 => [(0, .val (.os 1 eI s12.1))]) 1 g (fun x29 g => ?_) fun J30 g j30 => ?_
 refine C.nx (U.start (U.ps 2 T rfl (U.bs T eI ([x29] : List Int) ?_)))
 obtain ⟨y53, g⟩ := g
 refine U.ap T y53 ?_
 refine U.pd 1 T (C.bnx ?_)
 exact St.wa [some 2] (j18 _ g)
 refine C.block (St.wk (C.loop (fun (s31 : Int) => [(0, .sl 1 eLeI l), (3, .i x5), (4, .o 0), (7, .i (-1)), (12, .sl 1 eLeI l), (13, .i (l.length : Int)), (14, .i s12.2), (21, .o 1), (22, .i (x28.length : Int)), (23, .i s31)]) (fun s31 => [(0, .val (.os 1 eI s12.1)), (1, .val (.os 1 eI x28))]) g (fun s31 Y32 g => ?_)) (Wk.a [some 0, some 4]))
 refine C.ss (U.pd 1 T (C.xs ?_))
 refine C.ite rfl g (fun b35 g => ?_) fun b35 g => ?_
 refine C.skip (C.xs (C.block (C.ss ?_)))
 obtain ⟨x38, y38, g⟩ := g
 refine U.r rfl (.none rfl) rfl rfl (by exact Rd.io T rfl rfl rfl rfl rfl rfl rfl y38) ?_
 refine U.r rfl (.none rfl) rfl rfl (by exact Rd.le T rfl rfl rfl (idx_some y38).2.2 rfl rfl rfl) ?_
 refine U.pd 1 T (C.xs ?_)
 refine C.jn (fun (x39 : Bool) => [(0, .sl 1 eLeI l), (3, .i x5), (4, .o 0), (7, .i (-1)), (9, .i x38), (12, .sl 1 eLeI l), (13, .i (l.length : Int)), (14, .i s12.2), (21, .o 1), (22, .i (x28.length : Int)), (23, .i s31), (41, .b x39)]) (fun x39 => [(0, .val (.os 1 eI s12.1)), (1, .val (.os 1 eI x28))]) 2 g (fun x39 g => ?_) fun J40 g j40 => ?_
 refine C.nx ?_
 refine C.ite rfl g (fun b46 g => ?_) fun b46 g => ?_
 refine C.ss (U.pd 2 T (C.nx (C.exit ?_)))
 refine C.bex' rfl ?_
 refine C.ex (C.ex (C.bex ?_))
 exact St.wa [some 0] (j30 _ g)
 refine C.skip (C.bnx (C.nx (U.start (U.pd 2 T (C.nx ?_)))))
 exact St.wk (C.next g) (Wk.a (idR 2))
 refine U.start (U.ps 2 T rfl (U.k (T_slices_Contains_int_int s12.1 x38 _ g) en25 (fun x41 g => ?_)))
 refine U.ps 2 T rfl ?_
 refine g.cs (fun b42 g => ?_) fun b42 g => ?_
 refine U.sk' 9 4 true 31 (ntF b42) ?_
 refine U.pk' (ntF b42) ?_
 refine U.done ?_
 exact St.wa (idR 2) (j40 _ g)
 refine U.pq 2 4 true 31 (ntT b42) T ?_
 refine U.k (T_slices_Clone_int_int s12.1 _ g) en26 (fun x43 g => ?_) (hw := .take 4 true 31 _ (ntT b42) rfl rfl rfl)
 refine U.pq 1 4 true 31 (ntT b42) T ?_
 refine U.e1 rfl (.tk 4 true 31 (ntT b42)) (by exact Eff1.bs T (enc := eI) (xs := ([x38] : List Int)) rfl rfl rfl rfl rfl rfl rfl rfl rfl rfl (fun _ _ => rfl) rfl rfl) ?_
 obtain ⟨y44, g⟩ := g
 refine U.e1 rfl (.tk 4 true 31 (ntT b42)) (by exact Eff1.ap T rfl rfl rfl rfl rfl rfl (.inr ⟨_, rfl, rfl⟩) rfl rfl rfl (fun _ => rfl) rfl y44) ?_
 refine U.k (T_dock_most l (x43 ++ ([x38] : List Int)) _ g) en21 (fun x45 g => ?_) (hw := .take 4 true 31 _ (ntT b42) rfl rfl rfl)
 refine U.pq 2 4 true 31 (ntT b42) T ?_
 refine U.pk (ntT b42) ?_
 refine U.done ?_
 exact St.wa (idR 2) (j40 _ g)
 refine C.exit (C.ex (C.ex (C.bex ?_)))
 exact St.wa [some 0] (j30 _ g)
 refine C.exit (C.ex (C.ex (C.bex ?_)))
 exact St.wa [some 0] (j11 _ g)
theorem T_slices_Clone_int_int_v2 (s_1 : List (List Int)) (post : (List (List Int)) → Prop) (g : V_slices_Clone_int_int_v2 s_1 post) :
    Tr Try.prog 27 [.sl 1 eLeI s_1] [] 0 (fun A H' k => ∃ y, post y ∧ A = (.o 0) ∧ H' = [(0, .val (.os 1 eLeI y))] ∧ k = 1) := by
 refine Tr.go Try.func27 Try.ntmps27 fun _ _ _ _ o => ?_
 unfold V_slices_Clone_int_int_v2 at g
 refine C.ss (U.pd 1 T (C.xs (C.ss ?_)))
 refine U.ps 1 T rfl (U.e rfl (.none rfl) (by exact Eff.isnil T true rfl rfl rfl rfl rfl rfl (.inl ⟨.sl, rfl⟩) rfl) (fun b5' hhb5 => ?_))
 obtain ⟨b5⟩ := b5'
 replace g := g b5 hhb5
 refine U.done (C.nx ?_)
 refine C.ite rfl g (fun b6 g => ?_) fun b6 g => ?_
 refine C.ss (U.pd 1 T (C.nx (C.ret (C.rt ?_))))
 exact C.g1 [none] T o ⟨[], g, rfl, rfl, rfl⟩
 refine C.skip (C.xt (U.bs T eLeI ([] : List (List Int)) ?_))
 refine U.ps 1 T rfl ?_
 obtain ⟨y11, g⟩ := g
 refine U.ap T y11 ?_
 refine U.pd 1 T (C.nx (C.ret ?_))
 exact C.g1 [some 1] T o ⟨(([] : List (List Int)) ++ s_1), g, rfl, rfl, rfl⟩
theorem T_dock_Turns_1 (c : Int) (post : Bool → Prop) (g : V_dock_Turns_1 c post) :
    Tr Try.prog 29 [.i c] [] 0 (pB post) := by
 refine Tr.go Try.func29 Try.ntmps29 fun _ _ _ _ o => ?_
 unfold V_dock_Turns_1 at g
 refine C.ss (U.pd 1 T (C.xt ?_))
 refine U.pd 3 T (C.nx (C.ret ?_))
 exact C.f1 T o (pBi g)
theorem T_slices_IndexFunc_int_int__dock_Turns_1 (s_1 : List Int) (post : Int → Prop) (g : V_slices_IndexFunc_int_int__dock_Turns_1 s_1 post) :
    Tr Try.prog 57 [.sl 1 eI s_1, .fn (.func 29) [] []] [] 0 (pI post) := by
 refine Tr.go Try.func57 Try.ntmps57 fun _ _ _ _ o => ?_
 unfold V_slices_IndexFunc_int_int__dock_Turns_1 at g
 refine C.ss (U.pd 1 T (C.xs (C.ss ?_)))
 refine U.pd 3 T (C.nx ?_)
 refine C.jn (fun (x5 : Unit) => []) (fun x5 => []) 0 g (fun x5 g => ?_) fun J6 g j6 => ?_
 refine C.xt (U.pd 1 T (C.nx (C.ret ?_)))
 exact C.f1 T o (pIi g)
 refine C.block (St.wk (C.loop (fun (s7 : Int) => [(0, .sl 1 eI s_1), (1, .fn (.func 29) [] []), (7, .i (s_1.length : Int)), (8, .i s7)]) (fun s7 => []) g (fun s7 Y8 g => ?_)) (Wk.e))
 refine C.ss (U.pd 1 T (C.xs ?_))
 refine C.ite rfl g (fun b11 g => ?_) fun b11 g => ?_
 refine C.skip (C.xs (C.block (C.ss (U.pd 2 T (C.xt ?_)))))
 refine U.ps 3 T rfl ?_
 obtain ⟨x16, y16, g⟩ := g
 refine U.ix T y16 ?_
 refine U.ps 1 T rfl (U.k (T_dock_Turns_1 x16 _ g) en29 (fun x17 g => ?_))
 refine U.done (C.nx ?_)
 refine C.ite rfl g (fun b18 g => ?_) fun b18 g => ?_
 refine C.ss (U.pd 2 T (C.nx (C.ret (C.brt (C.rt (C.rt (C.brt (C.rt ?_))))))))
 exact C.f1 T o (pIi g)
 refine C.skip (C.bnx (C.nx (U.start (U.pd 2 T (C.nx ?_)))))
 exact St.wk (C.next g) (Wk.e)
 refine C.exit (C.ex (C.ex (C.bex ?_)))
 exact St.wk (j6 _ g) (Wk.mk' [] rfl rfl trivial trivial rfl)
theorem T_slices_ContainsFunc_int_int__dock_Turns_1 (s_1 : List Int) (post : Bool → Prop) (g : V_slices_ContainsFunc_int_int__dock_Turns_1 s_1 post) :
    Tr Try.prog 28 [.sl 1 eI s_1, .fn (.func 29) [] []] [] 0 (pB post) := by
 refine Tr.go Try.func28 Try.ntmps28 fun _ _ _ _ o => ?_
 unfold V_slices_ContainsFunc_int_int__dock_Turns_1 at g
 refine C.ss (U.pd 1 T (C.xt ?_))
 refine U.ps 2 T rfl (U.k (T_slices_IndexFunc_int_int__dock_Turns_1 s_1 _ g) en57 (fun x5 g => ?_))
 refine U.pd 2 T (C.nx (C.ret ?_))
 exact C.f1 T o (pBi g)
theorem T_dock_Turns (l : List (List Int)) (post : (List (List Int)) → Prop) (g : V_dock_Turns l post) :
    Tr Try.prog 10 [.sl 1 eLeI l] [] 0 (fun A H' k => ∃ y, post y ∧ A = (.o 0) ∧ H' = [(0, .val (.os 1 eOeI y))] ∧ k = 1) := by
 refine Tr.go Try.func10 Try.ntmps10 fun _ _ _ _ o => ?_
 unfold V_dock_Turns at g
 refine C.ss (U.pd 1 T (C.xt ?_))
 refine U.ps 1 T rfl (U.e rfl (.none rfl) (by exact Eff.c [] (v := false) (T_slices_Clone_int_int_v2 l _ g) en27 rfl rfl rfl (.eq rfl) trivial rfl rfl rfl rfl rfl rfl (fun h => by cases h) (.inr ⟨rfl, rfl⟩) (fun _ => rfl) (fun _ => rfl) rfl) (fun x5' g => ?_))
 obtain ⟨x5⟩ := x5'
 refine U.pd 1 T (C.xt ?_)
 refine U.pd 1 T (C.nx (C.block ?_))
 refine St.wk (C.loop (fun (s10 : List (List Int) × List (List Int)) => [(3, .o 0), (4, .o 1)]) (fun s10 => [(0, .val (.os 1 eLeI s10.1)), (1, .val (.os 1 eOeI s10.2))]) g (fun s10 Y11 g => ?_)) (Wk.mk' [some 0, none] rfl rfl ⟨⟨_, rfl, (.eq rfl)⟩, ⟨_, rfl, (.nilO _ _ ⟨rfl, rfl⟩ rfl)⟩, trivial⟩ ⟨vL, ⟨_, rfl, .nil _ _⟩, trivial⟩ rfl)
 refine C.jn (fun (x12 : List (List Int) × List (List Int)) => [(3, .o 0), (4, .o 1)]) (fun x12 => [(0, .val (.os 1 eLeI x12.1)), (1, .val (.os 1 eOeI x12.2))]) 2 g (fun x12 g => ?_) fun J13 g j13 => ?_
 refine C.nx ?_
 exact St.wk (C.next g) (Wk.a (idR 2))
 refine C.block (C.ss (U.ps 1 T rfl (U.k (T_dock_Match s10.1 _ g) en8 (fun x16 g => ?_))))
 refine U.pd 1 T (C.xs (C.ss ?_))
 refine U.ps 1 T rfl (U.k (T_slices_ContainsFunc_int_int__dock_Turns_1 x16 _ g) en28 (fun x19 g => ?_))
 refine U.pd 1 T (C.nx ?_)
 refine C.ite rfl g (fun b20 g => ?_) fun b20 g => ?_
 refine C.ss (U.pd 2 T (C.nx (C.ret (C.rt (C.brt (C.rt (C.brt ?_)))))))
 exact C.g1 [some 1] T o ⟨s10.2, g, rfl, rfl, rfl⟩
 refine C.skip (C.xs (C.ss (U.pd 3 T (C.nx ?_))))
 refine C.jn (fun (x25 : List (List Int)) => [(3, .o 0), (4, .o 1), (5, .o 2)]) (fun x25 => [(0, .val (.os 1 eLeI x25)), (1, .val (.os 1 eOeI s10.2)), (2, .val (.os 1 eI x16))]) 3 g (fun x25 g => ?_) fun J26 g j26 => ?_
 refine C.nx (U.start (U.ps 2 T rfl (U.e1 rfl (.none rfl) (by exact Eff1.bsl T (enc := eOeI) x16 rfl rfl rfl rfl rfl rfl rfl rfl rfl) ?_)))
 obtain ⟨y47, g⟩ := g
 refine U.e1 rfl (.none rfl) (by exact Eff1.apl T rfl rfl rfl rfl rfl rfl rfl (fun _ => rfl) rfl rfl rfl rfl ⟨_, rfl, rfl⟩ y47) ?_
 refine U.pd 1 T ?_
 refine St.putb (l := 4) (l' := 2) (y := x16) rfl rfl rfl (fun _ h => nomatch h) rfl _ rfl ?_
 refine C.bnx ?_
 exact St.wa [some 0, some 4] (j13 _ g)
 refine C.block (St.wk (C.loop (fun (s27 : List (List Int) × Int) => [(3, .o 0), (4, .o 1), (5, .o 2), (16, .o 2), (17, .i (x16.length : Int)), (18, .i s27.2)]) (fun s27 => [(0, .val (.os 1 eLeI s27.1)), (1, .val (.os 1 eOeI s10.2)), (2, .val (.os 1 eI x16))]) g (fun s27 Y28 g => ?_)) (Wk.a (idR 3)))
 refine C.ss (U.pd 1 T (C.xs ?_))
 refine C.ite rfl g (fun b31 g => ?_) fun b31 g => ?_
 refine C.skip (C.xs (C.block (C.ss (U.ps 1 T rfl ?_))))
 obtain ⟨x34, y34, g⟩ := g
 refine U.r rfl (.none rfl) rfl rfl (by exact Rd.io T rfl rfl rfl rfl rfl rfl rfl y34) ?_
 refine U.r rfl (.none rfl) rfl rfl (by exact Rd.le T rfl rfl rfl (idx_some y34).2.2 rfl rfl rfl) ?_
 refine U.pd 2 T (C.xt ?_)
 refine U.pd 2 T (C.nx ?_)
 refine C.jn (fun (x37 : List (List Int)) => [(3, .o 0), (4, .o 1), (5, .o 2), (16, .o 2), (17, .i (x16.length : Int)), (18, .i s27.2)]) (fun x37 => [(0, .val (.os 1 eLeI x37)), (1, .val (.os 1 eOeI s10.2)), (2, .val (.os 1 eI x16))]) 3 g (fun x37 g => ?_) fun J38 g j38 => ?_
 refine C.bnx (C.nx (U.start (U.pd 2 T (C.nx ?_))))
 exact St.wk (C.next g) (Wk.a (idR 3))
 refine C.ite rfl g (fun b39 g => ?_) fun b39 g => ?_
 refine U.start (U.ps 2 T rfl ?_)
 obtain ⟨x42, y42, g⟩ := g
 refine U.r rfl (.none rfl) rfl rfl (by exact Rd.io T rfl rfl rfl rfl rfl rfl rfl y42) ?_
 refine U.e1 rfl (.none rfl) (by exact Eff1.seN T (z' := []) rfl rfl rfl (idx_some y42).2.2 rfl rfl rfl rfl rfl rfl (.cons (.sl _ _) .nil) rfl (fun _ => rfl) rfl) ?_
 refine U.done ?_
 exact St.wa (idR 3) (j38 _ g)
 refine C.skip ?_
 exact St.wa (idR 3) (j38 _ g)
 refine C.exit (C.ex (C.ex (C.bex ?_)))
 exact St.wa (idR 3) (j26 _ g)
theorem T_taquinref07_Same (a : List Int) (b : List Int) (post : Bool → Prop) (g : V_taquinref07_Same a b post) :
    Tr Try.prog 11 [.sl 1 eI a, .sl 1 eI b] [] 0 (pB post) := by
 refine Tr.go Try.func11 Try.ntmps11 fun _ _ _ _ o => ?_
 unfold V_taquinref07_Same at g
 refine C.ss (U.pd 1 T (C.xs (C.ss ?_)))
 refine U.pd 5 T (C.nx ?_)
 refine C.ite rfl g (fun b5 g => ?_) fun b5 g => ?_
 refine C.ss (U.pd 1 T (C.nx (C.ret (C.rt ?_))))
 exact C.f1 T o (pBi g)
 refine C.skip (C.xs (C.ss (U.pd 1 T (C.nx ?_))))
 refine C.jn (fun (x10 : Unit) => []) (fun x10 => []) 0 g (fun x10 g => ?_) fun J11 g j11 => ?_
 refine C.xt (U.pd 1 T (C.nx (C.ret ?_)))
 exact C.f1 T o (pBi g)
 refine C.block (St.wk (C.loop (fun (s12 : Int) => [(0, .sl 1 eI a), (1, .sl 1 eI b), (5, .i s12)]) (fun s12 => []) g (fun s12 Y13 g => ?_)) (Wk.e))
 refine C.seq (C.ss (U.pd 4 T (C.nx ?_)))
 refine C.ite rfl g (fun b16 g => ?_) fun b16 g => ?_
 refine C.skip (C.xs (C.block (C.seq (D.bq mix 9999 [] [] (fun hQ hS ws M' => ?_)))))
 refine D.pq 2 (zl [0, 1]) T ?_
 obtain ⟨x19, y19, g⟩ := g
 refine D.ix 2 [] T y19 ?_
 refine D.pq 3 (zl [3, 4, 5]) T ?_
 obtain ⟨x20, y20, g⟩ := g
 refine D.ix 6 [] T y20 ?_
 refine D.pq 2 (zl [7, 8]) T ?_
 refine D.done (by kernel_rfl) ?_
 refine C.nx ?_
 refine C.ite rfl g (fun b21 g => ?_) fun b21 g => ?_
 refine C.ss (U.pd 1 T (C.nx (C.ret (C.brt (C.rt (C.rt (C.brt (C.rt ?_))))))))
 exact C.f1 T o (pBi g)
 refine C.skip (C.bnx (C.nx (U.start (U.pd 3 T (C.nx ?_)))))
 exact St.wk (C.next g) (Wk.e)
 refine C.exit (C.ex (C.ex (C.bex ?_)))
 exact St.wk (j11 _ g) (Wk.mk' [] rfl rfl trivial trivial rfl)
theorem T_taquinlaw34_small (post : Bool → Prop) (g : V_taquinlaw34_small post) :
    Tr Try.prog 6 [] [] 0 (pB post) := by
 refine Tr.go Try.func6 Try.ntmps6 fun _ _ _ _ o => ?_
 unfold V_taquinlaw34_small at g
 refine C.ss (U.pd 1 T (C.xt ?_))
 refine U.bs T eI ([5, 9] : List Int) ?_
 refine U.bs T eI ([5] : List Int) ?_
 refine St.wk (Γ' := [(0, .b false), (5, .sl 1 eI ([5, 9] : List Int)), (6, .sl 1 eI ([5] : List Int))]) (H' := []) (nl' := 0) ?_ (Wk.mk' [] rfl rfl ⟨⟨_, rfl, (.eq rfl)⟩, ⟨_, rfl, (.fz rfl rfl rfl (.os fun _ => .cons (.ro rfl) .nil))⟩, ⟨_, rfl, (.fz rfl rfl rfl (.os fun _ => .cons (.ro rfl) .nil))⟩, trivial⟩ trivial rfl)
 refine U.bs T eLeI ([([5, 9] : List Int), ([5] : List Int)] : List (List Int)) ?_
 refine U.k (T_dock_Match ([([5, 9] : List Int), ([5] : List Int)] : List (List Int)) _ g) en8 fun x5 g => ?_
 refine U.pd 1 T (C.xt ?_)
 refine U.bs T eI ([5, 9] : List Int) ?_
 refine U.bs T eI ([5] : List Int) ?_
 refine U.bs T eI ([9] : List Int) ?_
 refine St.wk (Γ' := [(0, .b false), (1, .o 0), (5, .sl 1 eI ([5, 9] : List Int)), (6, .sl 1 eI ([5] : List Int)), (7, .o 1), (8, .o 0), (9, .sl 1 eI ([5, 9] : List Int)), (10, .sl 1 eI ([5] : List Int)), (11, .sl 1 eI ([9] : List Int))]) (H' := [(0, .val (.os 1 eI x5)), (1, .val (.os 1 eLeI ([([5, 9] : List Int), ([5] : List Int)] : List (List Int))))]) (nl' := 2) ?_ (Wk.mk' [some 1, some 0] rfl rfl ⟨⟨_, rfl, (.eq rfl)⟩, ⟨_, rfl, (.eq rfl)⟩, ⟨_, rfl, (.eq rfl)⟩, ⟨_, rfl, (.eq rfl)⟩, ⟨_, rfl, (.eq rfl)⟩, ⟨_, rfl, (.eq rfl)⟩, ⟨_, rfl, (.fz rfl rfl rfl (.os fun _ => .cons (.ro rfl) .nil))⟩, ⟨_, rfl, (.fz rfl rfl rfl (.os fun _ => .cons (.ro rfl) .nil))⟩, ⟨_, rfl, (.fz rfl rfl rfl (.os fun _ => .cons (.ro rfl) .nil))⟩, trivial⟩ ⟨vL, vL, trivial⟩ rfl)
 refine U.bs T eLeI ([([5, 9] : List Int), ([5] : List Int), ([9] : List Int)] : List (List Int)) ?_
 refine U.k (T_dock_Match ([([5, 9] : List Int), ([5] : List Int), ([9] : List Int)] : List (List Int)) _ g) en8 fun x8 g => ?_
 refine U.pd 1 T (C.xt ?_)
 refine U.bs T eI ([5, 9] : List Int) ?_
 refine U.bs T eI ([5] : List Int) ?_
 refine U.bs T eI ([9] : List Int) ?_
 refine St.wk (Γ' := [(0, .b false), (1, .o 0), (2, .o 1), (5, .sl 1 eI ([5, 9] : List Int)), (6, .sl 1 eI ([5] : List Int)), (7, .o 2), (8, .o 0), (9, .sl 1 eI ([5, 9] : List Int)), (10, .sl 1 eI ([5] : List Int)), (11, .sl 1 eI ([9] : List Int)), (12, .o 3), (13, .o 1), (14, .sl 1 eI ([5, 9] : List Int)), (15, .sl 1 eI ([5] : List Int)), (16, .sl 1 eI ([9] : List Int))]) (H' := [(0, .val (.os 1 eI x5)), (1, .val (.os 1 eI x8)), (2, .val (.os 1 eLeI ([([5, 9] : List Int), ([5] : List Int)] : List (List Int)))), (3, .val (.os 1 eLeI ([([5, 9] : List Int), ([5] : List Int), ([9] : List Int)] : List (List Int))))]) (nl' := 4) ?_ (Wk.mk' [some 0, some 3, some 1, some 2] rfl rfl ⟨⟨_, rfl, (.eq rfl)⟩, ⟨_, rfl, (.eq rfl)⟩, ⟨_, rfl, (.eq rfl)⟩, ⟨_, rfl, (.eq rfl)⟩, ⟨_, rfl, (.eq rfl)⟩, ⟨_, rfl, (.eq rfl)⟩, ⟨_, rfl, (.eq rfl)⟩, ⟨_, rfl, (.eq rfl)⟩, ⟨_, rfl, (.eq rfl)⟩, ⟨_, rfl, (.eq rfl)⟩, ⟨_, rfl, (.eq rfl)⟩, ⟨_, rfl, (.eq rfl)⟩, ⟨_, rfl, (.fz rfl rfl rfl (.os fun _ => .cons (.ro rfl) .nil))⟩, ⟨_, rfl, (.fz rfl rfl rfl (.os fun _ => .cons (.ro rfl) .nil))⟩, ⟨_, rfl, (.fz rfl rfl rfl (.os fun _ => .cons (.ro rfl) .nil))⟩, trivial⟩ ⟨vL, vL, vL, vL, trivial⟩ rfl)
 refine U.bs T eLeI ([([5, 9] : List Int), ([5] : List Int), ([9] : List Int)] : List (List Int)) ?_
 refine U.k (T_dock_Turns ([([5, 9] : List Int), ([5] : List Int), ([9] : List Int)] : List (List Int)) _ g) en10 fun x11 g => ?_
 refine U.pd 1 T (C.xt ?_)
 refine U.bs T eI ([5] : List Int) ?_
 refine U.bs T eI ([5] : List Int) ?_
 refine St.wk (Γ' := [(0, .b false), (1, .o 0), (2, .o 1), (3, .o 2), (5, .sl 1 eI ([5, 9] : List Int)), (6, .sl 1 eI ([5] : List Int)), (7, .o 3), (8, .o 0), (9, .sl 1 eI ([5, 9] : List Int)), (10, .sl 1 eI ([5] : List Int)), (11, .sl 1 eI ([9] : List Int)), (12, .o 4), (13, .o 1), (14, .sl 1 eI ([5, 9] : List Int)), (15, .sl 1 eI ([5] : List Int)), (16, .sl 1 eI ([9] : List Int)), (17, .o 5), (18, .o 2), (19, .sl 1 eI ([5] : List Int)), (20, .sl 1 eI ([5] : List Int))]) (H' := [(0, .val (.os 1 eI x5)), (1, .val (.os 1 eI x8)), (2, .val (.os 1 eOeI x11)), (3, .val (.os 1 eLeI ([([5, 9] : List Int), ([5] : List Int)] : List (List Int)))), (4, .val (.os 1 eLeI ([([5, 9] : List Int), ([5] : List Int), ([9] : List Int)] : List (List Int)))), (5, .val (.os 1 eLeI ([([5, 9] : List Int), ([5] : List Int), ([9] : List Int)] : List (List Int))))]) (nl' := 6) ?_ (Wk.mk' [some 0, some 1, some 5, some 2, some 3, some 4] rfl rfl ⟨⟨_, rfl, (.eq rfl)⟩, ⟨_, rfl, (.eq rfl)⟩, ⟨_, rfl, (.eq rfl)⟩, ⟨_, rfl, (.eq rfl)⟩, ⟨_, rfl, (.eq rfl)⟩, ⟨_, rfl, (.eq rfl)⟩, ⟨_, rfl, (.eq rfl)⟩, ⟨_, rfl, (.eq rfl)⟩, ⟨_, rfl, (.eq rfl)⟩, ⟨_, rfl, (.eq rfl)⟩, ⟨_, rfl, (.eq rfl)⟩, ⟨_, rfl, (.eq rfl)⟩, ⟨_, rfl, (.eq rfl)⟩, ⟨_, rfl, (.eq rfl)⟩, ⟨_, rfl, (.eq rfl)⟩, ⟨_, rfl, (.eq rfl)⟩, ⟨_, rfl, (.eq rfl)⟩, ⟨_, rfl, (.eq rfl)⟩, ⟨_, rfl, (.fz rfl rfl rfl (.os fun _ => .cons (.ro rfl) .nil))⟩, ⟨_, rfl, (.fz rfl rfl rfl (.os fun _ => .cons (.ro rfl) .nil))⟩, trivial⟩ ⟨vL, vL, vL, vL, vL, vL, trivial⟩ rfl)
 refine U.e1 rfl (.none rfl) (by exact Eff1.re (A' := .os 1 eLeI ([([5] : List Int), [], ([5] : List Int)] : List (List Int))) (Eff1.bs T (enc := fun i : Nat => ([[.sl 1 eI ([5] : List Int)], [vN], [.sl 1 eI ([5] : List Int)]] : List (List AVal)).getD i []) (xs := [0, 1, 2]) rfl rfl rfl rfl rfl rfl rfl rfl rfl rfl (fun y hy => by simp at hy; (try rcases hy with rfl | rfl | rfl) <;> (try subst hy) <;> rfl) rfl rfl) (fun _ _ _ _ _ h => ((.cons (.cons (.refl _) .nil) (.cons (.cons (.sl _ _) .nil) (.cons (.cons (.refl _) .nil) .nil))) : NlR _ _ _ _).on h)) ?_
 refine U.k (T_dock_Turns ([([5] : List Int), [], ([5] : List Int)] : List (List Int)) _ g) en10 fun x14 g => ?_
 refine U.pd 1 T (C.xs (C.seq ?_))
 refine C.jn (fun (x15 : Bool) => [(1, .o 0), (2, .o 1), (3, .o 2), (4, .o 3), (30, .b x15)]) (fun x15 => [(0, .val (.os 1 eI x5)), (1, .val (.os 1 eI x8)), (2, .val (.os 1 eOeI x11)), (3, .val (.os 1 eOeI x14))]) 4 g (fun x15 g => ?_) fun J16 g j16 => ?_
 refine C.nx ?_
 refine C.ite rfl g (fun b18 g => ?_) fun b18 g => ?_
 refine C.ss (U.pd 1 T (C.nx (C.ret (C.rt ?_))))
 exact C.f1 T o (pBi g)
 refine C.skip (C.xs ?_)
 refine C.jn (fun (x21 : Bool) => [(0, .b x21)]) (fun x21 => []) 0 g (fun x21 g => ?_) fun J22 g j22 => ?_
 refine C.nx (C.ret ?_)
 exact C.f1 T o (pBi g)
 refine U.start (U.ps 1 T rfl (U.bs T eI ([9, 5] : List Int) ?_))
 refine U.k (T_taquinref07_Same x5 ([9, 5] : List Int) _ g) en11 fun x23 g => ?_
 refine U.ps 1 T rfl ?_
 refine g.cs (fun b24 g => ?_) fun b24 g => ?_
 refine U.pq 1 3 true 34 b24 T ?_
 refine U.e1 rfl (.tk 3 true 34 b24) (by exact Eff1.bs T (enc := eI) (xs := ([5, (-1), 9] : List Int)) rfl rfl rfl rfl rfl rfl rfl rfl rfl rfl (fun _ _ => rfl) rfl rfl) ?_
 refine U.k (T_taquinref07_Same x8 ([5, (-1), 9] : List Int) _ g) en11 (fun x25 g => ?_) (hw := .take 3 true 34 _ b24 rfl rfl rfl)
 refine U.pk b24 ?_
 refine U.ps 1 T rfl ?_
 refine g.cs (fun b26 g => ?_) fun b26 g => ?_
 refine U.pq 1 8 true 39 b26 T ?_
 obtain ⟨x27, y27, g⟩ := g
 refine U.r rfl (.tk 8 true 39 b26) rfl rfl (by exact Rd.io T rfl rfl rfl rfl rfl rfl rfl y27) ?_
 refine St.lend (l := 2) (i := (Int.toNat 0)) rfl (idx_some y27).2.2 rfl (fun _ => rfl) ?_
 refine U.r rfl (.tk 8 true 39 b26) rfl rfl (by exact Rd.ll T rfl rfl rfl (.head _) rfl rfl rfl rfl) ?_
 refine U.pq 1 8 true 39 b26 T ?_
 refine U.k (T_taquinref07_Same x27 x8 _ g) en11 (fun x28 g => ?_) (hw := .take 8 true 39 _ b26 rfl rfl rfl)
 refine U.pk b26 ?_
 refine U.ps 1 T rfl ?_
 refine g.cs (fun b29 g => ?_) fun b29 g => ?_
 refine U.pq 1 15 true 46 b29 T ?_
 obtain ⟨x30, y30, g⟩ := g
 refine U.r rfl (.tk 15 true 46 b29) rfl rfl (by exact Rd.il T rfl rfl rfl rfl rfl rfl rfl y30) ?_
 obtain ⟨y31, g⟩ := g
 refine St.lend2 (l := 2) (i := (Int.toNat 1)) rfl (fun p hp => by simp only [List.mem_singleton] at hp; subst hp; exact y31) (idx_some y30).2.2 rfl ?_
 refine U.r rfl (.tk 15 true 46 b29) rfl rfl (by exact Rd.ll T rfl rfl rfl (.head _) rfl rfl rfl rfl) ?_
 refine U.e1 rfl (.tk 15 true 46 b29) (by exact Eff1.bs T (enc := eI) (xs := ([(-1), 5, (-1)] : List Int)) rfl rfl rfl rfl rfl rfl rfl rfl rfl rfl (fun _ _ => rfl) rfl rfl) ?_
 refine U.k (T_taquinref07_Same x30 ([(-1), 5, (-1)] : List Int) _ g) en11 (fun x32 g => ?_) (hw := .take 15 true 46 _ b29 rfl rfl rfl)
 refine U.pk b29 ?_
 refine U.ps 1 T rfl ?_
 refine g.cs (fun b33 g => ?_) fun b33 g => ?_
 refine U.pq 1 22 true 53 b33 T ?_
 obtain ⟨x34, y34, g⟩ := g
 refine U.r rfl (.tk 22 true 53 b33) rfl rfl (by exact Rd.io T rfl rfl rfl rfl rfl rfl rfl y34) ?_
 refine St.lend (l := 3) (i := (Int.toNat 0)) rfl (idx_some y34).2.2 rfl (fun _ => rfl) ?_
 refine U.r rfl (.tk 22 true 53 b33) rfl rfl (by exact Rd.ll T rfl rfl rfl (.head _) rfl rfl rfl rfl) ?_
 refine U.e1 rfl (.tk 22 true 53 b33) (by exact Eff1.bs T (enc := eI) (xs := ([5, (-1), (-1)] : List Int)) rfl rfl rfl rfl rfl rfl rfl rfl rfl rfl (fun _ _ => rfl) rfl rfl) ?_
 refine U.k (T_taquinref07_Same x34 ([5, (-1), (-1)] : List Int) _ g) en11 (fun x35 g => ?_) (hw := .take 22 true 53 _ b33 rfl rfl rfl)
 refine U.pk b33 ?_
 refine U.ps 1 T rfl ?_
 refine g.cs (fun b36 g => ?_) fun b36 g => ?_
 refine U.pq 1 29 true 60 b36 T ?_
 obtain ⟨x37, y37, g⟩ := g
 refine U.r rfl (.tk 29 true 60 b36) rfl rfl (by exact Rd.il T rfl rfl rfl rfl rfl rfl rfl y37) ?_
 obtain ⟨y38, g⟩ := g
 refine St.lend2 (l := 3) (i := (Int.toNat 1)) rfl (fun p hp => by simp only [List.mem_singleton] at hp; subst hp; exact y38) (idx_some y37).2.2 rfl ?_
 refine U.r rfl (.tk 29 true 60 b36) rfl rfl (by exact Rd.ll T rfl rfl rfl (.head _) rfl rfl rfl rfl) ?_
 refine U.e1 rfl (.tk 29 true 60 b36) (by exact Eff1.bs T (enc := eI) (xs := ([(-1), (-1), 5] : List Int)) rfl rfl rfl rfl rfl rfl rfl rfl rfl rfl (fun _ _ => rfl) rfl rfl) ?_
 refine U.k (T_taquinref07_Same x37 ([(-1), (-1), 5] : List Int) _ g) en11 (fun x39 g => ?_) (hw := .take 29 true 60 _ b36 rfl rfl rfl)
 refine U.pk b36 ?_
 refine U.pd 1 T ?_
 refine St.putb (l := 2) (l' := 7) (y := x30) rfl rfl rfl (fun p hp => by simp only [List.mem_singleton] at hp; subst hp; exact y38) rfl _ rfl ?_
 refine St.putb (l := 2) (l' := 6) (y := x27) rfl rfl rfl (fun _ h => nomatch h) rfl _ rfl ?_
 refine St.putb (l := 3) (l' := 11) (y := x37) rfl rfl rfl (fun p hp => by simp only [List.mem_singleton] at hp; subst hp; exact y38) rfl _ rfl ?_
 refine St.putb (l := 3) (l' := 9) (y := x34) rfl rfl rfl (fun _ h => nomatch h) rfl _ rfl ?_
 exact St.wn (j22 _ g)
 refine U.sk' 5 29 true 60 b36 ?_
 refine U.pk' b36 ?_
 refine U.pd 1 T ?_
 refine St.putb (l := 2) (l' := 7) (y := x30) rfl rfl rfl (fun p hp => by simp only [List.mem_singleton] at hp; subst hp; exact y31) rfl _ rfl ?_
 refine St.putb (l := 2) (l' := 6) (y := x27) rfl rfl rfl (fun _ h => nomatch h) rfl _ rfl ?_
 refine St.putb (l := 3) (l' := 9) (y := x34) rfl rfl rfl (fun _ h => nomatch h) rfl _ rfl ?_
 exact St.wn (j22 _ g)
 refine U.sk' 5 22 true 53 b33 ?_
 refine U.pk' b33 ?_
 refine U.ps 1 T rfl (U.sk' 5 29 true 60 rfl ?_)
 refine U.pk' rfl ?_
 refine U.pd 1 T ?_
 refine St.putb (l := 2) (l' := 7) (y := x30) rfl rfl rfl (fun p hp => by simp only [List.mem_singleton] at hp; subst hp; exact y31) rfl _ rfl ?_
 refine St.putb (l := 2) (l' := 6) (y := x27) rfl rfl rfl (fun _ h => nomatch h) rfl _ rfl ?_
 exact St.wn (j22 _ g)
 refine U.sk' 5 15 true 46 b29 ?_
 refine U.pk' b29 ?_
 refine U.ps 1 T rfl (U.sk' 5 22 true 53 rfl ?_)
 refine U.pk' rfl ?_
 refine U.ps 1 T rfl (U.sk' 5 29 true 60 rfl ?_)
 refine U.pk' rfl ?_
 refine U.pd 1 T ?_
 refine St.putb (l := 2) (l' := 6) (y := x27) rfl rfl rfl (fun _ h => nomatch h) rfl _ rfl ?_
 exact St.wn (j22 _ g)
 refine U.sk' 5 8 true 39 b26 ?_
 refine U.pk' b26 ?_
 refine U.ps 1 T rfl (U.sk' 5 15 true 46 rfl ?_)
 refine U.pk' rfl ?_
 refine U.ps 1 T rfl (U.sk' 5 22 true 53 rfl ?_)
 refine U.pk' rfl ?_
 refine U.ps 1 T rfl (U.sk' 5 29 true 60 rfl ?_)
 refine U.pk' rfl ?_
 refine U.pd 1 T ?_
 exact St.wn (j22 _ g)
 refine U.sk' 3 3 true 34 b24 ?_
 refine U.pk' b24 ?_
 refine U.ps 1 T rfl (U.sk' 5 8 true 39 rfl ?_)
 refine U.pk' rfl ?_
 refine U.ps 1 T rfl (U.sk' 5 15 true 46 rfl ?_)
 refine U.pk' rfl ?_
 refine U.ps 1 T rfl (U.sk' 5 22 true 53 rfl ?_)
 refine U.pk' rfl ?_
 refine U.ps 1 T rfl (U.sk' 5 29 true 60 rfl ?_)
 refine U.pk' rfl ?_
 refine U.pd 1 T ?_
 exact St.wn (j22 _ g)
 refine U.start (U.ps 4 T rfl ?_)
 refine g.cs (fun b17 g => ?_) fun b17 g => ?_
 refine U.sk' 3 3 false 26 b17 ?_
 refine U.pk b17 ?_
 refine U.done ?_
 exact St.wa [some 0, some 1, some 2, some 7] (j16 _ g)
 refine U.pq 3 3 false 26 b17 T ?_
 refine U.pk' b17 ?_
 refine U.done ?_
 exact St.wa [some 0, some 1, some 2, some 7] (j16 _ g)
theorem T_taquinref34_Few (l : List (List Int)) (n : Int) (post : Bool → Prop) (g : V_taquinref34_Few l n post) :
    Tr Try.prog 7 [.sl 1 eLeI l, .i n] [] 0 (pB post) := by
 refine Tr.go Try.func7 Try.ntmps7 fun _ _ _ _ o => ?_
 unfold V_taquinref34_Few at g
 refine C.ss (U.pd 1 T (C.xs (C.ss ?_)))
 refine U.pd 1 T (C.nx ?_)
 refine C.jn (fun (x5 : Unit) => [(0, .sl 1 eLeI l), (1, .i n)]) (fun x5 => []) 0 g (fun x5 g => ?_) fun J6 g j6 => ?_
 refine C.xt (U.pd 5 T (C.nx (C.ret ?_)))
 exact C.f1 T o (pBi g)
 refine C.block (St.wk (C.loop (fun (s7 : Int) => [(0, .sl 1 eLeI l), (1, .i n), (5, .i s7)]) (fun s7 => []) g (fun s7 Y8 g => ?_)) (Wk.e))
 refine C.seq (C.seq ?_)
 refine C.jn (fun (x9 : Bool) => [(0, .sl 1 eLeI l), (1, .i n), (5, .i s7), (15, .b x9)]) (fun x9 => []) 0 g (fun x9 g => ?_) fun J10 g j10 => ?_
 refine C.nx ?_
 refine C.ite rfl g (fun b12 g => ?_) fun b12 g => ?_
 refine C.skip (C.xs ?_)
 refine C.jn (fun (x13 : Unit) => [(0, .sl 1 eLeI l), (1, .i n), (5, .i s7)]) (fun x13 => []) 0 g (fun x13 g => ?_) fun J14 g j14 => ?_
 refine C.nx (U.start (U.pd 3 T (C.nx ?_)))
 exact St.wk (C.next g) (Wk.e)
 refine C.block (C.seq (C.ss (U.pd 1 T (C.nx ?_))))
 refine C.jn (fun (x17 : Unit) => [(0, .sl 1 eLeI l), (1, .i n), (5, .i s7)]) (fun x17 => []) 0 g (fun x17 g => ?_) fun J18 g j18 => ?_
 refine C.xt (U.ps 2 T rfl ?_)
 obtain ⟨x38, y38, g⟩ := g
 refine U.ix T y38 ?_
 refine U.pd 3 T (C.nx ?_)
 refine C.ite rfl g (fun b39 g => ?_) fun b39 g => ?_
 refine C.ss (U.pd 1 T (C.nx (C.ret (C.brt (C.rt (C.rt (C.brt (C.rt ?_))))))))
 exact C.f1 T o (pBi g)
 refine C.skip (C.bnx ?_)
 exact St.wn (j14 _ g)
 refine C.block (St.wk (C.loop (fun (s19 : Int) => [(0, .sl 1 eLeI l), (1, .i n), (5, .i s7), (6, .i s19)]) (fun s19 => []) g (fun s19 Y20 g => ?_)) (Wk.e))
 refine C.seq (C.seq ?_)
 refine C.jn (fun (x21 : Bool) => [(0, .sl 1 eLeI l), (1, .i n), (5, .i s7), (6, .i s19), (28, .b x21)]) (fun x21 => []) 0 g (fun x21 g => ?_) fun J22 g j22 => ?_
 refine C.nx ?_
 refine C.ite rfl g (fun b25 g => ?_) fun b25 g => ?_
 refine C.skip (C.xs (C.block (C.seq ?_)))
 refine C.jn (fun (x26 : Bool) => [(0, .sl 1 eLeI l), (1, .i n), (5, .i s7), (6, .i s19), (48, .b x26)]) (fun x26 => []) 0 g (fun x26 g => ?_) fun J27 g j27 => ?_
 refine C.nx ?_
 refine C.ite rfl g (fun b31 g => ?_) fun b31 g => ?_
 refine C.ss (U.pd 1 T (C.nx (C.ret (C.brt (C.rt (C.rt (C.brt (C.rt (C.brt (C.rt (C.rt (C.brt (C.rt ?_)))))))))))))
 exact C.f1 T o (pBi g)
 refine C.skip (C.bnx (C.nx (U.start (U.pd 3 T (C.nx ?_)))))
 exact St.wk (C.next g) (Wk.e)
 refine U.start (U.ps 2 T rfl ?_)
 obtain ⟨x28, y28, g⟩ := g
 refine U.ix T y28 ?_
 refine U.ps 2 T rfl ?_
 obtain ⟨x29, y29, g⟩ := g
 refine U.ix T y29 ?_
 refine U.ps 3 T rfl ?_
 refine g.cs (fun b30 g => ?_) fun b30 g => ?_
 refine U.sk' 8 8 false 39 b30 ?_
 refine U.pk b30 ?_
 refine U.done ?_
 exact St.wn (j27 _ g)
 refine U.pq 2 8 false 39 b30 T ?_
 refine U.r rfl (.tk 8 false 39 b30) rfl rfl (by exact Rd.ix T rfl rfl rfl rfl rfl rfl y28) ?_
 refine U.pq 2 8 false 39 b30 T ?_
 refine U.r rfl (.tk 8 false 39 b30) rfl rfl (by exact Rd.ix T rfl rfl rfl rfl rfl rfl y29) ?_
 refine U.pq 2 8 false 39 b30 T ?_
 refine U.pk' b30 ?_
 refine U.done ?_
 exact St.wn (j27 _ g)
 refine C.exit (C.ex (C.ex (C.bex ?_)))
 exact St.wn (j18 _ g)
 refine U.start (U.ps 3 T rfl ?_)
 obtain ⟨x23, y23, g⟩ := g
 refine U.ix T y23 ?_
 refine U.ps 4 T rfl ?_
 refine g.cs (fun b24 g => ?_) fun b24 g => ?_
 refine U.pq 2 7 true 25 b24 T ?_
 refine U.pk b24 ?_
 refine U.done ?_
 exact St.wn (j22 _ g)
 refine U.sk' 2 7 true 25 b24 ?_
 refine U.pk' b24 ?_
 refine U.done ?_
 exact St.wn (j22 _ g)
 refine C.exit (C.ex (C.ex (C.bex ?_)))
 exact St.wn (j6 _ g)
 refine U.start (U.ps 5 T rfl ?_)
 refine g.cs (fun b11 g => ?_) fun b11 g => ?_
 refine U.pq 3 4 true 11 b11 T ?_
 refine U.pk b11 ?_
 refine U.done ?_
 exact St.wn (j10 _ g)
 refine U.sk' 3 4 true 11 b11 ?_
 refine U.pk' b11 ?_
 refine U.done ?_
 exact St.wn (j10 _ g)
theorem T_taquinref07_Has (l : List Int) (n : Int) (post : Bool → Prop) (g : V_taquinref07_Has l n post) :
    Tr Try.prog 19 [.sl 1 eI l, .i n] [] 0 (pB post) := by
 refine Tr.go Try.func19 Try.ntmps19 fun _ _ _ _ o => ?_
 unfold V_taquinref07_Has at g
 refine C.ss (U.pd 1 T (C.xs (C.ss ?_)))
 refine U.pd 1 T (C.nx ?_)
 refine C.jn (fun (x5 : Unit) => []) (fun x5 => []) 0 g (fun x5 g => ?_) fun J6 g j6 => ?_
 refine C.xt (U.pd 1 T (C.nx (C.ret ?_)))
 exact C.f1 T o (pBi g)
 refine C.block (St.wk (C.loop (fun (s7 : Int) => [(0, .sl 1 eI l), (1, .i n), (5, .i s7)]) (fun s7 => []) g (fun s7 Y8 g => ?_)) (Wk.e))
 refine C.seq (C.ss (U.pd 4 T (C.nx ?_)))
 refine C.ite rfl g (fun b11 g => ?_) fun b11 g => ?_
 refine C.skip (C.xs (C.block (C.ss (U.ps 2 T rfl ?_))))
 obtain ⟨x14, y14, g⟩ := g
 refine U.ix T y14 ?_
 refine U.pd 3 T (C.nx ?_)
 refine C.ite rfl g (fun b15 g => ?_) fun b15 g => ?_
 refine C.ss (U.pd 1 T (C.nx (C.ret (C.brt (C.rt (C.rt (C.brt (C.rt ?_))))))))
 exact C.f1 T o (pBi g)
 refine C.skip (C.bnx (C.nx (U.start (U.pd 3 T (C.nx ?_)))))
 exact St.wk (C.next g) (Wk.e)
 refine C.exit (C.ex (C.ex (C.bex ?_)))
 exact St.wk (j6 _ g) (Wk.mk' [] rfl rfl trivial trivial rfl)
theorem T_taquinlaw34_matches (l : List (List Int)) (m : List Int) (post : (Int × Bool) → Prop) (g : V_taquinlaw34_matches l m post) :
    Tr Try.prog 9 [.sl 1 eLeI l, .sl 1 eI m] [] 0 (fun A H' k => ∃ y, post y ∧ A = (.tup [.i y.1, .b y.2]) ∧ H' = [] ∧ k = 0) := by
 refine Tr.go Try.func9 Try.ntmps9 fun _ _ _ _ o => ?_
 unfold V_taquinlaw34_matches at g
 refine C.ss (U.pd 2 T (C.xs (C.ss ?_)))
 refine U.pd 5 T (C.nx ?_)
 refine C.ite rfl g (fun b5 g => ?_) fun b5 g => ?_
 refine C.ss (U.pd 2 T (C.nx (C.ret (C.rt ?_))))
 exact C.f9 T o ⟨(0, false), g, rfl, rfl, rfl⟩
 refine C.skip (C.xt (U.pd 1 T (C.xs (C.ss ?_))))
 refine U.pd 1 T (C.nx ?_)
 refine C.jn (fun (x12 : Int) => [(6, .i x12)]) (fun x12 => []) 0 g (fun x12 g => ?_) fun J13 g j13 => ?_
 refine C.xt (U.pd 3 T (C.nx (C.ret ?_)))
 exact C.f9 T o ⟨(x12, true), g, rfl, rfl, rfl⟩
 refine C.block (St.wk (C.loop (fun (s14 : Int × Int) => [(0, .sl 1 eLeI l), (1, .sl 1 eI m), (6, .i s14.1), (7, .i s14.2)]) (fun s14 => []) g (fun s14 Y15 g => ?_)) (Wk.e))
 refine C.seq (C.ss (U.pd 4 T (C.nx ?_)))
 refine C.ite rfl g (fun b18 g => ?_) fun b18 g => ?_
 refine C.skip (C.xs ?_)
 refine C.jn (fun (x19 : Int) => [(0, .sl 1 eLeI l), (1, .sl 1 eI m), (6, .i x19), (7, .i s14.2)]) (fun x19 => []) 0 g (fun x19 g => ?_) fun J20 g j20 => ?_
 refine C.nx (U.start (U.pd 3 T (C.nx ?_)))
 exact St.wk (C.next g) (Wk.e)
 refine C.block (C.seq (C.ss (U.ps 2 T rfl ?_)))
 obtain ⟨x23, y23, g⟩ := g
 refine U.ix T y23 ?_
 refine U.pd 2 T (C.nx ?_)
 refine C.ite rfl g (fun b24 g => ?_) fun b24 g => ?_
 refine C.seq (C.ss (U.ps 2 T rfl (U.ix T y23 ?_)))
 refine U.pd 2 T (C.nx ?_)
 refine C.ite rfl g (fun b27 g => ?_) fun b27 g => ?_
 refine C.ss (U.pd 2 T (C.nx (C.ret (C.rt (C.rt (C.brt (C.rt (C.rt (C.brt (C.rt ?_))))))))))
 exact C.f9 T o ⟨(0, false), g, rfl, rfl, rfl⟩
 refine C.skip (C.nx (C.exit (C.ex (C.bex ?_))))
 exact St.wn (j20 _ g)
 refine C.skip (C.xt (U.pd 3 T (C.xs ?_)))
 refine C.jn (fun (x32 : Bool) => [(0, .sl 1 eLeI l), (1, .sl 1 eI m), (6, .i (w64 (s14.1 + 1))), (7, .i s14.2), (50, .b x32)]) (fun x32 => []) 0 g (fun x32 g => ?_) fun J33 g j33 => ?_
 refine C.nx ?_
 refine C.ite rfl g (fun b39 g => ?_) fun b39 g => ?_
 refine C.ss (U.pd 2 T (C.nx (C.ret (C.brt (C.rt (C.rt (C.brt (C.rt ?_))))))))
 exact C.f9 T o ⟨(0, false), g, rfl, rfl, rfl⟩
 refine C.skip (C.bnx ?_)
 exact St.wn (j20 _ g)
 refine D.bq mix 9999 [] [] (fun hQ hS ws M' => ?_)
 refine D.pq 2 (zl [0, 1]) T ?_
 obtain ⟨x34, y34, g⟩ := g
 refine D.ix 2 [] T y34 ?_
 refine D.pq 3 (zl [3, 4, 5]) T ?_
 refine D.ix 6 [] T y23 ?_
 refine D.pq 1 [(7, [])] T ?_
 refine D.k 8 (T_taquinref07_Has x34 x23 _ g) en19 fun x35 g => ?_
 refine D.pq 2 (zl [9, 10]) T ?_
 refine g.cs (fun b36 g => ?_) fun b36 g => ?_
 refine D.pt 11 [] 10 false 41 (ntF b36) T ?_
 refine D.pt 12 [] 10 false 41 (ntF b36) T ?_
 obtain ⟨y37, g⟩ := g
 refine D.q 13 [] hQ hS rfl (.tk 10 false 41 (ntF b36)) rfl rfl (by exact Rd.so T rfl rfl rfl rfl rfl (.none _) (.some _ rfl) y37) rfl (by kernel_rfl) ?_
 refine D.pt 14 [] 10 false 41 (ntF b36) T ?_
 refine D.pt 15 [] 10 false 41 (ntF b36) T ?_
 refine D.q 16 [] hQ hS rfl (.tk 10 false 41 (ntF b36)) rfl rfl (by exact Rd.ix T rfl rfl rfl rfl rfl rfl y23) rfl (by kernel_rfl) ?_
 refine D.q 17 [] hQ hS rfl (.tk 10 false 41 (ntF b36)) rfl rfl (by exact Rd.l T rfl rfl rfl) rfl (by kernel_rfl) ?_
 refine D.k 18 (T_taquinref07_Has (sub m 0 s14.2) x23 _ g) en19 (fun x38 g => ?_) (hw := .take 10 false 41 _ (ntF b36) rfl rfl rfl)
 refine D.kf 19 [] (ntF b36) ?_
 refine D.done (by kernel_rfl) ?_
 exact St.wn (j33 _ g)
 refine D.sz 11 [] 10 false 41 (ntT b36) ?_
 refine D.sz 12 [] 10 false 41 (ntT b36) ?_
 refine D.sz 13 [] 10 false 41 (ntT b36) ?_
 refine D.sz 14 [] 10 false 41 (ntT b36) ?_
 refine D.sz 15 [] 10 false 41 (ntT b36) ?_
 refine D.sz 16 [] 10 false 41 (ntT b36) ?_
 refine D.sz 17 [] 10 false 41 (ntT b36) ?_
 refine D.sz 18 [] 10 false 41 (ntT b36) ?_
 refine D.kt 19 [] (ntT b36) ?_
 refine D.done (by kernel_rfl) ?_
 exact St.wn (j33 _ g)
 refine C.exit (C.ex (C.ex (C.bex ?_)))
 exact St.wn (j13 _ g)
theorem T_taquinlaw34_DockMost (l : List (List Int)) (other : List Int) (post : Bool → Prop) (g : V_taquinlaw34_DockMost l other post) :
    Tr Try.prog 3 [.sl 1 eLeI l, .sl 1 eI other] [] 0 (pB post) := by
 refine Tr.go Try.func3 Try.ntmps3 fun _ _ _ _ o => ?_
 unfold V_taquinlaw34_DockMost at g
 refine C.ss (U.pd 1 T (C.xt ?_))
 refine U.k (T_taquinlaw34_small _ g) en6 fun x5 g => ?_
 refine U.pd 1 T (C.xs (C.seq ?_))
 refine C.jn (fun (x6 : Bool) => [(0, .sl 1 eLeI l), (1, .sl 1 eI other), (5, .b x5), (31, .b x6)]) (fun x6 => []) 0 g (fun x6 g => ?_) fun J7 g j7 => ?_
 refine C.nx ?_
 refine C.ite rfl g (fun b10 g => ?_) fun b10 g => ?_
 refine C.ss (U.pd 2 T (C.nx (C.ret (C.rt ?_))))
 exact C.f1 T o (pBi g)
 refine C.skip (C.xt (U.ps 1 T rfl (U.k (T_dock_Match l _ g) en8 (fun x15 g => ?_))))
 refine U.pd 1 T (C.xt ?_)
 refine U.ps 2 T rfl (U.k (T_taquinlaw34_matches l x15 _ g) en9 (fun x18 g => ?_))
 refine U.pd 5 T (C.xs (C.ss ?_))
 refine U.pd 2 T (C.nx ?_)
 refine C.ite rfl g (fun b21 g => ?_) fun b21 g => ?_
 refine C.ss (U.pd 1 T (C.nx (C.ret (C.rt ?_))))
 exact C.f1 T o (pBi g)
 refine C.skip (C.xt (U.ps 2 T rfl ?_))
 obtain ⟨y26, g⟩ := g
 refine U.e1 rfl (.none rfl) (by exact Eff1.mk T (enc := eB) (z0 := false) rfl rfl rfl rfl rfl rfl rfl rfl rfl rfl y26) ?_
 refine U.pd 1 T (C.xt ?_)
 obtain ⟨y29, g⟩ := g
 refine U.e1 rfl (.none rfl) (by exact Eff1.mk T (enc := eB) (z0 := false) rfl rfl rfl rfl rfl rfl rfl rfl rfl rfl y29) ?_
 refine U.pd 1 T (C.xs (C.ss ?_))
 refine U.pd 1 T (C.nx ?_)
 refine C.jn (fun (x32 : List Bool) => [(0, .sl 1 eLeI l), (1, .sl 1 eI other), (5, .b x5), (6, .o 0), (7, .i x18.1), (9, .o 1), (10, .o 2)]) (fun x32 => [(0, .val (.os 1 eI x15)), (1, .val (.os 1 eB x32)), (2, .val (.os 1 eB (List.replicate (Int.toNat 64) false)))]) 3 g (fun x32 g => ?_) fun J33 g j33 => ?_
 refine C.xs (C.ss (U.pd 1 T (C.nx ?_)))
 refine C.jn (fun (x47 : List Bool × List Bool) => [(0, .sl 1 eLeI l), (1, .sl 1 eI other), (5, .b x5), (6, .o 0), (7, .i x18.1), (9, .o 1), (10, .o 2)]) (fun x47 => [(0, .val (.os 1 eI x15)), (1, .val (.os 1 eB x47.1)), (2, .val (.os 1 eB x47.2))]) 3 g (fun x47 g => ?_) fun J48 g j48 => ?_
 refine C.xt (U.pd 1 T (C.xs (C.ss ?_)))
 refine U.pd 1 T (C.nx ?_)
 refine C.jn (fun (x116 : Int) => [(0, .sl 1 eLeI l), (1, .sl 1 eI other), (5, .b x5), (6, .o 0), (7, .i x18.1), (10, .o 1), (16, .i x116)]) (fun x116 => [(0, .val (.os 1 eI x15)), (1, .val (.os 1 eB x47.2))]) 2 g (fun x116 g => ?_) fun J117 g j117 => ?_
 refine C.xs (C.ss (U.pd 1 T (C.nx ?_)))
 refine C.jn (fun (x158 : Int) => [(0, .sl 1 eLeI l), (1, .sl 1 eI other), (5, .b x5), (6, .o 0), (7, .i x18.1), (16, .i x158)]) (fun x158 => [(0, .val (.os 1 eI x15))]) 1 g (fun x158 g => ?_) fun J159 g j159 => ?_
 refine C.xt (U.ps 2 T rfl (U.k (T_taquinlaw34_matches l other _ g) en9 (fun x177 g => ?_)))
 refine U.pd 5 T (C.xs (C.seq ?_))
 refine C.jn (fun (x178 : Bool) => [(1, .sl 1 eI other), (5, .b x5), (6, .o 0), (7, .i x18.1), (20, .i x177.1), (21, .b x177.2), (189, .b x178)]) (fun x178 => [(0, .val (.os 1 eI x15))]) 1 g (fun x178 g => ?_) fun J179 g j179 => ?_
 refine C.nx ?_
 refine C.ite rfl g (fun b182 g => ?_) fun b182 g => ?_
 refine C.ss (U.pd 1 T (C.nx (C.ret (C.rt ?_))))
 exact C.f1 T o (pBi g)
 refine C.skip (C.xs (C.seq ?_))
 refine C.jn (fun (x185 : Bool) => [(1, .sl 1 eI other), (5, .b x5), (6, .o 0), (196, .b x185)]) (fun x185 => [(0, .val (.os 1 eI x15))]) 1 g (fun x185 g => ?_) fun J186 g j186 => ?_
 refine C.nx ?_
 refine C.ite rfl g (fun b188 g => ?_) fun b188 g => ?_
 refine C.ss (U.pd 2 T (C.nx (C.ret (C.rt ?_))))
 exact C.f1 T o (pBi g)
 refine C.skip (C.xs (C.ss (U.pd 1 T (C.nx ?_))))
 refine C.jn (fun (x193 : Unit) => [(5, .b x5)]) (fun x193 => []) 0 g (fun x193 g => ?_) fun J194 g j194 => ?_
 refine C.xt (U.pd 2 T (C.nx (C.ret ?_)))
 exact C.f1 T o (pBi g)
 refine C.block (St.wk (C.loop (fun (s195 : Int) => [(1, .sl 1 eI other), (5, .b x5), (6, .o 0), (22, .i s195)]) (fun s195 => [(0, .val (.os 1 eI x15))]) g (fun s195 Y196 g => ?_)) (Wk.a [some 0]))
 refine C.seq (C.ss (U.pd 4 T (C.nx ?_)))
 refine C.ite rfl g (fun b199 g => ?_) fun b199 g => ?_
 refine C.skip (C.xs (C.block (C.seq (D.bq mix 9999 [0] [] (fun hQ hS ws M' => ?_)))))
 refine D.pq 2 (zl [0, 1]) T ?_
 obtain ⟨x202, y202, g⟩ := g
 refine D.q 2 [] hQ hS rfl (.none rfl) rfl rfl (by exact Rd.io T rfl rfl rfl rfl rfl rfl rfl y202) rfl (by kernel_rfl) ?_
 refine D.q 3 [] hQ hS rfl (.none rfl) rfl rfl (by exact Rd.le T rfl rfl rfl (idx_some y202).2.2 rfl rfl rfl) rfl (by kernel_rfl) ?_
 refine D.pq 2 (zl [4, 5]) T ?_
 obtain ⟨x203, y203, g⟩ := g
 refine D.ix 6 [] T y203 ?_
 refine D.pq 2 (zl [7, 8]) T ?_
 refine D.done (by kernel_rfl) ?_
 refine C.nx ?_
 refine C.ite rfl g (fun b204 g => ?_) fun b204 g => ?_
 refine C.seq ?_
 refine C.jn (fun (x205 : Bool) => [(4, .b x205)]) (fun x205 => []) 0 g (fun x205 g => ?_) fun J206 g j206 => ?_
 refine C.nx (C.ret (C.brt (C.rt (C.rt (C.brt (C.rt ?_))))))
 exact C.f1 T o (pBi g)
 refine D.bq mix 9999 [0] [] (fun hQ hS ws M' => ?_)
 refine D.pq 2 (zl [0, 1]) T ?_
 refine g.cs (fun b207 g => ?_) fun b207 g => ?_
 refine D.pt 2 [] 1 true 214 b207 T ?_
 refine D.pt 3 [] 1 true 214 b207 T ?_
 refine D.q 4 [] hQ hS rfl (.tk 1 true 214 b207) rfl rfl (by exact Rd.io T rfl rfl rfl rfl rfl rfl rfl y202) rfl (by kernel_rfl) ?_
 refine D.q 5 [] hQ hS rfl (.tk 1 true 214 b207) rfl rfl (by exact Rd.le T rfl rfl rfl (idx_some y202).2.2 rfl rfl rfl) rfl (by kernel_rfl) ?_
 refine D.pt 6 [] 1 true 214 b207 T ?_
 refine D.kt 7 [] b207 ?_
 refine D.pq 1 [(8, [])] T ?_
 refine g.cs (fun b208 g => ?_) fun b208 g => ?_
 refine D.pt 9 [] 8 true 221 b208 T ?_
 refine D.pt 10 [] 8 true 221 b208 T ?_
 refine D.q 11 [] hQ hS rfl (.tk 8 true 221 b208) rfl rfl (by exact Rd.ix T rfl rfl rfl rfl rfl rfl y203) rfl (by kernel_rfl) ?_
 refine D.q 12 [] hQ hS rfl (.tk 8 true 221 b208) rfl rfl (by exact Rd.l T rfl rfl rfl) rfl (by kernel_rfl) ?_
 refine D.pt 13 [] 8 true 221 b208 T ?_
 refine D.pt 14 [] 8 true 221 b208 T ?_
 refine g.cs (fun b209 g => ?_) fun b209 g => ?_
 refine D.sz 15 [] 14 false 227 b209 ?_
 refine D.sz 16 [] 14 false 227 b209 ?_
 refine D.sz 17 [] 14 false 227 b209 ?_
 refine D.sz 18 [] 14 false 227 b209 ?_
 refine D.sz 19 [] 14 false 227 b209 ?_
 refine D.sz 20 [] 14 false 227 b209 ?_
 refine D.sz 21 [] 14 false 227 b209 ?_
 refine D.sz 22 [] 14 false 227 b209 ?_
 refine D.sz 23 [] 14 false 227 b209 ?_
 refine D.q 24 [] hQ hS rfl (.tk 8 true 221 b208) rfl rfl (by exact Rd.pk rfl rfl b209 rfl) rfl (by kernel_rfl) ?_
 refine D.kt 25 [] b208 ?_
 refine D.pq 1 [(26, [])] T ?_
 refine D.done (by kernel_rfl) ?_
 exact St.wn (j206 _ g)
 refine D.pt 15 [] 14 false 227 b209 T ?_
 refine D.pt 16 [] 14 false 227 b209 T ?_
 refine D.q 17 [] hQ hS rfl (.tk 14 false 227 b209) rfl rfl (by exact Rd.io T rfl rfl rfl rfl rfl rfl rfl y202) rfl (by kernel_rfl) ?_
 refine D.q 18 [] hQ hS rfl (.tk 14 false 227 b209) rfl rfl (by exact Rd.le T rfl rfl rfl (idx_some y202).2.2 rfl rfl rfl) rfl (by kernel_rfl) ?_
 refine D.pt 19 [] 14 false 227 b209 T ?_
 refine D.pt 20 [] 14 false 227 b209 T ?_
 refine D.q 21 [] hQ hS rfl (.tk 14 false 227 b209) rfl rfl (by exact Rd.ix T rfl rfl rfl rfl rfl rfl y203) rfl (by kernel_rfl) ?_
 refine D.q 22 [] hQ hS rfl (.tk 14 false 227 b209) rfl rfl (by exact Rd.l T rfl rfl rfl) rfl (by kernel_rfl) ?_
 refine D.pt 23 [] 14 false 227 b209 T ?_
 refine D.q 24 [] hQ hS rfl (.tk 8 true 221 b208) rfl rfl (by exact Rd.pk' rfl rfl b209 rfl) rfl (by kernel_rfl) ?_
 refine D.kt 25 [] b208 ?_
 refine D.pq 1 [(26, [])] T ?_
 refine D.done (by kernel_rfl) ?_
 exact St.wn (j206 _ g)
 refine D.sz 9 [] 8 true 221 b208 ?_
 refine D.sz 10 [] 8 true 221 b208 ?_
 refine D.sz 11 [] 8 true 221 b208 ?_
 refine D.sz 12 [] 8 true 221 b208 ?_
 refine D.sz 13 [] 8 true 221 b208 ?_
 refine D.sz 14 [] 8 true 221 b208 ?_
 refine D.sx 15 [] hQ hS (.und 14 false 227 rfl rfl rfl) ?_
 refine D.sx 16 [] hQ hS (.und 14 false 227 rfl rfl rfl) ?_
 refine D.sx 17 [] hQ hS (.und 14 false 227 rfl rfl rfl) ?_
 refine D.sx 18 [] hQ hS (.und 14 false 227 rfl rfl rfl) ?_
 refine D.sx 19 [] hQ hS (.und 14 false 227 rfl rfl rfl) ?_
 refine D.sx 20 [] hQ hS (.und 14 false 227 rfl rfl rfl) ?_
 refine D.sx 21 [] hQ hS (.und 14 false 227 rfl rfl rfl) ?_
 refine D.sx 22 [] hQ hS (.und 14 false 227 rfl rfl rfl) ?_
 refine D.sx 23 [] hQ hS (.und 14 false 227 rfl rfl rfl) ?_
 refine D.sz 24 [] 8 true 221 b208 ?_
 refine D.kf 25 [] b208 ?_
 refine D.pq 1 [(26, [])] T ?_
 refine D.done (by kernel_rfl) ?_
 exact St.wn (j206 _ g)
 refine D.sz 2 [] 1 true 214 b207 ?_
 refine D.sz 3 [] 1 true 214 b207 ?_
 refine D.sz 4 [] 1 true 214 b207 ?_
 refine D.sz 5 [] 1 true 214 b207 ?_
 refine D.sz 6 [] 1 true 214 b207 ?_
 refine D.kf 7 [] b207 ?_
 refine D.pq 1 [(8, [])] T ?_
 refine D.sz 9 [] 8 true 221 rfl ?_
 refine D.sz 10 [] 8 true 221 rfl ?_
 refine D.sz 11 [] 8 true 221 rfl ?_
 refine D.sz 12 [] 8 true 221 rfl ?_
 refine D.sz 13 [] 8 true 221 rfl ?_
 refine D.sz 14 [] 8 true 221 rfl ?_
 refine D.sx 15 [] hQ hS (.und 14 false 227 rfl rfl rfl) ?_
 refine D.sx 16 [] hQ hS (.und 14 false 227 rfl rfl rfl) ?_
 refine D.sx 17 [] hQ hS (.und 14 false 227 rfl rfl rfl) ?_
 refine D.sx 18 [] hQ hS (.und 14 false 227 rfl rfl rfl) ?_
 refine D.sx 19 [] hQ hS (.und 14 false 227 rfl rfl rfl) ?_
 refine D.sx 20 [] hQ hS (.und 14 false 227 rfl rfl rfl) ?_
 refine D.sx 21 [] hQ hS (.und 14 false 227 rfl rfl rfl) ?_
 refine D.sx 22 [] hQ hS (.und 14 false 227 rfl rfl rfl) ?_
 refine D.sx 23 [] hQ hS (.und 14 false 227 rfl rfl rfl) ?_
 refine D.sz 24 [] 8 true 221 rfl ?_
 refine D.kf 25 [] rfl ?_
 refine D.pq 1 [(26, [])] T ?_
 refine D.done (by kernel_rfl) ?_
 exact St.wn (j206 _ g)
 refine C.skip (C.bnx (C.nx (U.start (U.pd 3 T (C.nx ?_)))))
 exact St.wk (C.next g) (Wk.a [some 0])
 refine C.exit (C.ex (C.ex (C.bex ?_)))
 exact St.wn (j194 _ g)
 refine U.start (U.ps 3 T rfl ?_)
 refine g.cs (fun b187 g => ?_) fun b187 g => ?_
 refine U.pq 3 2 false 192 (ntF b187) T ?_
 refine U.pk' (ntF b187) ?_
 refine U.done ?_
 exact St.wa [some 0] (j186 _ g)
 refine U.sk' 3 2 false 192 (ntT b187) ?_
 refine U.pk (ntT b187) ?_
 refine U.done ?_
 exact St.wa [some 0] (j186 _ g)
 refine U.start (U.ps 4 T rfl ?_)
 refine g.cs (fun b180 g => ?_) fun b180 g => ?_
 refine U.sk' 2 3 false 182 b180 ?_
 refine U.sku 3 5 true 184 rfl rfl rfl ?_
 refine U.sk' 1 3 false 182 b180 ?_
 refine U.pk b180 ?_
 refine U.done ?_
 exact St.wa [some 0] (j179 _ g)
 refine U.pq 2 3 false 182 b180 T ?_
 refine g.cs (fun b181 g => ?_) fun b181 g => ?_
 refine U.pq 3 5 true 184 b181 T ?_
 refine U.r rfl (.tk 3 false 182 b180) rfl rfl (by exact Rd.pk rfl rfl b181 rfl) ?_
 refine U.pk' b180 ?_
 refine U.done ?_
 exact St.wa [some 0] (j179 _ g)
 refine U.sk' 3 5 true 184 b181 ?_
 refine U.r rfl (.tk 3 false 182 b180) rfl rfl (by exact Rd.pk' rfl rfl b181 rfl) ?_
 refine U.pk' b180 ?_
 refine U.done ?_
 exact St.wa [some 0] (j179 _ g)
 refine C.block (St.wk (C.loop (fun (s160 : Int × Int) => [(0, .sl 1 eLeI l), (1, .sl 1 eI other), (5, .b x5), (6, .o 0), (7, .i x18.1), (10, .o 1), (16, .i s160.1), (19, .i s160.2)]) (fun s160 => [(0, .val (.os 1 eI x15)), (1, .val (.os 1 eB x47.2))]) g (fun s160 Y161 g => ?_)) (Wk.a (idR 2)))
 refine C.seq (C.ss (U.pd 2 T (C.nx ?_)))
 refine C.ite rfl g (fun b164 g => ?_) fun b164 g => ?_
 refine C.skip (C.xs (C.block (C.ss (U.ps 2 T rfl ?_))))
 obtain ⟨x167, y167, g⟩ := g
 refine U.r rfl (.none rfl) rfl rfl (by exact Rd.io T rfl rfl rfl rfl rfl rfl rfl y167) ?_
 refine U.r rfl (.none rfl) rfl rfl (by exact Rd.le T rfl rfl rfl (idx_some y167).2.2 rfl rfl rfl) ?_
 refine U.done (C.nx ?_)
 refine C.jn (fun (x168 : Int) => [(0, .sl 1 eLeI l), (1, .sl 1 eI other), (5, .b x5), (6, .o 0), (7, .i x18.1), (10, .o 1), (16, .i x168), (19, .i s160.2)]) (fun x168 => [(0, .val (.os 1 eI x15)), (1, .val (.os 1 eB x47.2))]) 2 g (fun x168 g => ?_) fun J169 g j169 => ?_
 refine C.bnx (C.nx (U.start (U.pd 3 T (C.nx ?_))))
 exact St.wk (C.next g) (Wk.a (idR 2))
 refine C.ite rfl g (fun b170 g => ?_) fun b170 g => ?_
 refine U.start (U.pd 3 T ?_)
 exact St.wa (idR 2) (j169 _ g)
 refine C.skip ?_
 exact St.wa (idR 2) (j169 _ g)
 refine C.exit (C.ex (C.ex (C.bex ?_)))
 exact St.wa [some 0] (j159 _ g)
 refine C.block (St.wk (C.loop (fun (s118 : Int × Int) => [(0, .sl 1 eLeI l), (1, .sl 1 eI other), (5, .b x5), (6, .o 0), (7, .i x18.1), (9, .o 1), (10, .o 2), (16, .i s118.1), (17, .i s118.2)]) (fun s118 => [(0, .val (.os 1 eI x15)), (1, .val (.os 1 eB x47.1)), (2, .val (.os 1 eB x47.2))]) g (fun s118 Y119 g => ?_)) (Wk.a (idR 3)))
 refine C.seq (C.ss (U.pd 4 T (C.nx ?_)))
 refine C.ite rfl g (fun b122 g => ?_) fun b122 g => ?_
 refine C.skip (C.xs ?_)
 refine C.jn (fun (x123 : Int) => [(0, .sl 1 eLeI l), (1, .sl 1 eI other), (5, .b x5), (6, .o 0), (7, .i x18.1), (9, .o 1), (10, .o 2), (16, .i x123), (17, .i s118.2)]) (fun x123 => [(0, .val (.os 1 eI x15)), (1, .val (.os 1 eB x47.1)), (2, .val (.os 1 eB x47.2))]) 3 g (fun x123 g => ?_) fun J124 g j124 => ?_
 refine C.nx (U.start (U.pd 3 T (C.nx ?_)))
 exact St.wk (C.next g) (Wk.a (idR 3))
 refine C.block (C.seq (C.ss (U.ps 2 T rfl ?_)))
 obtain ⟨x127, y127, g⟩ := g
 refine U.r rfl (.none rfl) rfl rfl (by exact Rd.io T rfl rfl rfl rfl rfl rfl rfl y127) ?_
 refine U.r rfl (.none rfl) rfl rfl (by exact Rd.le T rfl rfl rfl (idx_some y127).2.2 rfl rfl rfl) ?_
 refine U.pd 1 T (C.nx ?_)
 refine C.jn (fun (x128 : Int) => [(0, .sl 1 eLeI l), (1, .sl 1 eI other), (5, .b x5), (6, .o 0), (7, .i x18.1), (9, .o 1), (10, .o 2), (16, .i x128), (17, .i s118.2)]) (fun x128 => [(0, .val (.os 1 eI x15)), (1, .val (.os 1 eB x47.1)), (2, .val (.os 1 eB x47.2))]) 3 g (fun x128 g => ?_) fun J129 g j129 => ?_
 refine C.xt (U.pd 1 T (C.nx ?_))
 refine C.jn (fun (x135 : Unit) => [(0, .sl 1 eLeI l), (1, .sl 1 eI other), (5, .b x5), (6, .o 0), (7, .i x18.1), (9, .o 1), (10, .o 2), (16, .i x128), (17, .i s118.2)]) (fun x135 => [(0, .val (.os 1 eI x15)), (1, .val (.os 1 eB x47.1)), (2, .val (.os 1 eB x47.2))]) 3 g (fun x135 g => ?_) fun J136 g j136 => ?_
 refine C.bnx ?_
 exact St.wa (idR 3) (j124 _ g)
 refine C.block (St.wk (C.loop (fun (s137 : Int) => [(0, .sl 1 eLeI l), (1, .sl 1 eI other), (5, .b x5), (6, .o 0), (7, .i x18.1), (9, .o 1), (10, .o 2), (16, .i x128), (17, .i s118.2), (18, .i s137)]) (fun s137 => [(0, .val (.os 1 eI x15)), (1, .val (.os 1 eB x47.1)), (2, .val (.os 1 eB x47.2))]) g (fun s137 Y138 g => ?_)) (Wk.a (idR 3)))
 refine C.seq (C.ss (U.ps 3 T rfl ?_))
 obtain ⟨x141, y141, g⟩ := g
 refine U.ix T y141 ?_
 refine U.pd 3 T (C.nx ?_)
 refine C.ite rfl g (fun b142 g => ?_) fun b142 g => ?_
 refine C.skip (C.xs (C.block (C.seq ?_)))
 refine C.jn (fun (x143 : Bool) => [(0, .sl 1 eLeI l), (1, .sl 1 eI other), (5, .b x5), (6, .o 0), (7, .i x18.1), (9, .o 1), (10, .o 2), (16, .i x128), (17, .i s118.2), (18, .i s137), (162, .b x143)]) (fun x143 => [(0, .val (.os 1 eI x15)), (1, .val (.os 1 eB x47.1)), (2, .val (.os 1 eB x47.2))]) 3 g (fun x143 g => ?_) fun J144 g j144 => ?_
 refine C.nx ?_
 refine C.ite rfl g (fun b149 g => ?_) fun b149 g => ?_
 refine C.ss (U.pd 1 T (C.nx (C.ret (C.brt (C.rt (C.rt (C.brt (C.brt (C.rt (C.rt (C.brt (C.rt ?_))))))))))))
 exact C.f1 T o (pBi g)
 refine C.skip (C.bnx (C.nx (U.start (U.pd 3 T (C.nx ?_)))))
 exact St.wk (C.next g) (Wk.a (idR 3))
 refine U.start (U.ps 2 T rfl ?_)
 obtain ⟨x145, y145, g⟩ := g
 refine U.r rfl (.none rfl) rfl rfl (by exact Rd.io T rfl rfl rfl rfl rfl rfl rfl y145) ?_
 refine U.r rfl (.none rfl) rfl rfl (by exact Rd.le T rfl rfl rfl (idx_some y145).2.2 rfl rfl rfl) ?_
 refine U.ps 1 T rfl ?_
 refine g.cs (fun b146 g => ?_) fun b146 g => ?_
 refine U.pq 3 4 true 150 b146 T ?_
 refine U.r rfl (.tk 4 true 150 b146) rfl rfl (by exact Rd.ix T rfl rfl rfl rfl rfl rfl y141) ?_
 refine U.pq 2 4 true 150 b146 T ?_
 obtain ⟨x147, y147, g⟩ := g
 refine U.r rfl (.tk 4 true 150 b146) rfl rfl (by exact Rd.ix T rfl rfl rfl rfl rfl rfl y147) ?_
 refine U.pq 1 4 true 150 b146 T ?_
 obtain ⟨x148, y148, g⟩ := g
 refine U.r rfl (.tk 4 true 150 b146) rfl rfl (by exact Rd.io T rfl rfl rfl rfl rfl rfl rfl y148) ?_
 refine U.r rfl (.tk 4 true 150 b146) rfl rfl (by exact Rd.le T rfl rfl rfl (idx_some y148).2.2 rfl rfl rfl) ?_
 refine U.pq 1 4 true 150 b146 T ?_
 refine U.pk b146 ?_
 refine U.done ?_
 exact St.wa (idR 3) (j144 _ g)
 refine U.sk' 11 4 true 150 b146 ?_
 refine U.pk' b146 ?_
 refine U.done ?_
 exact St.wa (idR 3) (j144 _ g)
 refine C.exit (C.ex (C.ex (C.bex ?_)))
 exact St.wa (idR 3) (j136 _ g)
 refine C.ite rfl g (fun b130 g => ?_) fun b130 g => ?_
 refine U.start (U.pd 3 T ?_)
 exact St.wa (idR 3) (j129 _ g)
 refine C.skip ?_
 exact St.wa (idR 3) (j129 _ g)
 refine C.exit (C.ex (C.ex (C.bex ?_)))
 exact St.wa [some 0, some 2] (j117 _ g)
 refine C.block (St.wk (C.loop (fun (s49 : List Bool × List Bool × Int) => [(0, .sl 1 eLeI l), (1, .sl 1 eI other), (5, .b x5), (6, .o 0), (7, .i x18.1), (9, .o 1), (10, .o 2), (12, .i s49.2.2)]) (fun s49 => [(0, .val (.os 1 eI x15)), (1, .val (.os 1 eB s49.1)), (2, .val (.os 1 eB s49.2.1))]) g (fun s49 Y50 g => ?_)) (Wk.a (idR 3)))
 refine C.seq (C.ss (U.pd 4 T (C.nx ?_)))
 refine C.ite rfl g (fun b53 g => ?_) fun b53 g => ?_
 refine C.skip (C.xs ?_)
 refine C.jn (fun (x54 : List Bool × List Bool) => [(0, .sl 1 eLeI l), (1, .sl 1 eI other), (5, .b x5), (6, .o 0), (7, .i x18.1), (9, .o 1), (10, .o 2), (12, .i s49.2.2)]) (fun x54 => [(0, .val (.os 1 eI x15)), (1, .val (.os 1 eB x54.1)), (2, .val (.os 1 eB x54.2))]) 3 g (fun x54 g => ?_) fun J55 g j55 => ?_
 refine C.nx (U.start (U.pd 3 T (C.nx ?_)))
 exact St.wk (C.next g) (Wk.a (idR 3))
 refine C.block (C.seq (C.ss (U.pd 1 T (C.nx ?_))))
 refine C.jn (fun (x58 : List Bool) => [(0, .sl 1 eLeI l), (1, .sl 1 eI other), (5, .b x5), (6, .o 0), (7, .i x18.1), (9, .o 1), (10, .o 2), (12, .i s49.2.2)]) (fun x58 => [(0, .val (.os 1 eI x15)), (1, .val (.os 1 eB s49.1)), (2, .val (.os 1 eB x58))]) 3 g (fun x58 g => ?_) fun J59 g j59 => ?_
 refine C.xt (U.pd 1 T (C.nx ?_))
 refine C.jn (fun (x90 : List Bool) => [(0, .sl 1 eLeI l), (1, .sl 1 eI other), (5, .b x5), (6, .o 0), (7, .i x18.1), (9, .o 1), (10, .o 2), (12, .i s49.2.2)]) (fun x90 => [(0, .val (.os 1 eI x15)), (1, .val (.os 1 eB x90)), (2, .val (.os 1 eB x58))]) 3 g (fun x90 g => ?_) fun J91 g j91 => ?_
 refine C.bnx ?_
 exact St.wa (idR 3) (j55 _ g)
 refine C.block (St.wk (C.loop (fun (s92 : List Bool × Int) => [(0, .sl 1 eLeI l), (1, .sl 1 eI other), (5, .b x5), (6, .o 0), (7, .i x18.1), (9, .o 1), (10, .o 2), (12, .i s49.2.2), (15, .i s92.2)]) (fun s92 => [(0, .val (.os 1 eI x15)), (1, .val (.os 1 eB s92.1)), (2, .val (.os 1 eB x58))]) g (fun s92 Y93 g => ?_)) (Wk.a (idR 3)))
 refine C.seq (C.ss (U.pd 4 T (C.nx ?_)))
 refine C.ite rfl g (fun b96 g => ?_) fun b96 g => ?_
 refine C.skip (C.xs (C.block (C.ss (U.ps 2 T rfl ?_))))
 obtain ⟨x99, y99, g⟩ := g
 refine U.r rfl (.none rfl) rfl rfl (by exact Rd.io T rfl rfl rfl rfl rfl rfl rfl y99) ?_
 refine U.r rfl (.none rfl) rfl rfl (by exact Rd.le T rfl rfl rfl (idx_some y99).2.2 rfl rfl rfl) ?_
 refine U.pd 1 T (C.nx ?_)
 refine C.jn (fun (x100 : List Bool) => [(0, .sl 1 eLeI l), (1, .sl 1 eI other), (5, .b x5), (6, .o 0), (7, .i x18.1), (9, .o 1), (10, .o 2), (12, .i s49.2.2), (15, .i s92.2)]) (fun x100 => [(0, .val (.os 1 eI x15)), (1, .val (.os 1 eB x100)), (2, .val (.os 1 eB x58))]) 3 g (fun x100 g => ?_) fun J101 g j101 => ?_
 refine C.bnx (C.nx (U.start (U.pd 3 T (C.nx ?_))))
 exact St.wk (C.next g) (Wk.a (idR 3))
 refine C.ite rfl g (fun b102 g => ?_) fun b102 g => ?_
 refine C.jn (fun (x103 : List Bool) => [(0, .sl 1 eLeI l), (1, .sl 1 eI other), (5, .b x5), (6, .o 0), (7, .i x18.1), (9, .o 1), (10, .o 2), (12, .i s49.2.2), (15, .i s92.2)]) (fun x103 => [(0, .val (.os 1 eI x15)), (1, .val (.os 1 eB x103)), (2, .val (.os 1 eB x58))]) 3 g (fun x103 g => ?_) fun J104 g j104 => ?_
 exact St.wa (idR 3) (j101 _ g)
 refine U.start (U.ps 4 T rfl ?_)
 obtain ⟨x105, y105, g⟩ := g
 refine U.r rfl (.none rfl) rfl rfl (by exact Rd.io T rfl rfl rfl rfl rfl rfl rfl y105) ?_
 refine U.r rfl (.none rfl) rfl rfl (by exact Rd.le T rfl rfl rfl (idx_some y105).2.2 rfl rfl rfl) ?_
 refine U.ps 1 T rfl ?_
 refine g.cs (fun b106 g => ?_) fun b106 g => ?_
 refine U.sk' 7 6 false 114 b106 ?_
 refine U.pk b106 ?_
 refine U.r rfl (.none rfl) rfl rfl (by exact Rd.io T rfl rfl rfl rfl rfl rfl rfl y105) ?_
 refine U.e1 rfl (.none rfl) (by exact Eff1.se T (z' := true) rfl rfl rfl (idx_some y105).2.2 rfl rfl rfl rfl rfl rfl rfl rfl (fun _ => rfl) rfl) ?_
 refine U.done ?_
 exact St.wa (idR 3) (j104 _ g)
 refine U.pq 3 6 false 114 b106 T ?_
 refine U.r rfl (.tk 6 false 114 b106) rfl rfl (by exact Rd.io T rfl rfl rfl rfl rfl rfl rfl y99) ?_
 refine U.r rfl (.tk 6 false 114 b106) rfl rfl (by exact Rd.le T rfl rfl rfl (idx_some y99).2.2 rfl rfl rfl) ?_
 obtain ⟨x107, y107, g⟩ := g
 refine U.r rfl (.tk 6 false 114 b106) rfl rfl (by exact Rd.io T rfl rfl rfl rfl rfl rfl rfl y107) ?_
 refine U.r rfl (.tk 6 false 114 b106) rfl rfl (by exact Rd.le T rfl rfl rfl (idx_some y107).2.2 rfl rfl rfl) ?_
 refine U.pk' b106 ?_
 refine U.r rfl (.none rfl) rfl rfl (by exact Rd.io T rfl rfl rfl rfl rfl rfl rfl y105) ?_
 refine U.e1 rfl (.none rfl) (by exact Eff1.se T (z' := x107) rfl rfl rfl (idx_some y105).2.2 rfl rfl rfl rfl rfl rfl rfl rfl (fun _ => rfl) rfl) ?_
 refine U.done ?_
 exact St.wa (idR 3) (j104 _ g)
 refine C.skip ?_
 exact St.wa (idR 3) (j101 _ g)
 refine C.exit (C.ex (C.ex (C.bex ?_)))
 exact St.wa (idR 3) (j91 _ g)
 refine C.block (St.wk (C.loop (fun (s60 : List Bool × Int) => [(0, .sl 1 eLeI l), (1, .sl 1 eI other), (5, .b x5), (6, .o 0), (7, .i x18.1), (9, .o 1), (10, .o 2), (12, .i s49.2.2), (13, .i s60.2)]) (fun s60 => [(0, .val (.os 1 eI x15)), (1, .val (.os 1 eB s49.1)), (2, .val (.os 1 eB s60.1))]) g (fun s60 Y61 g => ?_)) (Wk.a (idR 3)))
 refine C.seq (C.ss (U.pd 4 T (C.nx ?_)))
 refine C.ite rfl g (fun b64 g => ?_) fun b64 g => ?_
 refine C.skip (C.xs ?_)
 refine C.jn (fun (x65 : List Bool) => [(0, .sl 1 eLeI l), (1, .sl 1 eI other), (5, .b x5), (6, .o 0), (7, .i x18.1), (9, .o 1), (10, .o 2), (12, .i s49.2.2), (13, .i s60.2)]) (fun x65 => [(0, .val (.os 1 eI x15)), (1, .val (.os 1 eB s49.1)), (2, .val (.os 1 eB x65))]) 3 g (fun x65 g => ?_) fun J66 g j66 => ?_
 refine C.nx (U.start (U.pd 3 T (C.nx ?_)))
 exact St.wk (C.next g) (Wk.a (idR 3))
 refine C.block (C.ss (U.pd 1 T (C.nx ?_)))
 refine C.jn (fun (x69 : List Bool) => [(0, .sl 1 eLeI l), (1, .sl 1 eI other), (5, .b x5), (6, .o 0), (7, .i x18.1), (9, .o 1), (10, .o 2), (12, .i s49.2.2), (13, .i s60.2)]) (fun x69 => [(0, .val (.os 1 eI x15)), (1, .val (.os 1 eB s49.1)), (2, .val (.os 1 eB x69))]) 3 g (fun x69 g => ?_) fun J70 g j70 => ?_
 refine C.bnx ?_
 exact St.wa (idR 3) (j66 _ g)
 refine C.block (St.wk (C.loop (fun (s71 : List Bool × Int) => [(0, .sl 1 eLeI l), (1, .sl 1 eI other), (5, .b x5), (6, .o 0), (7, .i x18.1), (9, .o 1), (10, .o 2), (12, .i s49.2.2), (13, .i s60.2), (14, .i s71.2)]) (fun s71 => [(0, .val (.os 1 eI x15)), (1, .val (.os 1 eB s49.1)), (2, .val (.os 1 eB s71.1))]) g (fun s71 Y72 g => ?_)) (Wk.a (idR 3)))
 refine C.seq (C.seq ?_)
 refine C.jn (fun (x73 : Bool) => [(0, .sl 1 eLeI l), (1, .sl 1 eI other), (5, .b x5), (6, .o 0), (7, .i x18.1), (9, .o 1), (10, .o 2), (12, .i s49.2.2), (13, .i s60.2), (14, .i s71.2), (85, .b x73)]) (fun x73 => [(0, .val (.os 1 eI x15)), (1, .val (.os 1 eB s49.1)), (2, .val (.os 1 eB s71.1))]) 3 g (fun x73 g => ?_) fun J74 g j74 => ?_
 refine C.nx ?_
 refine C.ite rfl g (fun b78 g => ?_) fun b78 g => ?_
 refine C.skip (C.xs (C.block (U.start (U.ps 3 T rfl ?_))))
 obtain ⟨x81, y81, g⟩ := g
 refine U.ix T y81 ?_
 refine U.ps 2 T rfl ?_
 obtain ⟨x82, y82, g⟩ := g
 refine U.ix T y82 ?_
 refine U.ps 1 T rfl ?_
 obtain ⟨x83, y83, g⟩ := g
 refine U.r rfl (.none rfl) rfl rfl (by exact Rd.io T rfl rfl rfl rfl rfl rfl rfl y83) ?_
 refine U.e1 rfl (.none rfl) (by exact Eff1.se T (z' := true) rfl rfl rfl (idx_some y83).2.2 rfl rfl rfl rfl rfl rfl rfl rfl (fun _ => rfl) rfl) ?_
 refine U.done (C.bnx (C.nx (U.start (U.pd 3 T (C.nx ?_)))))
 exact St.wk (C.next g) (Wk.a (idR 3))
 refine C.exit (C.ex (C.ex (C.bex ?_)))
 exact St.wa (idR 3) (j70 _ g)
 refine U.start (U.ps 3 T rfl ?_)
 obtain ⟨x75, y75, g⟩ := g
 refine U.ix T y75 ?_
 refine U.ps 4 T rfl ?_
 refine g.cs (fun b76 g => ?_) fun b76 g => ?_
 refine U.pq 2 7 true 80 b76 T ?_
 obtain ⟨x77, y77, g⟩ := g
 refine U.r rfl (.tk 7 true 80 b76) rfl rfl (by exact Rd.io T rfl rfl rfl rfl rfl rfl rfl y77) ?_
 refine U.r rfl (.tk 7 true 80 b76) rfl rfl (by exact Rd.le T rfl rfl rfl (idx_some y77).2.2 rfl rfl rfl) ?_
 refine U.pk b76 ?_
 refine U.done ?_
 exact St.wa (idR 3) (j74 _ g)
 refine U.sk' 4 7 true 80 b76 ?_
 refine U.pk' b76 ?_
 refine U.done ?_
 exact St.wa (idR 3) (j74 _ g)
 refine C.exit (C.ex (C.ex (C.bex ?_)))
 exact St.wa (idR 3) (j59 _ g)
 refine C.exit (C.ex (C.ex (C.bex ?_)))
 exact St.wa (idR 3) (j48 _ g)
 refine C.block (St.wk (C.loop (fun (s34 : List Bool × Int) => [(0, .sl 1 eLeI l), (1, .sl 1 eI other), (5, .b x5), (6, .o 0), (7, .i x18.1), (9, .o 1), (10, .o 2), (11, .i s34.2)]) (fun s34 => [(0, .val (.os 1 eI x15)), (1, .val (.os 1 eB s34.1)), (2, .val (.os 1 eB (List.replicate (Int.toNat 64) false)))]) g (fun s34 Y35 g => ?_)) (Wk.a (idR 3)))
 refine C.seq (C.ss (U.pd 4 T (C.nx ?_)))
 refine C.ite rfl g (fun b38 g => ?_) fun b38 g => ?_
 refine C.skip (C.xs (C.block (U.start (U.ps 4 T rfl ?_))))
 obtain ⟨x41, y41, g⟩ := g
 refine U.r rfl (.none rfl) rfl rfl (by exact Rd.io T rfl rfl rfl rfl rfl rfl rfl y41) ?_
 refine U.r rfl (.none rfl) rfl rfl (by exact Rd.le T rfl rfl rfl (idx_some y41).2.2 rfl rfl rfl) ?_
 refine U.ps 1 T rfl ?_
 obtain ⟨x42, y42, g⟩ := g
 refine U.r rfl (.none rfl) rfl rfl (by exact Rd.io T rfl rfl rfl rfl rfl rfl rfl y42) ?_
 refine U.e1 rfl (.none rfl) (by exact Eff1.se T (z' := decide (x41 < 0)) rfl rfl rfl (idx_some y42).2.2 rfl rfl rfl rfl rfl rfl rfl rfl (fun _ => rfl) rfl) ?_
 refine U.done (C.bnx (C.nx (U.start (U.pd 3 T (C.nx ?_)))))
 exact St.wk (C.next g) (Wk.a (idR 3))
 refine C.exit (C.ex (C.ex (C.bex ?_)))
 exact St.wa (idR 3) (j33 _ g)
 refine U.start (U.ps 1 T rfl (U.k (T_taquinref34_Few l 12 _ g) en7 (fun x8 g => ?_)))
 refine U.ps 2 T rfl ?_
 refine g.cs (fun b9 g => ?_) fun b9 g => ?_
 refine U.pq 3 3 false 27 (ntF b9) T ?_
 refine U.pk' (ntF b9) ?_
 refine U.done ?_
 exact St.wn (j7 _ g)
 refine U.sk' 3 3 false 27 (ntT b9) ?_
 refine U.pk (ntT b9) ?_
 refine U.done ?_
 exact St.wn (j7 _ g)
end Go.Proofs.Ytlaehjhkcanffaa
