/- The walks: each Go function does what its verification condition says (written by a program of the prover). -/
import Derived.Test.YthbeknnkokooiaaEnc
import Derived.KernelRfl
set_option maxRecDepth 100000
set_option maxHeartbeats 8000000
set_option linter.unusedVariables false
set_option linter.unusedSimpArgs false
namespace Go.Proofs.Ythbeknnkokooiaa
open Go Go.Taq
theorem T_taquinlaw28_row (post : ApiFloor → Prop) (g : V_taquinlaw28_row post) :
    Tr Try.prog 6 [] [] 0 (fun A H' k => ∃ y, post y ∧ A = (.agg [.i y.W, .i y.H, .i y.D, .o 0, .o 1]) ∧ H' = [(0, .val (.os 1 eI y.Kind)), (1, .val (.os 1 eI y.Out))] ∧ k = 2) := by
 refine Tr.go Try.func6 Try.ntmps6 fun _ _ _ _ o => ?_
 unfold V_taquinlaw28_row at g
 refine C.ss (U.al T ?_)
 refine U.done (C.xt (U.pd 1 T (C.xt ?_)))
 refine U.pd 1 T (C.xt ?_)
 refine U.bs T eI ([1, 1, 1, 1] : List Int) ?_
 refine U.ps 8 T rfl (U.bs T eI ([1, w64 (1 + 4), w64 (1 + 4), 4] : List Int) ?_)
 refine U.ps 1 T rfl (U.st T ?_)
 refine U.done (C.nx (C.ret ?_))
 exact C.g1 (sqR 1 2) T o ⟨({ W := 4, H := 1, D := 1, Kind := ([1, 1, 1, 1] : List Int), Out := ([1, w64 (1 + 4), w64 (1 + 4), 4] : List Int) : ApiFloor }), g, rfl, rfl, rfl⟩
theorem T_layout_choose (post : (List Int) → Prop) (g : V_layout_choose post) :
    Tr Try.prog 18 [] [] 0 (fun A H' k => ∃ y, post y ∧ A = (.p 0 0) ∧ H' = [(0, .val (.arr 1 eI y))] ∧ k = 1) := by
 refine Tr.go Try.func18 Try.ntmps18 fun _ _ _ _ o => ?_
 unfold V_layout_choose at g
 refine C.ss (U.pd 1 T (C.xt ?_))
 refine U.ps 1 T rfl (U.e1 rfl (.none rfl) (by exact Eff1.bxa (n := 1) (enc := eI) (xs := (List.replicate 625 0)) rfl rfl (by kernel_rfl) (fun _ => rfl) (fun _ => rfl) rfl rfl) ?_)
 refine U.pd 1 T (C.xs (C.ss ?_))
 refine U.pd 1 T (C.nx ?_)
 refine C.jn (fun (x7 : List Int) => [(1, .p 0 0)]) (fun x7 => [(0, .val (.arr 1 eI x7))]) 1 g (fun x7 g => ?_) fun J8 g j8 => ?_
 refine C.xt (U.pd 2 T (C.nx (C.ret ?_)))
 exact C.g1 [some 0] T o ⟨x7, g, rfl, rfl, rfl⟩
 refine C.block (St.wk (C.loop (fun (s9 : List Int × Int) => [(1, .p 0 0), (6, .i s9.2)]) (fun s9 => [(0, .val (.arr 1 eI s9.1))]) g (fun s9 Y10 g => ?_)) (Wk.a [some 0]))
 refine C.ss (U.pd 1 T (C.xs ?_))
 refine C.ite rfl g (fun b13 g => ?_) fun b13 g => ?_
 refine C.skip (C.xs ?_)
 refine C.jn (fun (x14 : List Int) => [(1, .p 0 0), (6, .i s9.2)]) (fun x14 => [(0, .val (.arr 1 eI x14))]) 1 g (fun x14 g => ?_) fun J15 g j15 => ?_
 refine C.nx (U.start (U.pd 2 T (C.nx ?_)))
 exact St.wk (C.next g) (Wk.a [some 0])
 refine C.block (C.ss (U.pd 2 T (C.xt ?_)))
 refine U.ps 3 T rfl ?_
 obtain ⟨y20, g⟩ := g
 refine U.r rfl (.none rfl) rfl rfl (by exact Rd.pi T rfl rfl rfl rfl rfl rfl y20) ?_
 obtain ⟨y21, g⟩ := g
 refine U.r rfl (.none rfl) rfl rfl (by exact Rd.pi T rfl rfl rfl rfl rfl rfl y21) ?_
 obtain ⟨x22, y22, g⟩ := g
 refine U.e1 rfl (.none rfl) (by exact Eff1.sa T (z' := 1) rfl rfl rfl y22 rfl rfl rfl rfl rfl rfl rfl) ?_
 refine U.done (C.xt (U.pd 2 T (C.nx ?_)))
 refine C.jn (fun (x25 : List Int) => [(1, .p 0 0), (6, .i s9.2)]) (fun x25 => [(0, .val (.arr 1 eI x25))]) 1 g (fun x25 g => ?_) fun J26 g j26 => ?_
 refine C.bnx ?_
 exact St.wa [some 0] (j15 _ g)
 refine C.block (St.wk (C.loop (fun (s27 : List Int × Int) => [(1, .p 0 0), (2, .i s9.2), (6, .i s9.2), (14, .i s9.2), (15, .i s27.2)]) (fun s27 => [(0, .val (.arr 1 eI s27.1))]) g (fun s27 Y28 g => ?_)) (Wk.a [some 0]))
 refine C.ss (U.pd 1 T (C.xs ?_))
 refine C.ite rfl g (fun b31 g => ?_) fun b31 g => ?_
 refine C.skip (C.xs (C.block (C.ss (U.pd 2 T (C.nx ?_)))))
 refine D.bq mix 25 [0] [] (fun hQ hS ws M' => ?_)
 refine D.pq 9 (zl [0, 1, 2, 3, 4, 5, 6, 7, 8]) T ?_
 obtain ⟨y36, g⟩ := g
 refine D.q 9 [] hQ hS rfl (.none rfl) rfl rfl (by exact Rd.pi T rfl rfl rfl rfl rfl rfl y36) rfl (by kernel_rfl) ?_
 obtain ⟨y37, g⟩ := g
 refine D.q 10 [] hQ hS rfl (.none rfl) rfl rfl (by exact Rd.pi T rfl rfl rfl rfl rfl rfl y37) rfl (by kernel_rfl) ?_
 obtain ⟨x38, y38, g⟩ := g
 refine D.q 11 [] hQ hS rfl (.none rfl) rfl rfl (by exact Rd.la T rfl rfl rfl y38 rfl rfl rfl) rfl (by kernel_rfl) ?_
 refine D.pq 6 (zl [12, 13, 14, 15, 16, 17]) T ?_
 obtain ⟨y39, g⟩ := g
 refine D.q 18 [] hQ hS rfl (.none rfl) rfl rfl (by exact Rd.pi T rfl rfl rfl rfl rfl rfl y39) rfl (by kernel_rfl) ?_
 obtain ⟨y40, g⟩ := g
 refine D.q 19 [] hQ hS rfl (.none rfl) rfl rfl (by exact Rd.pi T rfl rfl rfl rfl rfl rfl y40) rfl (by kernel_rfl) ?_
 obtain ⟨x41, y41, g⟩ := g
 refine D.q 20 [] hQ hS rfl (.none rfl) rfl rfl (by exact Rd.la T rfl rfl rfl y41 rfl rfl rfl) rfl (by kernel_rfl) ?_
 refine D.pq 2 [(21, []), (22, [24, 23])] T ?_
 obtain ⟨y42, g⟩ := g
 refine D.q 23 [24] hQ hS rfl (.none rfl) rfl rfl (by exact Rd.pi T rfl rfl rfl rfl rfl rfl y42) rfl (by kernel_rfl) ?_
 obtain ⟨y43, g⟩ := g
 refine D.q 24 [] hQ hS rfl (.none rfl) rfl rfl (by exact Rd.pi T rfl rfl rfl rfl rfl rfl y43) rfl (by kernel_rfl) ?_
 obtain ⟨x44, y44, g⟩ := g
 refine D.ze1 rfl (.none rfl) (by exact Eff1.sa T (z' := w64 (x38 + x41)) rfl rfl rfl y44 rfl rfl rfl rfl rfl rfl rfl) (by kernel_rfl) (by kernel_rfl) ?_
 refine C.bnx (C.nx (U.start (U.pd 2 T (C.nx ?_))))
 exact St.wk (C.next g) (Wk.a [some 0])
 refine C.exit (C.ex (C.ex (C.bex ?_)))
 exact St.wa [some 0] (j26 _ g)
 refine C.exit (C.ex (C.ex (C.bex ?_)))
 exact St.wa [some 0] (j8 _ g)
theorem T_layout_Count (n : Int) (k : Int) (post : Int → Prop) (g : V_layout_Count n k post) :
    Tr Try.prog 11 [.i n, .i k] [] 0 (pI post) := by
 refine Tr.go Try.func11 Try.ntmps11 fun _ _ _ _ o => ?_
 unfold V_layout_Count at g
 refine C.ss (U.pd 1 T (C.xs (C.seq ?_)))
 refine C.jn (fun (x3 : Bool) => [(0, .i n), (1, .i k), (19, .b x3)]) (fun x3 => []) 0 g (fun x3 g => ?_) fun J4 g j4 => ?_
 refine C.nx ?_
 refine C.ite rfl g (fun b8 g => ?_) fun b8 g => ?_
 refine C.ss (U.pd 1 T (C.nx (C.ret (C.rt ?_))))
 exact C.f1 T o (pIi g)
 refine C.skip (C.xt (U.ps 1 T rfl (U.k (T_layout_choose _ g) en18 (fun x13 g => ?_))))
 refine U.ps 5 T rfl ?_
 obtain ⟨y14, g⟩ := g
 refine U.r rfl (.none rfl) rfl rfl (by exact Rd.pi T rfl rfl rfl rfl rfl rfl y14) ?_
 obtain ⟨y15, g⟩ := g
 refine U.r rfl (.none rfl) rfl rfl (by exact Rd.pi T rfl rfl rfl rfl rfl rfl y15) ?_
 obtain ⟨x16, y16, g⟩ := g
 refine U.r rfl (.none rfl) rfl rfl (by exact Rd.la T rfl rfl rfl y16 rfl rfl rfl) ?_
 refine U.pd 2 T (C.nx (C.ret ?_))
 exact C.f1 T o (pIi g)
 refine U.start (U.ps 3 T rfl ?_)
 refine g.cs (fun b5 g => ?_) fun b5 g => ?_
 refine U.sk' 2 2 false 7 b5 ?_
 refine U.pk b5 ?_
 refine U.ps 1 T rfl (U.sk' 2 6 false 11 rfl ?_)
 refine U.pk rfl ?_
 refine U.ps 1 T rfl (U.sk' 3 10 false 15 rfl ?_)
 refine U.pk rfl ?_
 refine U.done ?_
 exact St.wn (j4 _ g)
 refine U.pq 2 2 false 7 b5 T ?_
 refine U.pk' b5 ?_
 refine U.ps 1 T rfl ?_
 refine g.cs (fun b6 g => ?_) fun b6 g => ?_
 refine U.sk' 2 6 false 11 b6 ?_
 refine U.pk b6 ?_
 refine U.ps 1 T rfl (U.sk' 3 10 false 15 rfl ?_)
 refine U.pk rfl ?_
 refine U.done ?_
 exact St.wn (j4 _ g)
 refine U.pq 2 6 false 11 b6 T ?_
 refine U.pk' b6 ?_
 refine U.ps 1 T rfl ?_
 refine g.cs (fun b7 g => ?_) fun b7 g => ?_
 refine U.sk' 3 10 false 15 b7 ?_
 refine U.pk b7 ?_
 refine U.done ?_
 exact St.wn (j4 _ g)
 refine U.pq 3 10 false 15 b7 T ?_
 refine U.pk' b7 ?_
 refine U.done ?_
 exact St.wn (j4 _ g)
theorem T_math_bits_Mul64 (x_1 : Int) (y_1 : Int) (post : (Int × Int) → Prop) (g : V_math_bits_Mul64 x_1 y_1 post) :
    Tr Try.prog 49 [.v (.int .u64 x_1), .v (.int .u64 y_1)] [] 0 (fun A H' k => ∃ y, post y ∧ A = (.tup [.v (.int .u64 y.1), .v (.int .u64 y.2)]) ∧ H' = [] ∧ k = 0) := by
 refine Tr.go Try.func49 Try.ntmps49 fun _ _ _ _ o => ?_
 unfold V_math_bits_Mul64 at g
 refine C.ss (U.pd 2 T (C.xt ?_))
 refine U.pd 3 T (C.xt ?_)
 refine U.ps 1 T rfl (U.r rfl (.none rfl) rfl rfl (by exact Rd.sh rfl rfl rfl rfl (by decide)) ?_)
 refine U.pd 1 T (C.xt ?_)
 refine U.pd 3 T (C.xt ?_)
 refine U.ps 1 T rfl (U.r rfl (.none rfl) rfl rfl (by exact Rd.sh rfl rfl rfl rfl (by decide)) ?_)
 refine U.pd 1 T (C.xt ?_)
 refine U.pd 4 T (C.xt ?_)
 refine U.ps 4 T rfl (U.r rfl (.none rfl) rfl rfl (by exact Rd.sh rfl rfl rfl rfl (by decide)) ?_)
 refine U.pd 2 T (C.xt ?_)
 refine U.pd 3 T (C.xt ?_)
 refine U.ps 1 T rfl (U.r rfl (.none rfl) rfl rfl (by exact Rd.sh rfl rfl rfl rfl (by decide)) ?_)
 refine U.pd 1 T (C.xt ?_)
 refine U.pd 6 T (C.xt ?_)
 refine U.ps 6 T rfl (U.r rfl (.none rfl) rfl rfl (by exact Rd.sh rfl rfl rfl rfl (by decide)) ?_)
 refine U.pd 2 T (C.xt ?_)
 refine U.pd 4 T (C.nx (C.ret ?_))
 exact C.f9 T o ⟨(IntKind.wrap .u64 ((IntKind.wrap .u64 ((IntKind.wrap .u64 ((shrI .u64 x_1 32) * (shrI .u64 y_1 32))) + (shrI .u64 (IntKind.wrap .u64 ((IntKind.wrap .u64 ((shrI .u64 x_1 32) * (band .u64 y_1 4294967295))) + (shrI .u64 (IntKind.wrap .u64 ((band .u64 x_1 4294967295) * (band .u64 y_1 4294967295))) 32))) 32))) + (shrI .u64 (IntKind.wrap .u64 ((band .u64 (IntKind.wrap .u64 ((IntKind.wrap .u64 ((shrI .u64 x_1 32) * (band .u64 y_1 4294967295))) + (shrI .u64 (IntKind.wrap .u64 ((band .u64 x_1 4294967295) * (band .u64 y_1 4294967295))) 32))) 4294967295) + (IntKind.wrap .u64 ((band .u64 x_1 4294967295) * (shrI .u64 y_1 32))))) 32)), IntKind.wrap .u64 (x_1 * y_1)), g, rfl, rfl, rfl⟩
theorem T_math_bits_Mul (x_1 : Int) (y_1 : Int) (post : (Int × Int) → Prop) (g : V_math_bits_Mul x_1 y_1 post) :
    Tr Try.prog 38 [.v (.int .u64 x_1), .v (.int .u64 y_1)] [] 0 (fun A H' k => ∃ y, post y ∧ A = (.tup [.v (.int .u64 y.1), .v (.int .u64 y.2)]) ∧ H' = [] ∧ k = 0) := by
 refine Tr.go Try.func38 Try.ntmps38 fun _ _ _ _ o => ?_
 unfold V_math_bits_Mul at g
 refine C.ss (U.pd 2 T (C.xs ?_))
 refine C.condF rfl rfl ?_
 refine C.skip (C.xt (U.ps 2 T rfl (U.k (T_math_bits_Mul64 x_1 y_1 _ g) en49 (fun x5 g => ?_))))
 refine U.pd 5 T (C.xt ?_)
 refine U.pd 4 T (C.nx (C.ret ?_))
 exact C.f9 T o ⟨(x5.1, x5.2), g, rfl, rfl, rfl⟩
theorem T_slices_Repeat_int_int (x_1 : List Int) (count : Int) (post : (List Int) → Prop) (g : V_slices_Repeat_int_int x_1 count post) :
    Tr Try.prog 25 [.sl 1 eI x_1, .i count] [] 0 (fun A H' k => ∃ y, post y ∧ A = (.o 0) ∧ H' = [(0, .val (.os 1 eI y))] ∧ k = 1) := by
 refine Tr.go Try.func25 Try.ntmps25 fun _ _ _ _ o => ?_
 unfold V_slices_Repeat_int_int at g
 refine C.ss (U.pd 1 T (C.xs (C.ss ?_)))
 refine U.pd 2 T (C.nx ?_)
 refine C.ite rfl g (fun b7 g => ?_) fun b7 g => ?_
 refine U.start ?_
 exact g.elim
 refine C.skip (C.xt (U.ps 5 T rfl (U.k (T_math_bits_Mul (IntKind.wrap .u64 (x_1.length : Int)) (IntKind.wrap .u64 count) _ g) en38 (fun x12 g => ?_))))
 refine U.pd 5 T (C.xs (C.seq ?_))
 refine C.jn (fun (x13 : Bool) => [(0, .sl 1 eI x_1), (6, .v (.int .u64 x12.2)), (26, .b x13)]) (fun x13 => []) 0 g (fun x13 g => ?_) fun J14 g j14 => ?_
 refine C.nx ?_
 refine C.ite rfl g (fun b18 g => ?_) fun b18 g => ?_
 refine U.start ?_
 exact g.elim
 refine C.skip (C.xt (U.ps 2 T rfl ?_))
 obtain ⟨y23, g⟩ := g
 refine U.e1 rfl (.none rfl) (by exact Eff1.mk T (enc := eI) (z0 := 0) rfl rfl rfl rfl rfl rfl rfl rfl rfl rfl y23) ?_
 refine U.pd 1 T (C.xt ?_)
 refine U.ps 2 T rfl (U.e1 rfl (.none rfl) (by exact Eff1.cp T rfl rfl rfl rfl (.inr ⟨rfl, rfl, rfl⟩) rfl rfl (.inl rfl) rfl rfl rfl (fun _ => rfl) (Nat.le_of_eq (Nat.zero_add _)) rfl) ?_)
 refine U.pd 1 T (C.xs ?_)
 refine C.jn (fun (x26 : List Int) => [(7, .o 0)]) (fun x26 => [(0, .val (.os 1 eI x26))]) 1 g (fun x26 g => ?_) fun J27 g j27 => ?_
 refine C.xt (U.pd 2 T (C.nx (C.ret ?_)))
 exact C.g1 [some 0] T o ⟨x26, g, rfl, rfl, rfl⟩
 refine C.block (St.wk (C.loop (fun (s28 : List Int × Int) => [(7, .o 0), (8, .i s28.2)]) (fun s28 => [(0, .val (.os 1 eI s28.1))]) g (fun s28 Y29 g => ?_)) (Wk.a [some 0]))
 refine C.seq (C.ss (U.pd 4 T (C.nx ?_)))
 refine C.ite rfl g (fun b32 g => ?_) fun b32 g => ?_
 refine C.skip (C.nx (C.block (D.bq mix 9999 [] [0] (fun hQ hS ws M' => ?_))))
 refine D.pq 3 (zl [0, 1, 2]) T ?_
 obtain ⟨y35, g⟩ := g
 refine D.q 3 [] hQ hS rfl (.none rfl) rfl rfl (by exact Rd.vw T rfl rfl rfl rfl rfl rfl (.some _ rfl) (.none _) y35) rfl (by kernel_rfl) ?_
 refine D.pq 2 (zl [4, 5]) T ?_
 obtain ⟨y36, g⟩ := g
 refine D.q 6 [] hQ hS rfl (.none rfl) rfl rfl (by exact Rd.vw T rfl rfl rfl rfl rfl rfl (.none _) (.some _ rfl) y36) rfl (by kernel_rfl) ?_
 obtain ⟨y37, g⟩ := g
 obtain ⟨y38, g⟩ := g
 refine D.e1 7 rfl (.none rfl) (by exact Eff1.cp T rfl rfl rfl rfl (.inl rfl) rfl rfl (.inr (.inr ⟨_, _, _, _, rfl, rfl, y38, rfl⟩)) rfl rfl rfl (fun _ => rfl) y37 rfl) (by kernel_rfl) rfl rfl ?_
 refine D.pq 2 (zl [8, 9]) T ?_
 refine D.done (by kernel_rfl) ?_
 refine C.bnx (C.nx ?_)
 exact St.wk (C.next g) (Wk.a [some 0])
 refine C.exit (C.ex (C.ex (C.bex ?_)))
 exact St.wa [some 0] (j27 _ g)
 refine U.start (U.ps 3 T rfl ?_)
 refine g.cs (fun b15 g => ?_) fun b15 g => ?_
 refine U.sk' 2 2 false 23 b15 ?_
 refine U.pk b15 ?_
 refine U.done ?_
 exact St.wn (j14 _ g)
 refine U.pq 2 2 false 23 b15 T ?_
 refine U.pk' b15 ?_
 refine U.done ?_
 exact St.wn (j14 _ g)
theorem T_layout_Unrank (n : Int) (k : Int) (rank : Int) (post : (ApiLayout × Bool) → Prop) (g : V_layout_Unrank n k rank post) :
    Tr Try.prog 26 [.i n, .i k, .i rank] [] 0 (fun A H' k => ∃ y, post y ∧ A = (.tup [.agg [.o 0, .i y.1.Target], .b y.2]) ∧ H' = [(0, .val (.os 1 eB y.1.Full))] ∧ k = 1) := by
 refine Tr.go Try.func26 Try.ntmps26 fun _ _ _ _ o => ?_
 unfold V_layout_Unrank at g
 refine C.ss (U.al T ?_)
 refine U.pd 1 T (C.xs (C.seq ?_))
 refine C.jn (fun (x3 : Bool) => [(0, .i n), (1, .i k), (2, .i rank), (6, .p 0 0), (21, .b x3)]) (fun x3 => [(0, .box [vN, .i 0])]) 1 g (fun x3 g => ?_) fun J4 g j4 => ?_
 refine C.nx ?_
 refine C.ite rfl g (fun b7 g => ?_) fun b7 g => ?_
 refine C.ss (U.ps 1 T rfl (U.st T ?_))
 refine U.pd 1 T (C.nx (C.ret (C.rt ?_)))
 exact C.fg [none] T o ⟨(({ Full := [], Target := 0 : ApiLayout }), false), g, rfl, rfl, rfl⟩
 refine C.skip (C.xt (U.k (T_layout_choose _ g) en18 (fun x12 g => ?_)))
 refine U.pd 1 T (C.xs ?_)
 refine D.bq mix 15 [1] [2, 3] (fun hQ hS ws M' => ?_)
 refine D.pq 8 (zl [0, 2, 3, 4, 5, 6, 7, 8]) T ?_
 obtain ⟨y15, g⟩ := g
 refine D.q 9 [] hQ hS rfl (.none rfl) rfl rfl (by exact Rd.pi T rfl rfl rfl rfl rfl rfl y15) rfl (by kernel_rfl) ?_
 obtain ⟨y16, g⟩ := g
 refine D.q 10 [] hQ hS rfl (.none rfl) rfl rfl (by exact Rd.pi T rfl rfl rfl rfl rfl rfl y16) rfl (by kernel_rfl) ?_
 obtain ⟨x17, y17, g⟩ := g
 refine D.q 11 [] hQ hS rfl (.none rfl) rfl rfl (by exact Rd.la T rfl rfl rfl y17 rfl rfl rfl) rfl (by kernel_rfl) ?_
 obtain ⟨y18, g⟩ := g
 refine D.q 12 [] hQ hS rfl (.none rfl) rfl rfl (by exact Rd.dv rfl rfl rfl rfl y18) rfl (by kernel_rfl) ?_
 obtain ⟨y19, g⟩ := g
 refine D.have false [(0, .i n), (1, .i k), (2, .i rank), (6, .p 0 0), (8, .p 1 0), (9, .p 2 0), (21, .b x3), (23, .p 1 0), (24, .i n), (25, .o 3), (26, .i rank), (27, .p 1 0), (28, .i n), (29, .i (w64 (n - 1))), (30, .i k), (31, .i (w64 (k - 1))), (32, .p 1 0), (33, .p 1 (0 + Int.toNat (w64 (n - 1)) * 25)), (34, .p 1 ((0 + Int.toNat (w64 (n - 1)) * 25) + Int.toNat (w64 (k - 1)) * 1)), (35, .i x17), (36, .i (w64 (rank.tdiv x17))), (37, .agg [.o 3, .i (w64 (rank.tdiv x17))])] [(0, .box [vN, .i 0]), (1, .val (.arr 1 eI x12)), (2, .box [vN, .i 0]), (3, .val (.os 1 eB (List.replicate (Int.toNat n) false)))] 4 1 #[true, true, true, true, true, true, true, true, true, true, true, true, true, true, true, false] ?_ fun hd18_3 => ?_
 refine D.ze1 rfl (.none rfl) (by exact Eff1.st T rfl rfl rfl rfl rfl rfl rfl rfl rfl rfl) (by kernel_rfl) (by kernel_rfl) ?_
 refine C.xt (U.ps 7 T rfl ?_)
 obtain ⟨y22, g⟩ := g
 refine U.r rfl (.none rfl) rfl rfl (by exact Rd.pi T rfl rfl rfl rfl rfl rfl y22) ?_
 obtain ⟨y23, g⟩ := g
 refine U.r rfl (.none rfl) rfl rfl (by exact Rd.pi T rfl rfl rfl rfl rfl rfl y23) ?_
 refine U.r rfl (.none rfl) rfl rfl (by exact Rd.la T rfl rfl rfl y17 rfl rfl rfl) ?_
 obtain ⟨y24, g⟩ := g
 refine U.r rfl (.none rfl) rfl rfl (by exact Rd.rm rfl rfl rfl rfl y24) ?_
 refine U.pd 1 T (C.xt ?_)
 refine U.pd 6 T (C.xs (C.ss ?_))
 refine U.pd 2 T (C.nx ?_)
 refine C.jn (fun (x29 : List Bool) => [(6, .p 0 0), (9, .p 1 0)]) (fun x29 => [(0, .box [vN, .i 0]), (1, .box [.o 2, .i (w64 (rank.tdiv x17))]), (2, .val (.os 1 eB x29))]) 3 g (fun x29 g => ?_) fun J30 g j30 => ?_
 refine C.xt (U.ps 1 T rfl (U.st T ?_))
 refine U.pd 1 T (C.nx (C.ret ?_))
 exact C.fg [some 2] T o ⟨(({ Full := x29, Target := w64 (rank.tdiv x17) : ApiLayout }), true), g, rfl, rfl, rfl⟩
 refine C.block ?_
 refine St.wk (C.loop (fun (s31 : Int × List Bool × Int × Int × Int) => [(2, .i s31.1), (6, .p 0 0), (8, .p 1 0), (9, .p 2 0), (10, .i s31.2.2.1), (11, .i s31.2.2.2.1), (53, .i n), (54, .i s31.2.2.2.2)]) (fun s31 => [(0, .box [vN, .i 0]), (1, .val (.arr 1 eI x12)), (2, .box [.o 3, .i (w64 (rank.tdiv x17))]), (3, .val (.os 1 eB s31.2.1))]) g (fun s31 Y32 g => ?_)) (Wk.a (idR 4))
 refine C.ss (U.pd 1 T (C.xs ?_))
 refine C.ite rfl g (fun b35 g => ?_) fun b35 g => ?_
 refine C.skip (C.xs ?_)
 refine C.jn (fun (x36 : Int × List Bool × Int × Int) => [(2, .i x36.1), (6, .p 0 0), (8, .p 1 0), (9, .p 2 0), (10, .i x36.2.2.1), (11, .i x36.2.2.2), (53, .i n), (54, .i s31.2.2.2.2)]) (fun x36 => [(0, .box [vN, .i 0]), (1, .val (.arr 1 eI x12)), (2, .box [.o 3, .i (w64 (rank.tdiv x17))]), (3, .val (.os 1 eB x36.2.1))]) 4 g (fun x36 g => ?_) fun J37 g j37 => ?_
 refine C.nx (U.start (U.pd 2 T (C.nx ?_)))
 exact St.wk (C.next g) (Wk.a (idR 4))
 refine C.block (C.ss (U.pd 2 T (C.xs (C.ss ?_))))
 refine U.pd 4 T (C.nx ?_)
 refine C.ite rfl g (fun b42 g => ?_) fun b42 g => ?_
 refine C.ss (U.ps 3 T rfl ?_)
 obtain ⟨x45, y45, g⟩ := g
 refine U.r rfl (.none rfl) rfl rfl (by exact Rd.io T rfl rfl rfl rfl rfl rfl rfl y45) ?_
 refine U.e1 rfl (.none rfl) (by exact Eff1.se T (z' := true) rfl rfl rfl (idx_some y45).2.2 rfl rfl rfl rfl rfl rfl rfl rfl (fun _ => rfl) rfl) ?_
 refine U.done (C.nx (C.exit (C.ex (C.bex ?_))))
 exact St.wa (idR 4) (j37 _ g)
 refine C.skip (C.xt (U.pd 3 T (C.xs (C.ss ?_))))
 refine U.pd 2 T (C.nx ?_)
 refine C.ite rfl g (fun b50 g => ?_) fun b50 g => ?_
 refine C.exit (C.ex (C.bex ?_))
 exact St.wa (idR 4) (j37 _ g)
 refine C.skip (C.xt (U.ps 6 T rfl ?_))
 obtain ⟨y53, g⟩ := g
 refine U.r rfl (.none rfl) rfl rfl (by exact Rd.pi T rfl rfl rfl rfl rfl rfl y53) ?_
 obtain ⟨y54, g⟩ := g
 refine U.r rfl (.none rfl) rfl rfl (by exact Rd.pi T rfl rfl rfl rfl rfl rfl y54) ?_
 obtain ⟨x55, y55, g⟩ := g
 refine U.r rfl (.none rfl) rfl rfl (by exact Rd.la T rfl rfl rfl y55 rfl rfl rfl) ?_
 refine U.pd 1 T (C.nx ?_)
 refine C.jn (fun (x56 : Int × List Bool × Int) => [(2, .i x56.1), (6, .p 0 0), (8, .p 1 0), (9, .p 2 0), (10, .i (w64 (s31.2.2.1 - 1))), (11, .i x56.2.2), (53, .i n), (54, .i s31.2.2.2.2)]) (fun x56 => [(0, .box [vN, .i 0]), (1, .val (.arr 1 eI x12)), (2, .box [.o 3, .i (w64 (rank.tdiv x17))]), (3, .val (.os 1 eB x56.2.1))]) 4 g (fun x56 g => ?_) fun J57 g j57 => ?_
 refine C.bnx ?_
 exact St.wa (idR 4) (j37 _ g)
 refine C.ite rfl g (fun b58 g => ?_) fun b58 g => ?_
 refine C.ss (U.ps 3 T rfl ?_)
 obtain ⟨x61, y61, g⟩ := g
 refine U.r rfl (.none rfl) rfl rfl (by exact Rd.io T rfl rfl rfl rfl rfl rfl rfl y61) ?_
 refine U.e1 rfl (.none rfl) (by exact Eff1.se T (z' := true) rfl rfl rfl (idx_some y61).2.2 rfl rfl rfl rfl rfl rfl rfl rfl (fun _ => rfl) rfl) ?_
 refine U.done (C.nx (U.start (U.pd 3 T ?_)))
 exact St.wa (idR 4) (j57 _ g)
 refine U.start (U.ps 6 T rfl ?_)
 obtain ⟨y66, g⟩ := g
 refine U.r rfl (.none rfl) rfl rfl (by exact Rd.pi T rfl rfl rfl rfl rfl rfl y66) ?_
 obtain ⟨y67, g⟩ := g
 refine U.r rfl (.none rfl) rfl rfl (by exact Rd.pi T rfl rfl rfl rfl rfl rfl y67) ?_
 refine U.r rfl (.none rfl) rfl rfl (by exact Rd.la T rfl rfl rfl y55 rfl rfl rfl) ?_
 refine U.pd 2 T ?_
 exact St.wa (idR 4) (j57 _ g)
 refine C.exit (C.ex (C.ex (C.bex ?_)))
 exact St.wa [some 0, some 2, some 3] (j30 _ g)
 refine D.have false [(0, .i n), (1, .i k), (2, .i rank), (6, .p 0 0), (8, .p 1 0), (21, .b x3), (23, .p 1 0), (24, .i n), (25, .o 2), (26, .i rank), (27, .p 1 0), (28, .i n), (29, .i (w64 (n - 1))), (30, .i k), (31, .i (w64 (k - 1))), (32, .p 1 0), (33, .p 1 (0 + Int.toNat (w64 (n - 1)) * 25)), (34, .p 1 ((0 + Int.toNat (w64 (n - 1)) * 25) + Int.toNat (w64 (k - 1)) * 1)), (35, .i x17), (36, .i (w64 (rank.tdiv x17))), (37, .agg [.o 2, .i (w64 (rank.tdiv x17))])] [(0, .box [vN, .i 0]), (1, .val (.arr 1 eI x12)), (2, .val (.os 1 eB (List.replicate (Int.toNat n) false)))] 3 2 #[true, true, true, true, true, true, true, true, true, true, true, true, true, true, false, false] ?_ fun hd18_2 => ?_
 refine D.all 14 [] (by kernel_rfl) ⟨?_, trivial⟩
 refine D.ef1 rfl (.none rfl) (by exact Eff1.al T rfl rfl rfl rfl) rfl rfl ?_
 exact D.tq [0, 1, 3, 2] hd18_3
 refine D.have false [(0, .i n), (1, .i k), (2, .i rank), (6, .p 0 0), (8, .p 1 0), (9, .p 2 0), (21, .b x3), (23, .p 1 0), (24, .i n), (26, .i rank), (27, .p 1 0), (28, .i n), (29, .i (w64 (n - 1))), (30, .i k), (31, .i (w64 (k - 1))), (32, .p 1 0), (33, .p 1 (0 + Int.toNat (w64 (n - 1)) * 25)), (34, .p 1 ((0 + Int.toNat (w64 (n - 1)) * 25) + Int.toNat (w64 (k - 1)) * 1)), (35, .i x17), (36, .i (w64 (rank.tdiv x17)))] [(0, .box [vN, .i 0]), (1, .val (.arr 1 eI x12)), (2, .box [vN, .i 0])] 3 3 #[true, false, true, true, true, true, true, true, true, true, true, true, true, false, true, false] ?_ fun hd18_1 => ?_
 refine D.all 1 [] (by kernel_rfl) ⟨?_, trivial⟩
 refine D.ef1 rfl (.none rfl) (by exact Eff1.mk T (enc := eB) (z0 := false) rfl rfl rfl rfl rfl rfl rfl rfl rfl rfl y19) rfl rfl ?_
 refine D.pq 1 [(13, [])] T ?_
 exact D.tq [0, 1, 2, 3] hd18_3
 refine D.all 1 [14] (by kernel_rfl) ⟨?_, ?_, trivial⟩
 refine D.ef1 rfl (.none rfl) (by exact Eff1.mk T (enc := eB) (z0 := false) rfl rfl rfl rfl rfl rfl rfl rfl rfl rfl y19) rfl rfl ?_
 refine D.pq 1 [(13, [])] T ?_
 exact D.tq [0, 1, 2] hd18_2
 refine D.ef1 rfl (.none rfl) (by exact Eff1.al T rfl rfl rfl rfl) rfl rfl ?_
 exact D.tq [0, 1, 2] hd18_1
 refine U.start (U.ps 3 T rfl ?_)
 refine g.cs (fun b5 g => ?_) fun b5 g => ?_
 refine U.sk' 5 2 false 15 b5 ?_
 refine U.pk b5 ?_
 refine U.done ?_
 exact St.wa [some 0] (j4 _ g)
 refine U.pq 3 2 false 15 b5 T ?_
 refine U.k (T_layout_Count n k _ g) en11 (fun x6 g => ?_) (hw := .take 2 false 15 _ b5 rfl rfl rfl)
 refine U.pq 1 2 false 15 b5 T ?_
 refine U.pk' b5 ?_
 refine U.done ?_
 exact St.wa [some 0] (j4 _ g)
theorem T_floor_size (f : ApiFloor) (post : Int → Prop) (g : V_floor_size f post) :
    Tr Try.prog 68 [.agg (eApiFloor f)] [] 0 (pI post) := by
 refine Tr.go Try.func68 Try.ntmps68 fun _ _ _ _ o => ?_
 unfold V_floor_size at g
 refine C.ss (U.bx ?_)
 refine U.pd 1 T (C.xt ?_)
 refine U.pd 9 T (C.nx (C.ret ?_))
 exact C.f1 T o (pIi g)
theorem T_floor_is (f : ApiFloor) (c : Int) (post : Bool → Prop) (g : V_floor_is f c post) :
    Tr Try.prog 52 [.agg (eApiFloor f), .i c] [] 0 (pB post) := by
 refine Tr.go Try.func52 Try.ntmps52 fun _ _ _ _ o => ?_
 unfold V_floor_is at g
 refine C.ss (U.bx ?_)
 refine U.pd 1 T (C.xs ?_)
 refine C.jn (fun (x3 : Bool) => [(4, .b x3)]) (fun x3 => []) 0 g (fun x3 g => ?_) fun J4 g j4 => ?_
 refine C.nx (C.ret ?_)
 exact C.f1 T o (pBi g)
 refine U.start (U.ps 3 T rfl ?_)
 refine g.cs (fun b5 g => ?_) fun b5 g => ?_
 refine U.pq 2 2 true 7 b5 T ?_
 refine U.k (T_floor_size f _ g) en68 (fun x6 g => ?_) (hw := .take 2 true 7 _ b5 rfl rfl rfl)
 refine U.pq 1 2 true 7 b5 T ?_
 refine U.pk b5 ?_
 refine U.pd 1 T ?_
 exact St.wn (j4 _ g)
 refine U.sk' 4 2 true 7 b5 ?_
 refine U.pk' b5 ?_
 refine U.pd 1 T ?_
 exact St.wn (j4 _ g)
theorem T_floor_At (f : ApiFloor) (c : Int) (post : (Int × Int × Int) → Prop) (g : V_floor_At f c post) :
    Tr Try.prog 53 [.agg (eApiFloor f), .i c] [] 0 (fun A H' k => ∃ y, post y ∧ A = (.tup [.i y.1, .i y.2.1, .i y.2.2]) ∧ H' = [] ∧ k = 0) := by
 refine Tr.go Try.func53 Try.ntmps53 fun _ _ _ _ o => ?_
 unfold V_floor_At at g
 refine C.ss (U.bx ?_)
 refine U.pd 3 T (C.xs (C.ss ?_))
 refine U.ps 2 T rfl (U.k (T_floor_is f c _ g) en52 (fun x5 g => ?_))
 refine U.pd 1 T (C.nx ?_)
 refine C.ite rfl g (fun b6 g => ?_) fun b6 g => ?_
 refine C.ss (U.pd 3 T (C.nx (C.ret (C.rt ?_))))
 exact C.f9 T o ⟨(0, 0, 0), g, rfl, rfl, rfl⟩
 refine C.skip (C.xs (D.bq mix 9999 [0] [] (fun hQ hS ws M' => ?_)))
 refine D.pq 3 (zl [0, 1, 2]) T ?_
 obtain ⟨y11, g⟩ := g
 refine D.q 3 [] hQ hS rfl (.none rfl) rfl rfl (by exact Rd.rm rfl rfl rfl rfl y11) rfl (by kernel_rfl) ?_
 refine D.pq 3 (zl [4, 5, 6]) T ?_
 obtain ⟨y12, g⟩ := g
 refine D.q 7 [] hQ hS rfl (.none rfl) rfl rfl (by exact Rd.dv rfl rfl rfl rfl y12) rfl (by kernel_rfl) ?_
 refine D.pq 2 (zl [8, 9]) T ?_
 obtain ⟨y13, g⟩ := g
 refine D.q 10 [] hQ hS rfl (.none rfl) rfl rfl (by exact Rd.rm rfl rfl rfl rfl y13) rfl (by kernel_rfl) ?_
 refine D.pq 6 (zl [11, 12, 13, 14, 15, 16]) T ?_
 obtain ⟨y14, g⟩ := g
 refine D.q 17 [] hQ hS rfl (.none rfl) rfl rfl (by exact Rd.dv rfl rfl rfl rfl y14) rfl (by kernel_rfl) ?_
 refine D.pq 3 (zl [18, 19, 20]) T ?_
 refine D.done (by kernel_rfl) ?_
 refine C.nx (C.ret ?_)
 exact C.f9 T o ⟨(c.tmod f.W, (w64 (c.tdiv f.W)).tmod f.H, w64 (c.tdiv (w64 (f.W * f.H)))), g, rfl, rfl, rfl⟩
theorem T_floor_steps (post : Arr6FloorStep → Prop) (g : V_floor_steps post) :
    Tr Try.prog 54 [] [] 0 (fun A H' k => ∃ y, post y ∧ A = (.agg [.i y.e0.x, .i y.e0.y, .i y.e0.z, .i y.e1.x, .i y.e1.y, .i y.e1.z, .i y.e2.x, .i y.e2.y, .i y.e2.z, .i y.e3.x, .i y.e3.y, .i y.e3.z, .i y.e4.x, .i y.e4.y, .i y.e4.z, .i y.e5.x, .i y.e5.y, .i y.e5.z]) ∧ H' = [] ∧ k = 0) := by
 refine Tr.go Try.func54 Try.ntmps54 fun _ _ _ _ o => ?_
 unfold V_floor_steps at g
 refine C.ss (U.al T ?_)
 refine U.done (C.xt (U.ps 7 T rfl (U.st T ?_)))
 refine U.done (C.nx (C.ret ?_))
 exact C.f1 T o ⟨({ e0 := ({ x := 1, y := 0, z := 0 : FloorStep }), e1 := ({ x := 0, y := 1, z := 0 : FloorStep }), e2 := ({ x := (-1), y := 0, z := 0 : FloorStep }), e3 := ({ x := 0, y := (-1), z := 0 : FloorStep }), e4 := ({ x := 0, y := 0, z := 1 : FloorStep }), e5 := ({ x := 0, y := 0, z := (-1) : FloorStep }) : Arr6FloorStep }), g, rfl, rfl, rfl⟩
theorem T_floor_Cell (f : ApiFloor) (x_1 : Int) (y_1 : Int) (z : Int) (post : Int → Prop) (g : V_floor_Cell f x_1 y_1 z post) :
    Tr Try.prog 55 [.agg (eApiFloor f), .i x_1, .i y_1, .i z] [] 0 (pI post) := by
 refine Tr.go Try.func55 Try.ntmps55 fun _ _ _ _ o => ?_
 unfold V_floor_Cell at g
 refine C.ss (U.bx ?_)
 refine U.pd 1 T (C.xs (C.seq ?_))
 refine C.jn (fun (x3 : Bool) => [(1, .i x_1), (2, .i y_1), (3, .i z), (4, .p 0 0), (31, .b x3)]) (fun x3 => [(0, .box (eApiFloor f))]) 1 g (fun x3 g => ?_) fun J4 g j4 => ?_
 refine C.nx ?_
 refine C.ite rfl g (fun b8 g => ?_) fun b8 g => ?_
 refine C.ss (U.pd 1 T (C.nx (C.ret (C.rt ?_))))
 exact C.f1 T o (pIi g)
 refine C.skip (C.xt (U.pd 12 T (C.nx (C.ret ?_))))
 exact C.f1 T o (pIi g)
 refine U.start (U.ps 6 T rfl ?_)
 refine g.cs (fun b5 g => ?_) fun b5 g => ?_
 refine U.sk' 4 5 false 14 b5 ?_
 refine U.pk b5 ?_
 refine U.ps 1 T rfl (U.sk' 4 11 false 20 rfl ?_)
 refine U.pk rfl ?_
 refine U.ps 1 T rfl (U.sk' 4 17 false 26 rfl ?_)
 refine U.pk rfl ?_
 refine U.done ?_
 exact St.wa [some 0] (j4 _ g)
 refine U.pq 4 5 false 14 b5 T ?_
 refine U.pk' b5 ?_
 refine U.ps 1 T rfl ?_
 refine g.cs (fun b6 g => ?_) fun b6 g => ?_
 refine U.sk' 4 11 false 20 b6 ?_
 refine U.pk b6 ?_
 refine U.ps 1 T rfl (U.sk' 4 17 false 26 rfl ?_)
 refine U.pk rfl ?_
 refine U.done ?_
 exact St.wa [some 0] (j4 _ g)
 refine U.pq 4 11 false 20 b6 T ?_
 refine U.pk' b6 ?_
 refine U.ps 1 T rfl ?_
 refine g.cs (fun b7 g => ?_) fun b7 g => ?_
 refine U.sk' 4 17 false 26 b7 ?_
 refine U.pk b7 ?_
 refine U.done ?_
 exact St.wa [some 0] (j4 _ g)
 refine U.pq 4 17 false 26 b7 T ?_
 refine U.pk' b7 ?_
 refine U.done ?_
 exact St.wa [some 0] (j4 _ g)
theorem T_floor_beside (f : ApiFloor) (c : Int) (d : Int) (post : Int → Prop) (g : V_floor_beside f c d post) :
    Tr Try.prog 43 [.agg (eApiFloor f), .i c, .i d] [] 0 (pI post) := by
 refine Tr.go Try.func43 Try.ntmps43 fun _ _ _ _ o => ?_
 unfold V_floor_beside at g
 refine C.ss (U.bx ?_)
 refine U.pd 1 T (C.xs (C.seq ?_))
 refine C.jn (fun (x3 : Bool) => [(1, .i c), (2, .i d), (3, .p 0 0), (22, .b x3)]) (fun x3 => [(0, .box (eApiFloor f))]) 1 g (fun x3 g => ?_) fun J4 g j4 => ?_
 refine C.nx ?_
 refine C.ite rfl g (fun b8 g => ?_) fun b8 g => ?_
 refine C.ss (U.pd 1 T (C.nx (C.ret (C.rt ?_))))
 exact C.f1 T o (pIi g)
 refine C.skip (C.xt (U.ps 2 T rfl (U.k (T_floor_At f c _ g) en53 (fun x13 g => ?_))))
 refine U.pd 7 T (C.xt ?_)
 refine U.k (T_floor_steps _ g) en54 fun x16 g => ?_
 refine U.ps 1 T rfl ?_
 obtain ⟨x17, y17, g⟩ := g
 refine U.r rfl (.none rfl) rfl rfl (by exact Rd.ia T (enc := eFloorStep) rfl rfl rfl rfl rfl rfl rfl rfl rfl (fun _ _ => rfl) y17) ?_
 refine U.al T ?_
 refine U.st T ?_
 refine U.done (C.xt (U.ps 13 T rfl (U.k (T_floor_Cell f (w64 (x13.1 + x17.x)) (w64 (x13.2.1 + x17.y)) (w64 (x13.2.2 + x17.z)) _ g) en55 (fun x20 g => ?_))))
 refine U.pd 1 T (C.nx (C.ret ?_))
 exact C.f1 T o (pIi g)
 refine U.start (U.ps 2 T rfl (U.k (T_floor_is f c _ g) en52 (fun x5 g => ?_)))
 refine U.ps 2 T rfl ?_
 refine g.cs (fun b6 g => ?_) fun b6 g => ?_
 refine U.pq 2 4 false 15 (ntF b6) T ?_
 refine U.pk' (ntF b6) ?_
 refine U.ps 1 T rfl ?_
 refine g.cs (fun b7 g => ?_) fun b7 g => ?_
 refine U.sk' 2 8 false 19 b7 ?_
 refine U.pk b7 ?_
 refine U.done ?_
 exact St.wa [some 0] (j4 _ g)
 refine U.pq 2 8 false 19 b7 T ?_
 refine U.pk' b7 ?_
 refine U.done ?_
 exact St.wa [some 0] (j4 _ g)
 refine U.sk' 2 4 false 15 (ntT b6) ?_
 refine U.pk (ntT b6) ?_
 refine U.ps 1 T rfl (U.sk' 2 8 false 19 rfl ?_)
 refine U.pk rfl ?_
 refine U.done ?_
 exact St.wa [some 0] (j4 _ g)
theorem T_floor_Next (f : ApiFloor) (c : Int) (d : Int) (post : (Int × Bool) → Prop) (g : V_floor_Next f c d post) :
    Tr Try.prog 33 [.agg (eApiFloor f), .i c, .i d] [] 0 (fun A H' k => ∃ y, post y ∧ A = (.tup [.i y.1, .b y.2]) ∧ H' = [] ∧ k = 0) := by
 refine Tr.go Try.func33 Try.ntmps33 fun _ _ _ _ o => ?_
 unfold V_floor_Next at g
 refine C.ss (U.bx ?_)
 refine U.pd 2 T (C.xt ?_)
 refine U.ps 3 T rfl (U.k (T_floor_beside f c d _ g) en43 (fun x5 g => ?_))
 refine U.pd 1 T (C.xs (C.seq ?_))
 refine C.jn (fun (x6 : Bool) => [(1, .i c), (2, .i d), (3, .p 0 0), (8, .i x5), (41, .b x6)]) (fun x6 => [(0, .box (eApiFloor f))]) 1 g (fun x6 g => ?_) fun J7 g j7 => ?_
 refine C.nx ?_
 refine C.ite rfl g (fun b15 g => ?_) fun b15 g => ?_
 refine C.ss (U.pd 2 T (C.nx (C.ret (C.rt ?_))))
 exact C.f9 T o ⟨(0, false), g, rfl, rfl, rfl⟩
 refine C.skip (C.xs (C.seq ?_))
 refine C.jn (fun (x18 : Bool) => [(8, .i x5), (63, .b x18)]) (fun x18 => []) 0 g (fun x18 g => ?_) fun J19 g j19 => ?_
 refine C.nx ?_
 refine C.ite rfl g (fun b28 g => ?_) fun b28 g => ?_
 refine C.ss (U.pd 2 T (C.nx (C.ret (C.rt ?_))))
 exact C.f9 T o ⟨(0, false), g, rfl, rfl, rfl⟩
 refine C.skip (C.xt (U.pd 3 T (C.nx (C.ret ?_))))
 exact C.f9 T o ⟨(x5, true), g, rfl, rfl, rfl⟩
 refine U.start (U.ps 3 T rfl ?_)
 refine g.cs (fun b20 g => ?_) fun b20 g => ?_
 refine U.sk' 2 2 false 44 b20 ?_
 refine U.pk b20 ?_
 refine U.ps 1 T rfl (U.pq 3 6 true 48 rfl T ?_)
 obtain ⟨x21, y21, g⟩ := g
 refine U.r rfl (.tk 6 true 48 rfl) rfl rfl (by exact Rd.ix T rfl rfl rfl rfl rfl rfl y21) ?_
 refine U.pq 3 6 true 48 rfl T ?_
 refine g.cs (fun b22 g => ?_) fun b22 g => ?_
 refine U.sk' 6 13 false 55 b22 ?_
 refine U.r rfl (.tk 6 true 48 rfl) rfl rfl (by exact Rd.pk rfl rfl b22 rfl) ?_
 refine U.pk rfl ?_
 refine U.done ?_
 exact St.wn (j19 _ g)
 refine U.pq 3 13 false 55 b22 T ?_
 obtain ⟨x23, y23, g⟩ := g
 refine U.r rfl (.tk 13 false 55 b22) rfl rfl (by exact Rd.ix T rfl rfl rfl rfl rfl rfl y23) ?_
 refine U.pq 2 13 false 55 b22 T ?_
 refine U.r rfl (.tk 6 true 48 rfl) rfl rfl (by exact Rd.pk' rfl rfl b22 rfl) ?_
 refine U.pk rfl ?_
 refine U.done ?_
 exact St.wn (j19 _ g)
 refine U.pq 2 2 false 44 b20 T ?_
 refine U.pk' b20 ?_
 refine U.ps 1 T rfl ?_
 refine g.cs (fun b24 g => ?_) fun b24 g => ?_
 refine U.pq 3 6 true 48 b24 T ?_
 obtain ⟨x25, y25, g⟩ := g
 refine U.r rfl (.tk 6 true 48 b24) rfl rfl (by exact Rd.ix T rfl rfl rfl rfl rfl rfl y25) ?_
 refine U.pq 3 6 true 48 b24 T ?_
 refine g.cs (fun b26 g => ?_) fun b26 g => ?_
 refine U.sk' 6 13 false 55 b26 ?_
 refine U.r rfl (.tk 6 true 48 b24) rfl rfl (by exact Rd.pk rfl rfl b26 rfl) ?_
 refine U.pk b24 ?_
 refine U.done ?_
 exact St.wn (j19 _ g)
 refine U.pq 3 13 false 55 b26 T ?_
 obtain ⟨x27, y27, g⟩ := g
 refine U.r rfl (.tk 13 false 55 b26) rfl rfl (by exact Rd.ix T rfl rfl rfl rfl rfl rfl y27) ?_
 refine U.pq 2 13 false 55 b26 T ?_
 refine U.r rfl (.tk 6 true 48 b24) rfl rfl (by exact Rd.pk' rfl rfl b26 rfl) ?_
 refine U.pk b24 ?_
 refine U.done ?_
 exact St.wn (j19 _ g)
 refine U.sk' 7 6 true 48 b24 ?_
 refine U.sku 6 13 false 55 rfl rfl rfl ?_
 refine U.sk' 1 6 true 48 b24 ?_
 refine U.pk' b24 ?_
 refine U.done ?_
 exact St.wn (j19 _ g)
 refine U.start (U.ps 3 T rfl ?_)
 refine g.cs (fun b8 g => ?_) fun b8 g => ?_
 refine U.sk' 6 2 false 15 b8 ?_
 refine U.pk b8 ?_
 refine U.ps 1 T rfl (U.sk' 6 10 false 23 rfl ?_)
 refine U.pk rfl ?_
 refine U.ps 1 T rfl (U.sk' 9 18 false 31 rfl ?_)
 refine U.pk rfl ?_
 refine U.done ?_
 exact St.wa [some 0] (j7 _ g)
 refine U.pq 3 2 false 15 b8 T ?_
 obtain ⟨x9, y9, g⟩ := g
 refine U.r rfl (.tk 2 false 15 b8) rfl rfl (by exact Rd.ix T rfl rfl rfl rfl rfl rfl y9) ?_
 refine U.pq 2 2 false 15 b8 T ?_
 refine U.pk' b8 ?_
 refine U.ps 1 T rfl ?_
 refine g.cs (fun b10 g => ?_) fun b10 g => ?_
 refine U.sk' 6 10 false 23 b10 ?_
 refine U.pk b10 ?_
 refine U.ps 1 T rfl (U.sk' 9 18 false 31 rfl ?_)
 refine U.pk rfl ?_
 refine U.done ?_
 exact St.wa [some 0] (j7 _ g)
 refine U.pq 3 10 false 23 b10 T ?_
 obtain ⟨x11, y11, g⟩ := g
 refine U.r rfl (.tk 10 false 23 b10) rfl rfl (by exact Rd.ix T rfl rfl rfl rfl rfl rfl y11) ?_
 refine U.pq 2 10 false 23 b10 T ?_
 refine U.pk' b10 ?_
 refine U.ps 1 T rfl ?_
 refine g.cs (fun b12 g => ?_) fun b12 g => ?_
 refine U.sk' 9 18 false 31 b12 ?_
 refine U.pk b12 ?_
 refine U.done ?_
 exact St.wa [some 0] (j7 _ g)
 refine U.pq 3 18 false 31 b12 T ?_
 obtain ⟨x13, y13, g⟩ := g
 refine U.r rfl (.tk 18 false 31 b12) rfl rfl (by exact Rd.ix T rfl rfl rfl rfl rfl rfl y13) ?_
 refine U.pq 2 18 false 31 b12 T ?_
 obtain ⟨y14, g⟩ := g
 refine U.r rfl (.tk 18 false 31 b12) rfl rfl (by exact Rd.sh rfl rfl rfl rfl y14) ?_
 refine U.pq 2 18 false 31 b12 T ?_
 refine U.pk' b12 ?_
 refine U.done ?_
 exact St.wa [some 0] (j7 _ g)
theorem T_cmp_isNaN_int (x_1 : Int) (post : Bool → Prop) (g : V_cmp_isNaN_int x_1 post) :
    Tr Try.prog 56 [.i x_1] [] 0 (pB post) := by
 refine Tr.go Try.func56 Try.ntmps56 fun _ _ _ _ o => ?_
 unfold V_cmp_isNaN_int at g
 refine C.ss (U.pd 1 T (C.xt ?_))
 refine U.pd 4 T (C.nx (C.ret ?_))
 exact C.f1 T o (pBi g)
theorem T_cmp_Less_int (x_1 : Int) (y_1 : Int) (post : Bool → Prop) (g : V_cmp_Less_int x_1 y_1 post) :
    Tr Try.prog 44 [.i x_1, .i y_1] [] 0 (pB post) := by
 refine Tr.go Try.func44 Try.ntmps44 fun _ _ _ _ o => ?_
 unfold V_cmp_Less_int at g
 refine C.ss (U.pd 1 T (C.xs ?_))
 refine C.jn (fun (x3 : Bool) => [(4, .b x3)]) (fun x3 => []) 0 g (fun x3 g => ?_) fun J4 g j4 => ?_
 refine C.nx (C.ret ?_)
 exact C.f1 T o (pBi g)
 refine U.start (U.ps 1 T rfl (U.k (T_cmp_isNaN_int x_1 _ g) en56 (fun x5 g => ?_)))
 refine U.ps 1 T rfl ?_
 refine g.cs (fun b6 g => ?_) fun b6 g => ?_
 refine U.pq 1 2 true 7 b6 T ?_
 refine U.k (T_cmp_isNaN_int y_1 _ g) en56 (fun x7 g => ?_) (hw := .take 2 true 7 _ b6 rfl rfl rfl)
 refine U.pq 1 2 true 7 b6 T ?_
 refine U.pk b6 ?_
 refine U.ps 1 T rfl ?_
 refine g.cs (fun b8 g => ?_) fun b8 g => ?_
 refine U.pq 3 7 false 12 (ntF b8) T ?_
 refine U.pk' (ntF b8) ?_
 refine U.pd 1 T ?_
 exact St.wn (j4 _ g)
 refine U.sk' 3 7 false 12 (ntT b8) ?_
 refine U.pk (ntT b8) ?_
 refine U.pd 1 T ?_
 exact St.wn (j4 _ g)
 refine U.sk' 3 2 true 7 b6 ?_
 refine U.pk' b6 ?_
 refine U.ps 1 T rfl (U.pq 3 7 false 12 rfl T ?_)
 refine U.pk' rfl ?_
 refine U.pd 1 T ?_
 exact St.wn (j4 _ g)
theorem T_slices_isNaN_int (x_1 : Int) (post : Bool → Prop) (g : V_slices_isNaN_int x_1 post) :
    Tr Try.prog 45 [.i x_1] [] 0 (pB post) := by
 refine Tr.go Try.func45 Try.ntmps45 fun _ _ _ _ o => ?_
 unfold V_slices_isNaN_int at g
 refine C.ss (U.pd 1 T (C.xt ?_))
 refine U.pd 4 T (C.nx (C.ret ?_))
 exact C.f1 T o (pBi g)
theorem T_slices_BinarySearch_int_int (x_1 : List Int) (target : Int) (post : (Int × Bool) → Prop) (g : V_slices_BinarySearch_int_int x_1 target post) :
    Tr Try.prog 34 [.sl 1 eI x_1, .i target] [] 0 (fun A H' k => ∃ y, post y ∧ A = (.tup [.i y.1, .b y.2]) ∧ H' = [] ∧ k = 0) := by
 refine Tr.go Try.func34 Try.ntmps34 fun _ _ _ _ o => ?_
 unfold V_slices_BinarySearch_int_int at g
 refine C.ss (U.pd 2 T (C.xt ?_))
 refine U.pd 3 T (C.xt ?_)
 refine U.pd 3 T (C.xs ?_)
 refine C.jn (fun (x7 : Int) => [(0, .sl 1 eI x_1), (1, .i target), (6, .i (x_1.length : Int)), (7, .i x7)]) (fun x7 => []) 0 g (fun x7 g => ?_) fun J8 g j8 => ?_
 refine C.xs ?_
 refine C.jn (fun (x28 : Bool) => [(4, .i x7), (5, .b x28)]) (fun x28 => []) 0 g (fun x28 g => ?_) fun J29 g j29 => ?_
 refine C.nx (C.ret ?_)
 exact C.f9 T o ⟨(x7, x28), g, rfl, rfl, rfl⟩
 refine U.start (U.ps 5 T rfl ?_)
 refine g.cs (fun b30 g => ?_) fun b30 g => ?_
 refine U.pq 2 4 true 35 b30 T ?_
 obtain ⟨x31, y31, g⟩ := g
 refine U.r rfl (.tk 4 true 35 b30) rfl rfl (by exact Rd.ix T rfl rfl rfl rfl rfl rfl y31) ?_
 refine U.pq 4 4 true 35 b30 T ?_
 refine g.cs (fun b32 g => ?_) fun b32 g => ?_
 refine U.sk' 6 11 false 42 b32 ?_
 refine U.sku 2 17 true 48 rfl rfl rfl ?_
 refine U.sk' 1 11 false 42 b32 ?_
 refine U.r rfl (.tk 4 true 35 b30) rfl rfl (by exact Rd.pk rfl rfl b32 rfl) ?_
 refine U.pk b30 ?_
 refine U.pd 2 T ?_
 exact St.wn (j29 _ g)
 refine U.pq 2 11 false 42 b32 T ?_
 refine U.r rfl (.tk 11 false 42 b32) rfl rfl (by exact Rd.ix T rfl rfl rfl rfl rfl rfl y31) ?_
 refine U.pq 1 11 false 42 b32 T ?_
 refine U.k (T_slices_isNaN_int x31 _ g) en45 (fun x33 g => ?_) (hw := .take 11 false 42 _ b32 rfl rfl rfl)
 refine U.pq 1 11 false 42 b32 T ?_
 refine g.cs (fun b34 g => ?_) fun b34 g => ?_
 refine U.pq 1 17 true 48 b34 T ?_
 refine U.k (T_slices_isNaN_int target _ g) en45 (fun x35 g => ?_) (hw := .take 17 true 48 _ b34 rfl rfl rfl)
 refine U.r rfl (.tk 11 false 42 b32) rfl rfl (by exact Rd.pk rfl rfl b34 rfl) ?_
 refine U.r rfl (.tk 4 true 35 b30) rfl rfl (by exact Rd.pk' rfl rfl b32 rfl) ?_
 refine U.pk b30 ?_
 refine U.pd 2 T ?_
 exact St.wn (j29 _ g)
 refine U.sk' 2 17 true 48 b34 ?_
 refine U.r rfl (.tk 11 false 42 b32) rfl rfl (by exact Rd.pk' rfl rfl b34 rfl) ?_
 refine U.r rfl (.tk 4 true 35 b30) rfl rfl (by exact Rd.pk' rfl rfl b32 rfl) ?_
 refine U.pk b30 ?_
 refine U.pd 2 T ?_
 exact St.wn (j29 _ g)
 refine U.sk' 7 4 true 35 b30 ?_
 refine U.sku 6 11 false 42 rfl rfl rfl ?_
 refine U.sku 2 17 true 48 rfl rfl rfl ?_
 refine U.sku 1 11 false 42 rfl rfl rfl ?_
 refine U.sk' 1 4 true 35 b30 ?_
 refine U.pk' b30 ?_
 refine U.pd 2 T ?_
 exact St.wn (j29 _ g)
 refine C.block (St.wk (C.loop (fun (s9 : Int × Int) => [(0, .sl 1 eI x_1), (1, .i target), (6, .i (x_1.length : Int)), (7, .i s9.1), (8, .i s9.2)]) (fun s9 => []) g (fun s9 Y10 g => ?_)) (Wk.e))
 refine C.seq (C.ss (U.pd 3 T (C.nx ?_)))
 refine C.ite rfl g (fun b13 g => ?_) fun b13 g => ?_
 refine C.skip (C.nx (C.block (C.ss (U.ps 4 T rfl (U.r rfl (.none rfl) rfl rfl (by exact Rd.sh rfl rfl rfl rfl (by decide)) ?_)))))
 refine U.pd 2 T (C.xt ?_)
 refine U.ps 2 T rfl ?_
 obtain ⟨x19, y19, g⟩ := g
 refine U.ix T y19 ?_
 refine U.ps 2 T rfl (U.k (T_cmp_Less_int x19 target _ g) en44 (fun x20 g => ?_))
 refine U.done (C.nx ?_)
 refine C.jn (fun (x21 : Int × Int) => [(0, .sl 1 eI x_1), (1, .i target), (6, .i (x_1.length : Int)), (7, .i x21.1), (8, .i x21.2)]) (fun x21 => []) 0 g (fun x21 g => ?_) fun J22 g j22 => ?_
 refine C.bnx (C.nx ?_)
 exact St.wk (C.next g) (Wk.e)
 refine C.ite rfl g (fun b23 g => ?_) fun b23 g => ?_
 refine U.start (U.pd 3 T ?_)
 exact St.wn (j22 _ g)
 refine U.start (U.pd 2 T ?_)
 exact St.wn (j22 _ g)
 refine C.exit (C.ex (C.ex (C.bex ?_)))
 exact St.wn (j8 _ g)
theorem T_layout_shifts_1 (a : ApiShift) (b : ApiShift) (post : Int → Prop) (g : V_layout_shifts_1 a b post) :
    Tr Try.prog 36 [.agg [.i a.From, .i a.To], .agg [.i b.From, .i b.To]] [] 0 (pI post) := by
 refine Tr.go Try.func36 Try.ntmps36 fun _ _ _ _ o => ?_
 unfold V_layout_shifts_1 at g
 refine C.ss (U.bx ?_)
 refine U.bx ?_
 refine U.pd 1 T (C.xs (C.ss ?_))
 refine U.pd 5 T (C.nx ?_)
 refine C.ite rfl g (fun b5 g => ?_) fun b5 g => ?_
 refine C.ss (U.pd 6 T (C.nx (C.ret (C.rt ?_))))
 exact C.f1 T o (pIi g)
 refine C.skip (C.xt (U.pd 6 T (C.nx (C.ret ?_))))
 exact C.f1 T o (pIi g)
def slR35 : Go.Shelf.Ren := ⟨fun | 6 => 35 | 14 => 46 | 15 => 47 | 20 => 57 | 21 => 58 | 22 => 59 | 23 => 60 | 24 => 61 | 25 => 62 | 26 => 63 | 27 => 64 | 28 => 65 | 29 => 66 | 46 => 69 | 47 => 70 | 48 => 71 | 49 => 72 | 50 => 73 | 57 => 74 | n => n, fun | 0 => 0 | 3 => 3 | 4 => 4 | 5 => 5 | 9 => 9 | 22 => 22 | 24 => 28 | 25 => 85 | 39 => 87 | 45 => 117 | 46 => 118 | 50 => 77 | 53 => 101 | 55 => 104 | 66 => 127 | 70 => 131 | 76 => 133 | 77 => 134 | n => n, fun n => n⟩
theorem slL35 : SlLaysF0.n6 Try.prog slR35 where
  mixed := by kernel_rfl
  f6 := ⟨Try.f35.name, by decide, Try.func35.trans (congrArg some (by kernel_rfl))⟩
  f14 := ⟨Try.f46.name, by decide, Try.func46.trans (congrArg some (by kernel_rfl))⟩
  f15 := Try.func47.trans (congrArg some (by kernel_rfl))
  f20 := ⟨Try.f57.name, by decide, Try.func57.trans (congrArg some (by kernel_rfl))⟩
  f21 := ⟨Try.f58.name, by decide, Try.func58.trans (congrArg some (by kernel_rfl))⟩
  f22 := ⟨Try.f59.name, by decide, Try.func59.trans (congrArg some (by kernel_rfl))⟩
  f23 := ⟨Try.f60.name, by decide, Try.func60.trans (congrArg some (by kernel_rfl))⟩
  f24 := ⟨Try.f61.name, by decide, Try.func61.trans (congrArg some (by kernel_rfl))⟩
  f25 := ⟨Try.f62.name, by decide, Try.func62.trans (congrArg some (by kernel_rfl))⟩
  f26 := ⟨Try.f63.name, by decide, Try.func63.trans (congrArg some (by kernel_rfl))⟩
  f27 := ⟨Try.f64.name, by decide, Try.func64.trans (congrArg some (by kernel_rfl))⟩
  f28 := Try.func65.trans (congrArg some (by kernel_rfl))
  f29 := Try.func66.trans (congrArg some (by kernel_rfl))
  f46 := ⟨Try.f69.name, by decide, Try.func69.trans (congrArg some (by kernel_rfl))⟩
  f47 := Try.func70.trans (congrArg some (by kernel_rfl))
  f48 := Try.func71.trans (congrArg some (by kernel_rfl))
  f49 := ⟨Try.f72.name, by decide, Try.func72.trans (congrArg some (by kernel_rfl))⟩
  f50 := ⟨Try.f73.name, by decide, Try.func73.trans (congrArg some (by kernel_rfl))⟩
  f57 := ⟨Try.f74.name, by decide, Try.func74.trans (congrArg some (by kernel_rfl))⟩
  t0 := Try.underlying0
  a0 := Try.isAgg0
  z0 := Try.sizeOf0
  v0 := Try.zeroValue0
  t3 := Try.underlying3
  a3 := Try.isAgg3
  z3 := Try.sizeOf3
  v3 := Try.zeroValue3
  t4 := Try.underlying4
  a4 := Try.isAgg4
  z4 := Try.sizeOf4
  v4 := Try.zeroValue4
  t5 := Try.underlying5
  a5 := Try.isAgg5
  z5 := Try.sizeOf5
  v5 := Try.zeroValue5
  t9 := Try.underlying9
  a9 := Try.isAgg9
  z9 := Try.sizeOf9
  v9 := Try.zeroValue9
  t22 := Try.underlying22
  a22 := Try.isAgg22
  z22 := Try.sizeOf22
  v22 := Try.zeroValue22
  t25 := Try.underlying85
  a25 := Try.isAgg85
  z25 := Try.sizeOf85
  v25 := Try.zeroValue85
  t39 := Try.underlying87
  a39 := Try.isAgg87
  z39 := Try.sizeOf87
  v39 := Try.zeroValue87
  t45 := Try.underlying117
  a45 := Try.isAgg117
  z45 := Try.sizeOf117
  v45 := Try.zeroValue117
  t46 := Try.underlying118
  a46 := Try.isAgg118
  z46 := Try.sizeOf118
  v46 := Try.zeroValue118
  t50 := Try.underlying77
  a50 := Try.isAgg77
  z50 := Try.sizeOf77
  v50 := Try.zeroValue77
  t53 := Try.underlying101
  a53 := Try.isAgg101
  z53 := Try.sizeOf101
  v53 := Try.zeroValue101
  t55 := Try.underlying104
  a55 := Try.isAgg104
  z55 := Try.sizeOf104
  v55 := Try.zeroValue104
  t66 := Try.underlying127
  a66 := Try.isAgg127
  z66 := Try.sizeOf127
  v66 := Try.zeroValue127
  t70 := Try.underlying131
  a70 := Try.isAgg131
  z70 := Try.sizeOf131
  v70 := Try.zeroValue131
  t76 := Try.underlying133
  a76 := Try.isAgg133
  z76 := Try.sizeOf133
  v76 := Try.zeroValue133
  t77 := Try.underlying134
  a77 := Try.isAgg134
  z77 := Try.sizeOf134
  v77 := Try.zeroValue134
theorem T_slices_SortFunc_api_Shift_api_Shift__o0_layout_shifts_1 (p0 : List ApiShift) (post : List ApiShift → Prop) (g : V_slices_SortFunc_api_Shift_api_Shift__o0_layout_shifts_1 p0 post) :
    Tr Try.prog 35 [.o 0, .fn (.func 36) [] []] [(0, .val (.os 2 eApiShift p0))] 1 (fun A H' k => ∃ y, post y ∧ A = (.tup []) ∧ H' = [(0, .val (.os 2 eApiShift y))] ∧ k = 1) := by
 unfold V_slices_SortFunc_api_Shift_api_Shift__o0_layout_shifts_1 at g
 obtain ⟨p, cf, h0, hO, hp, hcmp, hsz, hpost⟩ := g
 exact Tr.sortFuncP (k := 2) slL35 Try.isAgg28 Try.sizeOf28 (fun _ => rfl) (fun _ => rfl) en36 h0 hO p0 hp (fun x y hx hy => T_layout_shifts_1 x y _ (hcmp x y hx hy)) hsz hpost
theorem T_slices_Compact_api_Shift_api_Shift__o0 (s_1 : List ApiShift) (post : (List ApiShift) → Prop) (g : V_slices_Compact_api_Shift_api_Shift__o0 s_1 post) :
    Tr Try.prog 37 [.o 0] [(0, .val (.os 2 eApiShift s_1))] 1 (fun A H' k => ∃ y, post y ∧ A = (.o 1) ∧ H' = [(1, .val (.os 2 eApiShift y))] ∧ k = 2) := by
 refine Tr.go Try.func37 Try.ntmps37 fun _ _ _ _ o => ?_
 unfold V_slices_Compact_api_Shift_api_Shift__o0 at g
 refine C.ss (U.pd 1 T (C.xs (C.ss ?_)))
 refine U.pd 3 T (C.nx ?_)
 refine C.ite rfl g (fun b5 g => ?_) fun b5 g => ?_
 refine C.ss (U.pd 2 T (C.nx (C.ret (C.rt ?_))))
 exact C.g1 [some 0, some 0] T o ⟨s_1, g, rfl, rfl, rfl⟩
 refine C.skip (C.xs (C.ss (U.pd 1 T (C.nx ?_))))
 refine C.jn (fun (x10 : Unit) => [(0, .o 0)]) (fun x10 => [(0, .val (.os 2 eApiShift s_1))]) 1 g (fun x10 g => ?_) fun J11 g j11 => ?_
 refine C.xt (U.pd 2 T (C.nx (C.ret ?_)))
 exact C.g1 [some 0, some 0] T o ⟨s_1, g, rfl, rfl, rfl⟩
 refine C.block (St.wk (C.loop (fun (s12 : Int) => [(0, .o 0), (3, .i s12)]) (fun s12 => [(0, .val (.os 2 eApiShift s_1))]) g (fun s12 Y13 g => ?_)) (Wk.a [some 0]))
 refine C.seq (C.ss (U.pd 4 T (C.nx ?_)))
 refine C.ite rfl g (fun b16 g => ?_) fun b16 g => ?_
 refine C.skip (C.xs ?_)
 refine C.jn (fun (x17 : Unit) => [(0, .o 0), (3, .i s12)]) (fun x17 => [(0, .val (.os 2 eApiShift s_1))]) 1 g (fun x17 g => ?_) fun J18 g j18 => ?_
 refine C.nx (U.start (U.pd 3 T (C.nx ?_)))
 exact St.wk (C.next g) (Wk.a [some 0])
 refine C.block (C.seq (D.bq mix 9999 [0] [] (fun hQ hS ws M' => ?_)))
 refine D.pq 2 (zl [0, 1]) T ?_
 obtain ⟨x21, y21, g⟩ := g
 refine D.q 2 [] hQ hS rfl (.none rfl) rfl rfl (by exact Rd.io T rfl rfl rfl rfl rfl rfl rfl y21) rfl (by kernel_rfl) ?_
 refine D.q 3 [] hQ hS rfl (.none rfl) rfl rfl (by exact Rd.le T rfl rfl rfl (idx_some y21).2.2 rfl rfl rfl) rfl (by kernel_rfl) ?_
 refine D.pq 3 (zl [4, 5, 6]) T ?_
 obtain ⟨x22, y22, g⟩ := g
 refine D.q 7 [] hQ hS rfl (.none rfl) rfl rfl (by exact Rd.io T rfl rfl rfl rfl rfl rfl rfl y22) rfl (by kernel_rfl) ?_
 refine D.q 8 [] hQ hS rfl (.none rfl) rfl rfl (by exact Rd.le T rfl rfl rfl (idx_some y22).2.2 rfl rfl rfl) rfl (by kernel_rfl) ?_
 refine D.q 9 [] hQ hS rfl (.none rfl) rfl rfl (by exact Rd.eqs T rfl rfl eqt28 rfl rfl rfl) rfl (by kernel_rfl) ?_
 refine D.done (by kernel_rfl) ?_
 refine C.nx ?_
 refine C.ite rfl g (fun b23 g => ?_) fun b23 g => ?_
 refine C.ss (U.ps 2 T rfl ?_)
 obtain ⟨y26, g⟩ := g
 refine U.r rfl (.none rfl) rfl rfl (by exact Rd.vw T rfl rfl rfl rfl rfl rfl (.some _ rfl) (.none _) y26) ?_
 refine U.pd 1 T (C.xs (C.ss ?_))
 refine U.pd 1 T (C.nx ?_)
 refine C.jn (fun (x29 : List ApiShift × Int) => [(0, .o 0), (3, .i x29.2)]) (fun x29 => [(0, .val (.os 2 eApiShift x29.1))]) 1 g (fun x29 g => ?_) fun J30 g j30 => ?_
 refine C.xt (U.ps 2 T rfl ?_)
 obtain ⟨y55, g⟩ := g
 refine U.r rfl (.none rfl) rfl rfl (by exact Rd.vw T rfl rfl rfl rfl rfl rfl (.some _ rfl) (.none _) y55) ?_
 obtain ⟨y56, g⟩ := g
 refine U.e1 rfl (.none rfl) (by exact Eff1.clv T (z0 := ({ From := 0, To := 0 : ApiShift })) rfl rfl rfl rfl rfl rfl rfl (fun _ => rfl) rfl y56) ?_
 refine U.done (C.xt (U.ps 2 T rfl ?_))
 obtain ⟨y59, g⟩ := g
 refine U.e1 rfl (.none rfl) (by exact Eff1.sw T rfl rfl rfl rfl rfl rfl rfl rfl (.none _) (.some _ rfl) y59) ?_
 refine U.pd 1 T (C.nx (C.ret (C.brt (C.rt (C.rt (C.brt (C.rt ?_)))))))
 exact C.g1 (idR 2) T o ⟨(sub (x29.1.take (Int.toNat x29.2) ++ (List.replicate (Int.toNat ((x29.1.length : Int) - x29.2)) ({ From := 0, To := 0 : ApiShift }) ++ x29.1.drop ((Int.toNat x29.2) + (Int.toNat ((x29.1.length : Int) - x29.2))))) 0 x29.2), g, rfl, rfl, rfl⟩
 refine C.block (St.wk (C.loop (fun (s31 : List ApiShift × Int × Int) => [(0, .o 0), (3, .i s31.2.1), (4, .vw 0 2 (Int.toNat s12) (Int.toNat ((s_1.length : Int) - s12))), (5, .i s31.2.2)]) (fun s31 => [(0, .val (.os 2 eApiShift s31.1))]) g (fun s31 Y32 g => ?_)) (Wk.a [some 0]))
 refine C.seq (C.ss (U.ps 2 T rfl (U.r rfl (.none rfl) rfl rfl (by exact Rd.vl T rfl rfl rfl) ?_)))
 refine U.pd 1 T (C.nx ?_)
 refine C.ite rfl g (fun b35 g => ?_) fun b35 g => ?_
 refine C.skip (C.xs (C.block (C.seq (D.bq mix 9999 [0] [] (fun hQ hS ws M' => ?_)))))
 refine D.pq 2 (zl [0, 1]) T ?_
 obtain ⟨y38, g⟩ := g
 refine D.q 2 [] hQ hS rfl (.none rfl) rfl rfl (by exact Rd.vi T rfl rfl rfl rfl rfl rfl y38) rfl (by kernel_rfl) ?_
 obtain ⟨x39, y39, g⟩ := g
 refine D.q 3 [] hQ hS rfl (.none rfl) rfl rfl (by exact Rd.le T rfl rfl rfl y39 rfl rfl rfl) rfl (by kernel_rfl) ?_
 refine D.pq 3 (zl [4, 5, 6]) T ?_
 obtain ⟨y40, g⟩ := g
 refine D.q 7 [] hQ hS rfl (.none rfl) rfl rfl (by exact Rd.vi T rfl rfl rfl rfl rfl rfl y40) rfl (by kernel_rfl) ?_
 obtain ⟨x41, y41, g⟩ := g
 refine D.q 8 [] hQ hS rfl (.none rfl) rfl rfl (by exact Rd.le T rfl rfl rfl y41 rfl rfl rfl) rfl (by kernel_rfl) ?_
 refine D.q 9 [] hQ hS rfl (.none rfl) rfl rfl (by exact Rd.nes T rfl rfl eqt28 rfl rfl rfl) rfl (by kernel_rfl) ?_
 refine D.done (by kernel_rfl) ?_
 refine C.nx ?_
 refine C.jn (fun (x42 : List ApiShift × Int) => [(0, .o 0), (3, .i x42.2), (4, .vw 0 2 (Int.toNat s12) (Int.toNat ((s_1.length : Int) - s12))), (5, .i s31.2.2)]) (fun x42 => [(0, .val (.os 2 eApiShift x42.1))]) 1 g (fun x42 g => ?_) fun J43 g j43 => ?_
 refine C.bnx (C.nx (U.start (U.pd 3 T (C.nx ?_))))
 exact St.wk (C.next g) (Wk.a [some 0])
 refine C.ite rfl g (fun b44 g => ?_) fun b44 g => ?_
 refine C.ss (U.ps 4 T rfl ?_)
 obtain ⟨y47, g⟩ := g
 refine U.r rfl (.none rfl) rfl rfl (by exact Rd.vi T rfl rfl rfl rfl rfl rfl y47) ?_
 refine U.r rfl (.none rfl) rfl rfl (by exact Rd.le T rfl rfl rfl y39 rfl rfl rfl) ?_
 obtain ⟨x48, y48, g⟩ := g
 refine U.r rfl (.none rfl) rfl rfl (by exact Rd.io T rfl rfl rfl rfl rfl rfl rfl y48) ?_
 refine U.e1 rfl (.none rfl) (by exact Eff1.se T (z' := x39) rfl rfl rfl (idx_some y48).2.2 rfl rfl rfl rfl rfl rfl rfl rfl (fun _ => rfl) rfl) ?_
 refine U.done (C.nx (U.start (U.pd 3 T ?_)))
 exact St.wa [some 0] (j43 _ g)
 refine C.skip ?_
 exact St.wa [some 0] (j43 _ g)
 refine C.exit (C.ex (C.ex (C.bex ?_)))
 exact St.wa [some 0] (j30 _ g)
 refine C.skip (C.bnx ?_)
 exact St.wa [some 0] (j18 _ g)
 refine C.exit (C.ex (C.ex (C.bex ?_)))
 exact St.wa [some 0] (j11 _ g)
theorem T_layout_shifts (f : ApiFloor) (r : List Int) (l : ApiLayout) (full : Bool) (post : (List ApiShift) → Prop) (g : V_layout_shifts f r l full post) :
    Tr Try.prog 23 [.agg (eApiFloor f), .sl 1 eI r, .agg [.sl 1 eB l.Full, .i l.Target], .b full] [] 0 (fun A H' k => ∃ y, post y ∧ A = (.o 0) ∧ H' = [(0, .val (.os 2 eApiShift y))] ∧ k = 1) := by
 refine Tr.go Try.func23 Try.ntmps23 fun _ _ _ _ o => ?_
 unfold V_layout_shifts at g
 refine C.ss (U.bx ?_)
 refine U.bx ?_
 refine U.pd 1 T (C.xt ?_)
 refine U.pd 1 T (C.xs (C.ss ?_))
 refine U.pd 3 T (C.nx ?_)
 refine C.jn (fun (x7 : List ApiShift) => [(9, .o 0)]) (fun x7 => [(0, .val (.os 2 eApiShift x7))]) 1 g (fun x7 g => ?_) fun J8 g j8 => ?_
 refine C.xt (U.ps 1 T rfl (U.c [some 0] (T_slices_SortFunc_api_Shift_api_Shift__o0_layout_shifts_1 x7 _ g) en35 (fun x61 g => ?_)))
 refine U.done (C.xt (U.ps 1 T rfl (U.c [some 0] (T_slices_Compact_api_Shift_api_Shift__o0 x61 _ g) en37 (fun x64 g => ?_))))
 refine U.pd 1 T (C.nx (C.ret ?_))
 exact C.g1 [some 3] T o ⟨x64, g, rfl, rfl, rfl⟩
 refine C.block ?_
 refine St.wk (C.loop (fun (s9 : List ApiShift × Int) => [(1, .sl 1 eI r), (3, .b full), (4, .p 0 0), (6, .p 1 0), (9, .o 2), (17, .sl 1 eI r), (18, .i (r.length : Int)), (19, .i s9.2)]) (fun s9 => [(0, .box (eApiFloor f)), (1, .box [.sl 1 eB l.Full, .i l.Target]), (2, .val (.os 2 eApiShift s9.1))]) g (fun s9 Y10 g => ?_)) (Wk.mk' [some 0, some 1, none] rfl rfl ⟨⟨_, rfl, (.eq rfl)⟩, ⟨_, rfl, (.eq rfl)⟩, ⟨_, rfl, (.eq rfl)⟩, ⟨_, rfl, (.eq rfl)⟩, ⟨_, rfl, (.nilO _ _ ⟨rfl, rfl⟩ rfl)⟩, ChkG.eqs rfl⟩ ⟨bX, bX, ⟨_, rfl, .nil _ _⟩, trivial⟩ rfl)
 refine C.ss (U.pd 1 T (C.xs ?_))
 refine C.ite rfl g (fun b13 g => ?_) fun b13 g => ?_
 refine C.skip (C.xs ?_)
 refine C.jn (fun (x14 : List ApiShift) => [(1, .sl 1 eI r), (3, .b full), (4, .p 0 0), (6, .p 1 0), (9, .o 2), (17, .sl 1 eI r), (18, .i (r.length : Int)), (19, .i s9.2)]) (fun x14 => [(0, .box (eApiFloor f)), (1, .box [.sl 1 eB l.Full, .i l.Target]), (2, .val (.os 2 eApiShift x14))]) 3 g (fun x14 g => ?_) fun J15 g j15 => ?_
 refine C.nx (U.start (U.pd 2 T (C.nx ?_)))
 exact St.wk (C.next g) (Wk.a (idR 3))
 refine C.block (C.ss (U.ps 1 T rfl ?_))
 obtain ⟨x18, y18, g⟩ := g
 refine U.ix T y18 ?_
 refine U.pd 3 T (C.xs (C.ss ?_))
 refine U.ps 3 T rfl ?_
 obtain ⟨x21, y21, g⟩ := g
 refine U.ix T y21 ?_
 refine U.pd 3 T (C.nx ?_)
 refine C.ite rfl g (fun b22 g => ?_) fun b22 g => ?_
 refine C.exit (C.ex (C.bex ?_))
 exact St.wa (idR 3) (j15 _ g)
 refine C.skip (C.xt (U.pd 1 T (C.nx ?_)))
 refine C.jn (fun (x25 : List ApiShift) => [(1, .sl 1 eI r), (3, .b full), (4, .p 0 0), (6, .p 1 0), (9, .o 2), (17, .sl 1 eI r), (18, .i (r.length : Int)), (19, .i s9.2)]) (fun x25 => [(0, .box (eApiFloor f)), (1, .box [.sl 1 eB l.Full, .i l.Target]), (2, .val (.os 2 eApiShift x25))]) 3 g (fun x25 g => ?_) fun J26 g j26 => ?_
 refine C.bnx ?_
 exact St.wa (idR 3) (j15 _ g)
 refine C.block ?_
 refine St.wk (C.loop (fun (s27 : List ApiShift × Int) => [(1, .sl 1 eI r), (3, .b full), (4, .p 0 0), (6, .p 1 0), (9, .o 2), (10, .i s9.2), (11, .i x18), (17, .sl 1 eI r), (18, .i (r.length : Int)), (19, .i s9.2), (31, .i s27.2)]) (fun s27 => [(0, .box (eApiFloor f)), (1, .box [.sl 1 eB l.Full, .i l.Target]), (2, .val (.os 2 eApiShift s27.1))]) g (fun s27 Y28 g => ?_)) (Wk.a (idR 3))
 refine C.ss (U.pd 1 T (C.xs ?_))
 refine C.ite rfl g (fun b31 g => ?_) fun b31 g => ?_
 refine C.skip (C.xs ?_)
 refine C.jn (fun (x32 : List ApiShift) => [(1, .sl 1 eI r), (3, .b full), (4, .p 0 0), (6, .p 1 0), (9, .o 2), (10, .i s9.2), (11, .i x18), (17, .sl 1 eI r), (18, .i (r.length : Int)), (19, .i s9.2), (31, .i s27.2)]) (fun x32 => [(0, .box (eApiFloor f)), (1, .box [.sl 1 eB l.Full, .i l.Target]), (2, .val (.os 2 eApiShift x32))]) 3 g (fun x32 g => ?_) fun J33 g j33 => ?_
 refine C.nx (U.start (U.pd 2 T (C.nx ?_)))
 exact St.wk (C.next g) (Wk.a (idR 3))
 refine C.block (C.ss (U.pd 2 T (C.xt ?_)))
 refine U.ps 3 T rfl (U.k (T_floor_Next f x18 s27.2 _ g) en33 (fun x38 g => ?_))
 refine U.pd 5 T (C.xs (C.ss ?_))
 refine U.pd 2 T (C.nx ?_)
 refine C.ite rfl g (fun b41 g => ?_) fun b41 g => ?_
 refine C.exit (C.ex (C.bex ?_))
 exact St.wa (idR 3) (j33 _ g)
 refine C.skip (C.xt (U.ps 2 T rfl (U.k (T_slices_BinarySearch_int_int r x38.1 _ g) en34 (fun x44 g => ?_))))
 refine U.pd 5 T (C.xs ?_)
 refine C.jn (fun (x45 : Bool) => [(1, .sl 1 eI r), (3, .b full), (4, .p 0 0), (6, .p 1 0), (9, .o 2), (10, .i s9.2), (11, .i x18), (15, .i x44.1), (17, .sl 1 eI r), (18, .i (r.length : Int)), (19, .i s9.2), (31, .i s27.2), (58, .b x45)]) (fun x45 => [(0, .box (eApiFloor f)), (1, .box [.sl 1 eB l.Full, .i l.Target]), (2, .val (.os 2 eApiShift s27.1))]) 3 g (fun x45 g => ?_) fun J46 g j46 => ?_
 refine C.nx ?_
 refine C.jn (fun (x49 : List ApiShift) => [(1, .sl 1 eI r), (3, .b full), (4, .p 0 0), (6, .p 1 0), (9, .o 2), (10, .i s9.2), (11, .i x18), (17, .sl 1 eI r), (18, .i (r.length : Int)), (19, .i s9.2), (31, .i s27.2)]) (fun x49 => [(0, .box (eApiFloor f)), (1, .box [.sl 1 eB l.Full, .i l.Target]), (2, .val (.os 2 eApiShift x49))]) 3 g (fun x49 g => ?_) fun J50 g j50 => ?_
 refine C.bnx ?_
 exact St.wa (idR 3) (j33 _ g)
 refine C.ite rfl g (fun b51 g => ?_) fun b51 g => ?_
 refine U.start (U.ps 4 T rfl (U.bs T eApiShift ([({ From := s9.2, To := x44.1 : ApiShift })] : List ApiShift) ?_))
 obtain ⟨y54, g⟩ := g
 refine U.ap T y54 ?_
 refine U.pd 1 T ?_
 exact St.wa [some 0, some 1, some 4] (j50 _ g)
 refine C.skip ?_
 exact St.wa (idR 3) (j50 _ g)
 refine U.start (U.ps 2 T rfl ?_)
 refine g.cs (fun b47 g => ?_) fun b47 g => ?_
 refine U.pq 3 1 true 50 b47 T ?_
 obtain ⟨x48, y48, g⟩ := g
 refine U.r rfl (.tk 1 true 50 b47) rfl rfl (by exact Rd.ix T rfl rfl rfl rfl rfl rfl y48) ?_
 refine U.pq 3 1 true 50 b47 T ?_
 refine U.pk b47 ?_
 refine U.done ?_
 exact St.wa (idR 3) (j46 _ g)
 refine U.sk' 7 1 true 50 b47 ?_
 refine U.pk' b47 ?_
 refine U.done ?_
 exact St.wa (idR 3) (j46 _ g)
 refine C.exit (C.ex (C.ex (C.bex ?_)))
 exact St.wa (idR 3) (j26 _ g)
 refine C.exit (C.ex (C.ex (C.bex ?_)))
 exact St.wa [some 2] (j8 _ g)
theorem T_layout_Backs (f : ApiFloor) (r : List Int) (l : ApiLayout) (post : (List ApiShift) → Prop) (g : V_layout_Backs f r l post) :
    Tr Try.prog 27 [.agg (eApiFloor f), .sl 1 eI r, .agg [.sl 1 eB l.Full, .i l.Target]] [] 0 (fun A H' k => ∃ y, post y ∧ A = (.o 0) ∧ H' = [(0, .val (.os 2 eApiShift y))] ∧ k = 1) := by
 refine Tr.go Try.func27 Try.ntmps27 fun _ _ _ _ o => ?_
 unfold V_layout_Backs at g
 refine C.ss (U.bx ?_)
 refine U.bx ?_
 refine U.pd 1 T (C.xt ?_)
 refine U.ps 3 T rfl (U.k (T_layout_shifts f r l false _ g) en23 (fun x5 g => ?_))
 refine U.pd 1 T (C.nx (C.ret ?_))
 exact C.g1 [some 2] T o ⟨x5, g, rfl, rfl, rfl⟩
theorem T_slices_Clone_bool_bool (s_1 : List Bool) (post : (List Bool) → Prop) (g : V_slices_Clone_bool_bool s_1 post) :
    Tr Try.prog 24 [.sl 1 eB s_1] [] 0 (fun A H' k => ∃ y, post y ∧ A = (.o 0) ∧ H' = [(0, .val (.os 1 eB y))] ∧ k = 1) := by
 refine Tr.go Try.func24 Try.ntmps24 fun _ _ _ _ o => ?_
 unfold V_slices_Clone_bool_bool at g
 refine C.ss (U.pd 1 T (C.xs (C.ss ?_)))
 refine U.ps 1 T rfl (U.e rfl (.none rfl) (by exact Eff.isnil T true rfl rfl rfl rfl rfl rfl (.inl ⟨.sl, rfl⟩) rfl) (fun b5' hhb5 => ?_))
 obtain ⟨b5⟩ := b5'
 replace g := g b5 hhb5
 refine U.done (C.nx ?_)
 refine C.ite rfl g (fun b6 g => ?_) fun b6 g => ?_
 refine C.ss (U.pd 1 T (C.nx (C.ret (C.rt ?_))))
 exact C.g1 [none] T o ⟨[], g, rfl, rfl, rfl⟩
 refine C.skip (C.xt (U.bs T eB ([] : List Bool) ?_))
 refine U.ps 1 T rfl ?_
 obtain ⟨y11, g⟩ := g
 refine U.ap T y11 ?_
 refine U.pd 1 T (C.nx (C.ret ?_))
 exact C.g1 [some 1] T o ⟨(([] : List Bool) ++ s_1), g, rfl, rfl, rfl⟩
theorem T_layout_Do (l : ApiLayout) (s_1 : ApiShift) (post : (ApiLayout × Int) → Prop) (g : V_layout_Do l s_1 post) :
    Tr Try.prog 16 [.agg [.sl 1 eB l.Full, .i l.Target], .agg [.i s_1.From, .i s_1.To]] [] 0 (fun A H' k => ∃ y, post y ∧ A = (.tup [.agg [.o 0, .i y.1.Target], .i y.2]) ∧ H' = [(0, .val (.os 1 eB y.1.Full))] ∧ k = 1) := by
 refine Tr.go Try.func16 Try.ntmps16 fun _ _ _ _ o => ?_
 unfold V_layout_Do at g
 refine C.ss (U.bx ?_)
 refine U.bx ?_
 refine U.al T ?_
 refine U.pd 1 T (C.xt ?_)
 refine U.pd 4 T (C.xs (C.block (C.seq ?_)))
 refine C.jn (fun (x5 : Bool) => [(2, .p 0 0), (3, .p 1 0), (4, .p 2 0), (10, .b x5)]) (fun x5 => [(0, .box [.sl 1 eB l.Full, .i l.Target]), (1, .box [.i s_1.From, .i s_1.To]), (2, .box [vN, .i 0])]) 3 g (fun x5 g => ?_) fun J6 g j6 => ?_
 refine C.nx ?_
 refine C.ite rfl g (fun b10 g => ?_) fun b10 g => ?_
 refine C.ss (U.ps 1 T rfl (U.st T ?_))
 refine U.pd 1 T (C.nx (C.ret (C.brt (C.rt ?_))))
 exact C.fg [none] T o ⟨(({ Full := [], Target := 0 : ApiLayout }), 3), g, rfl, rfl, rfl⟩
 refine C.seq ?_
 refine C.jn (fun (x13 : Bool) => [(2, .p 0 0), (3, .p 1 0), (4, .p 2 0), (32, .b x13)]) (fun x13 => [(0, .box [.sl 1 eB l.Full, .i l.Target]), (1, .box [.i s_1.From, .i s_1.To]), (2, .box [vN, .i 0])]) 3 g (fun x13 g => ?_) fun J14 g j14 => ?_
 refine C.nx ?_
 refine C.ite rfl g (fun b18 g => ?_) fun b18 g => ?_
 refine C.ss (U.ps 1 T rfl (U.st T ?_))
 refine U.pd 1 T (C.nx (C.ret (C.brt (C.rt ?_))))
 exact C.fg [none] T o ⟨(({ Full := [], Target := 0 : ApiLayout }), 13), g, rfl, rfl, rfl⟩
 refine C.skip (C.bnx (C.xt (U.ps 2 T rfl (U.k (T_slices_Clone_bool_bool l.Full _ g) en24 (fun x23 g => ?_)))))
 refine U.ps 1 T rfl (U.st T ?_)
 refine U.done (C.xs (D.bq mix 11 [0, 1] [3] (fun hQ hS ws M' => ?_)))
 refine D.pq 8 (zl [0, 1, 2, 3, 4, 5, 6, 7]) T ?_
 obtain ⟨x26, y26, g⟩ := g
 refine D.q 8 [] hQ hS rfl (.none rfl) rfl rfl (by exact Rd.io T rfl rfl rfl rfl rfl rfl rfl y26) rfl (by kernel_rfl) ?_
 refine D.e1 9 rfl (.none rfl) (by exact Eff1.se T (z' := false) rfl rfl rfl (idx_some y26).2.2 rfl rfl rfl rfl rfl rfl rfl rfl (fun _ => rfl) rfl) (by kernel_rfl) rfl rfl ?_
 obtain ⟨x27, y27, g⟩ := g
 refine D.q 10 [] hQ hS rfl (.none rfl) rfl rfl (by exact Rd.io T rfl rfl rfl rfl rfl rfl rfl y27) rfl (by kernel_rfl) ?_
 refine D.ze1 rfl (.none rfl) (by exact Eff1.se T (z' := true) rfl rfl rfl (idx_some y27).2.2 rfl rfl rfl rfl rfl rfl rfl rfl (fun _ => rfl) rfl) (by kernel_rfl) (by kernel_rfl) ?_
 refine C.xs (C.ss (U.pd 5 T (C.nx ?_)))
 refine C.jn (fun (x30 : Int) => [(2, .p 0 0), (4, .p 2 0)]) (fun x30 => [(0, .box [.o 1, .i x30]), (1, .val (.os 1 eB ((x23.set (Int.toNat s_1.From) false).set (Int.toNat s_1.To) true))), (2, .box [vN, .i 0])]) 3 g (fun x30 g => ?_) fun J31 g j31 => ?_
 refine C.xt (U.ps 1 T rfl (U.st T ?_))
 refine U.pd 1 T (C.nx (C.ret ?_))
 exact C.fg [some 1] T o ⟨(({ Full := ((x23.set (Int.toNat s_1.From) false).set (Int.toNat s_1.To) true), Target := x30 : ApiLayout }), 0), g, rfl, rfl, rfl⟩
 refine C.ite rfl g (fun b32 g => ?_) fun b32 g => ?_
 refine U.start (U.ps 3 T rfl (U.st T ?_))
 refine U.done ?_
 exact St.wa [some 0, some 3, some 2] (j31 _ g)
 refine C.skip ?_
 exact St.wa [some 0, some 3, some 2] (j31 _ g)
 refine U.start (U.ps 4 T rfl ?_)
 obtain ⟨x15, y15, g⟩ := g
 refine U.ix T y15 ?_
 refine U.ps 3 T rfl ?_
 refine g.cs (fun b16 g => ?_) fun b16 g => ?_
 refine U.pq 4 7 false 40 (ntF b16) T ?_
 obtain ⟨x17, y17, g⟩ := g
 refine U.r rfl (.tk 7 false 40 (ntF b16)) rfl rfl (by exact Rd.ix T rfl rfl rfl rfl rfl rfl y17) ?_
 refine U.pq 1 7 false 40 (ntF b16) T ?_
 refine U.pk' (ntF b16) ?_
 refine U.pd 1 T ?_
 exact St.wa (idR 3) (j14 _ g)
 refine U.sk' 6 7 false 40 (ntT b16) ?_
 refine U.pk (ntT b16) ?_
 refine U.pd 1 T ?_
 exact St.wa (idR 3) (j14 _ g)
 refine U.start (U.ps 4 T rfl ?_)
 refine g.cs (fun b7 g => ?_) fun b7 g => ?_
 refine U.sk' 4 3 false 14 b7 ?_
 refine U.pk b7 ?_
 refine U.ps 1 T rfl (U.sk' 3 9 false 20 rfl ?_)
 refine U.pk rfl ?_
 refine U.ps 1 T rfl (U.sk' 4 14 false 25 rfl ?_)
 refine U.pk rfl ?_
 refine U.pd 1 T ?_
 exact St.wa (idR 3) (j6 _ g)
 refine U.pq 4 3 false 14 b7 T ?_
 refine U.pk' b7 ?_
 refine U.ps 1 T rfl ?_
 refine g.cs (fun b8 g => ?_) fun b8 g => ?_
 refine U.sk' 3 9 false 20 b8 ?_
 refine U.pk b8 ?_
 refine U.ps 1 T rfl (U.sk' 4 14 false 25 rfl ?_)
 refine U.pk rfl ?_
 refine U.pd 1 T ?_
 exact St.wa (idR 3) (j6 _ g)
 refine U.pq 3 9 false 20 b8 T ?_
 refine U.pk' b8 ?_
 refine U.ps 1 T rfl ?_
 refine g.cs (fun b9 g => ?_) fun b9 g => ?_
 refine U.sk' 4 14 false 25 b9 ?_
 refine U.pk b9 ?_
 refine U.pd 1 T ?_
 exact St.wa (idR 3) (j6 _ g)
 refine U.pq 4 14 false 25 b9 T ?_
 refine U.pk' b9 ?_
 refine U.pd 1 T ?_
 exact St.wa (idR 3) (j6 _ g)
theorem T_layout_Shelves (l : ApiLayout) (post : Int → Prop) (g : V_layout_Shelves l post) :
    Tr Try.prog 12 [.agg [.sl 1 eB l.Full, .i l.Target]] [] 0 (pI post) := by
 refine Tr.go Try.func12 Try.ntmps12 fun _ _ _ _ o => ?_
 unfold V_layout_Shelves at g
 refine C.ss (U.bx ?_)
 refine U.pd 1 T (C.xt ?_)
 refine U.pd 1 T (C.xs (C.ss ?_))
 refine U.pd 4 T (C.nx ?_)
 refine C.jn (fun (x7 : Int) => [(3, .i x7)]) (fun x7 => []) 0 g (fun x7 g => ?_) fun J8 g j8 => ?_
 refine C.xt (U.pd 2 T (C.nx (C.ret ?_)))
 exact C.f1 T o (pIi g)
 refine C.block (St.wk (C.loop (fun (s9 : Int × Int) => [(3, .i s9.1), (7, .sl 1 eB l.Full), (8, .i (l.Full.length : Int)), (9, .i s9.2)]) (fun s9 => []) g (fun s9 Y10 g => ?_)) (Wk.e))
 refine C.ss (U.pd 1 T (C.xs ?_))
 refine C.ite rfl g (fun b13 g => ?_) fun b13 g => ?_
 refine C.skip (C.xs (C.block (C.ss ?_)))
 obtain ⟨x16, y16, g⟩ := g
 refine U.ix T y16 ?_
 refine U.pd 2 T (C.xt ?_)
 refine U.pd 1 T (C.nx ?_)
 refine C.jn (fun (x19 : Int) => [(3, .i x19), (7, .sl 1 eB l.Full), (8, .i (l.Full.length : Int)), (9, .i s9.2)]) (fun x19 => []) 0 g (fun x19 g => ?_) fun J20 g j20 => ?_
 refine C.bnx (C.nx (U.start (U.pd 2 T (C.nx ?_))))
 exact St.wk (C.next g) (Wk.e)
 refine C.ite rfl g (fun b21 g => ?_) fun b21 g => ?_
 refine U.start (U.pd 3 T ?_)
 exact St.wn (j20 _ g)
 refine C.skip ?_
 exact St.wn (j20 _ g)
 refine C.exit (C.ex (C.ex (C.bex ?_)))
 exact St.wn (j8 _ g)
theorem T_layout_Rank (l : ApiLayout) (post : Int → Prop) (g : V_layout_Rank l post) :
    Tr Try.prog 20 [.agg [.sl 1 eB l.Full, .i l.Target]] [] 0 (pI post) := by
 refine Tr.go Try.func20 Try.ntmps20 fun _ _ _ _ o => ?_
 unfold V_layout_Rank at g
 refine C.ss (U.bx ?_)
 refine U.pd 1 T (C.xt ?_)
 refine U.k (T_layout_choose _ g) en18 fun x5 g => ?_
 refine U.pd 1 T (C.xs ?_)
 refine D.bq mix 9999 [0] [] (fun hQ hS ws M' => ?_)
 refine D.pq 4 (zl [0, 1, 2, 3]) T ?_
 refine D.k 4 (T_layout_Shelves l _ g) en12 fun x8 g => ?_
 refine D.pq 2 (zl [5, 6]) T ?_
 refine D.done (by kernel_rfl) ?_
 refine C.xs (D.bq mix 9999 [0, 1] [] (fun hQ hS ws M' => ?_))
 refine D.pq 8 (zl [0, 1, 2, 3, 4, 5, 6, 7]) T ?_
 obtain ⟨y11, g⟩ := g
 refine D.q 8 [] hQ hS rfl (.none rfl) rfl rfl (by exact Rd.pi T rfl rfl rfl rfl rfl rfl y11) rfl (by kernel_rfl) ?_
 obtain ⟨y12, g⟩ := g
 refine D.q 9 [] hQ hS rfl (.none rfl) rfl rfl (by exact Rd.pi T rfl rfl rfl rfl rfl rfl y12) rfl (by kernel_rfl) ?_
 obtain ⟨x13, y13, g⟩ := g
 refine D.q 10 [] hQ hS rfl (.none rfl) rfl rfl (by exact Rd.la T rfl rfl rfl y13 rfl rfl rfl) rfl (by kernel_rfl) ?_
 refine D.pq 2 (zl [11, 12]) T ?_
 refine D.done (by kernel_rfl) ?_
 refine C.xt (U.pd 6 T (C.xs (C.ss ?_)))
 refine U.pd 4 T (C.nx ?_)
 refine C.jn (fun (x18 : Int) => [(6, .i x18)]) (fun x18 => []) 0 g (fun x18 g => ?_) fun J19 g j19 => ?_
 refine C.xt (U.pd 2 T (C.nx (C.ret ?_)))
 exact C.f1 T o (pIi g)
 refine C.block (St.wk (C.loop (fun (s20 : Int × Int × Int × Int) => [(1, .p 0 0), (3, .p 1 0), (6, .i s20.1), (7, .i s20.2.1), (8, .i s20.2.2.1), (34, .sl 1 eB l.Full), (35, .i (l.Full.length : Int)), (36, .i s20.2.2.2)]) (fun s20 => [(0, .box [.sl 1 eB l.Full, .i l.Target]), (1, .val (.arr 1 eI x5))]) g (fun s20 Y21 g => ?_)) (Wk.a (idR 2)))
 refine C.ss (U.pd 1 T (C.xs ?_))
 refine C.ite rfl g (fun b24 g => ?_) fun b24 g => ?_
 refine C.skip (C.xs ?_)
 refine C.jn (fun (x25 : Int × Int × Int) => [(1, .p 0 0), (3, .p 1 0), (6, .i x25.1), (7, .i x25.2.1), (8, .i x25.2.2), (34, .sl 1 eB l.Full), (35, .i (l.Full.length : Int)), (36, .i s20.2.2.2)]) (fun x25 => [(0, .box [.sl 1 eB l.Full, .i l.Target]), (1, .val (.arr 1 eI x5))]) 2 g (fun x25 g => ?_) fun J26 g j26 => ?_
 refine C.nx (U.start (U.pd 2 T (C.nx ?_)))
 exact St.wk (C.next g) (Wk.a (idR 2))
 refine C.block (C.ss (U.ps 1 T rfl ?_))
 obtain ⟨x29, y29, g⟩ := g
 refine U.ix T y29 ?_
 refine U.pd 3 T (C.xs (C.ss ?_))
 refine U.pd 4 T (C.nx ?_)
 refine C.ite rfl g (fun b32 g => ?_) fun b32 g => ?_
 refine C.exit (C.ex (C.bex ?_))
 exact St.wa (idR 2) (j26 _ g)
 refine C.skip (C.xt (U.pd 3 T (C.nx (C.block (C.ss ?_)))))
 refine U.pd 2 T (C.nx ?_)
 refine C.jn (fun (x37 : Int × Int) => [(1, .p 0 0), (3, .p 1 0), (6, .i x37.1), (7, .i (w64 (s20.2.1 - 1))), (8, .i x37.2), (34, .sl 1 eB l.Full), (35, .i (l.Full.length : Int)), (36, .i s20.2.2.2)]) (fun x37 => [(0, .box [.sl 1 eB l.Full, .i l.Target]), (1, .val (.arr 1 eI x5))]) 2 g (fun x37 g => ?_) fun J38 g j38 => ?_
 refine C.bnx (C.bnx ?_)
 exact St.wa (idR 2) (j26 _ g)
 refine C.ite rfl g (fun b39 g => ?_) fun b39 g => ?_
 refine U.start (U.pd 3 T ?_)
 exact St.wa (idR 2) (j38 _ g)
 refine C.ss (U.pd 3 T (C.nx ?_))
 refine C.jn (fun (x44 : Int) => [(1, .p 0 0), (3, .p 1 0), (6, .i x44), (7, .i (w64 (s20.2.1 - 1))), (8, .i s20.2.2.1), (34, .sl 1 eB l.Full), (35, .i (l.Full.length : Int)), (36, .i s20.2.2.2)]) (fun x44 => [(0, .box [.sl 1 eB l.Full, .i l.Target]), (1, .val (.arr 1 eI x5))]) 2 g (fun x44 g => ?_) fun J45 g j45 => ?_
 exact St.wa (idR 2) (j38 _ g)
 refine C.ite rfl g (fun b46 g => ?_) fun b46 g => ?_
 refine U.start (U.ps 6 T rfl ?_)
 obtain ⟨y49, g⟩ := g
 refine U.r rfl (.none rfl) rfl rfl (by exact Rd.pi T rfl rfl rfl rfl rfl rfl y49) ?_
 obtain ⟨y50, g⟩ := g
 refine U.r rfl (.none rfl) rfl rfl (by exact Rd.pi T rfl rfl rfl rfl rfl rfl y50) ?_
 obtain ⟨x51, y51, g⟩ := g
 refine U.r rfl (.none rfl) rfl rfl (by exact Rd.la T rfl rfl rfl y51 rfl rfl rfl) ?_
 refine U.pd 2 T ?_
 exact St.wa (idR 2) (j45 _ g)
 refine C.skip ?_
 exact St.wa (idR 2) (j45 _ g)
 refine C.exit (C.ex (C.ex (C.bex ?_)))
 exact St.wn (j19 _ g)
theorem T_pattern_table (f : ApiFloor) (r : List Int) (shelves : Int) (goal : Int) (post : (List Int) → Prop) (g : V_pattern_table f r shelves goal post) :
    Tr Try.prog 17 [.agg (eApiFloor f), .sl 1 eI r, .i shelves, .i goal] [] 0 (fun A H' k => ∃ y, post y ∧ A = (.o 0) ∧ H' = [(0, .val (.os 1 eI y))] ∧ k = 1) := by
 refine Tr.go Try.func17 Try.ntmps17 fun _ _ _ _ o => ?_
 unfold V_pattern_table at g
 refine C.ss (U.bx ?_)
 refine U.pd 1 T (C.xt ?_)
 refine U.pd 3 T (C.xt ?_)
 refine U.bs T eI ([(-1)] : List Int) ?_
 refine U.ps 2 T rfl (U.k (T_layout_Count (r.length : Int) shelves _ g) en11 (fun x7 g => ?_))
 refine U.k (T_slices_Repeat_int_int ([(-1)] : List Int) x7 _ g) en25 fun x8 g => ?_
 refine U.pd 1 T (C.xt ?_)
 refine U.pd 1 T (C.xs (C.ss ?_))
 refine U.pd 3 T (C.nx ?_)
 refine C.jn (fun (x13 : List Int × List Int) => [(1, .sl 1 eI r), (2, .i shelves), (4, .p 0 0), (9, .i (r.length : Int)), (10, .o 1), (11, .o 2)]) (fun x13 => [(0, .box (eApiFloor f)), (1, .val (.os 1 eI x13.1)), (2, .val (.os 1 eI x13.2))]) 3 g (fun x13 g => ?_) fun J14 g j14 => ?_
 refine C.xs ?_
 refine C.jn (fun (x38 : List Int) => [(10, .o 0)]) (fun x38 => [(0, .val (.os 1 eI x38))]) 1 g (fun x38 g => ?_) fun J39 g j39 => ?_
 refine C.xt (U.pd 2 T (C.nx (C.ret ?_)))
 exact C.g1 [some 0] T o ⟨x38, g, rfl, rfl, rfl⟩
 refine C.block (St.wk (C.loop (fun (s40 : List Int × List Int) => [(1, .sl 1 eI r), (2, .i shelves), (4, .p 0 0), (9, .i (r.length : Int)), (10, .o 1), (11, .o 2)]) (fun s40 => [(0, .box (eApiFloor f)), (1, .val (.os 1 eI s40.1)), (2, .val (.os 1 eI s40.2))]) g (fun s40 Y41 g => ?_)) (Wk.a (idR 3)))
 refine C.seq (C.ss (U.pd 3 T (C.nx ?_)))
 refine C.ite rfl g (fun b44 g => ?_) fun b44 g => ?_
 refine C.skip (C.xs ?_)
 refine C.jn (fun (x45 : List Int × List Int) => [(1, .sl 1 eI r), (2, .i shelves), (4, .p 0 0), (9, .i (r.length : Int)), (10, .o 1), (11, .o 2)]) (fun x45 => [(0, .box (eApiFloor f)), (1, .val (.os 1 eI x45.1)), (2, .val (.os 1 eI x45.2))]) 3 g (fun x45 g => ?_) fun J46 g j46 => ?_
 refine C.nx (U.start (U.ps 1 T rfl ?_))
 obtain ⟨y87, g⟩ := g
 refine U.e1 rfl (.none rfl) (by exact Eff1.sw T rfl rfl rfl rfl rfl rfl rfl rfl (.some _ rfl) (.none _) y87) ?_
 refine U.pd 1 T (C.nx ?_)
 exact St.wk (C.next g) (Wk.a [some 0, some 1, some 3])
 refine C.block (C.ss (U.ps 3 T rfl ?_))
 obtain ⟨x49, y49, g⟩ := g
 refine U.r rfl (.none rfl) rfl rfl (by exact Rd.io T rfl rfl rfl rfl rfl rfl rfl y49) ?_
 refine U.r rfl (.none rfl) rfl rfl (by exact Rd.le T rfl rfl rfl (idx_some y49).2.2 rfl rfl rfl) ?_
 refine U.k (T_layout_Unrank (r.length : Int) shelves x49 _ g) en26 fun x50 g => ?_
 refine U.ps 3 T rfl (U.al T ?_)
 refine U.st T ?_
 refine U.pd 1 T (C.xt ?_)
 refine U.ps 3 T rfl (U.k (T_layout_Backs f r x50.1 _ g) en27 (fun x53 g => ?_))
 refine U.pd 2 T (C.nx ?_)
 refine C.jn (fun (x54 : List Int × List Int) => [(1, .sl 1 eI r), (2, .i shelves), (4, .p 0 0), (9, .i (r.length : Int)), (10, .o 1), (11, .o 2)]) (fun x54 => [(0, .box (eApiFloor f)), (1, .val (.os 1 eI x54.1)), (2, .val (.os 1 eI x54.2))]) 3 g (fun x54 g => ?_) fun J55 g j55 => ?_
 refine C.bnx ?_
 exact St.wa (idR 3) (j46 _ g)
 refine C.block ?_
 refine St.wk (C.loop (fun (s56 : List Int × List Int × Int) => [(1, .sl 1 eI r), (2, .i shelves), (4, .p 0 0), (9, .i (r.length : Int)), (10, .o 1), (11, .o 2), (15, .p 3 0), (70, .o 5), (71, .i (x53.length : Int)), (72, .i s56.2.2)]) (fun s56 => [(0, .box (eApiFloor f)), (1, .val (.os 1 eI s56.1)), (2, .val (.os 1 eI s56.2.1)), (3, .box [.o 4, .i x50.1.Target]), (4, .val (.os 1 eB x50.1.Full)), (5, .val (.os 2 eApiShift x53))]) g (fun s56 Y57 g => ?_)) (Wk.a [some 0, some 1, some 2, some 4, some 3, some 5])
 refine C.ss (U.pd 1 T (C.xs ?_))
 refine C.ite rfl g (fun b60 g => ?_) fun b60 g => ?_
 refine C.skip (C.xs (C.block (C.ss ?_)))
 obtain ⟨x63, y63, g⟩ := g
 refine U.r rfl (.none rfl) rfl rfl (by exact Rd.io T rfl rfl rfl rfl rfl rfl rfl y63) ?_
 refine U.r rfl (.none rfl) rfl rfl (by exact Rd.le T rfl rfl rfl (idx_some y63).2.2 rfl rfl rfl) ?_
 refine U.al T ?_
 refine U.st T ?_
 refine U.done (C.xt (U.ps 6 T rfl (U.k (T_layout_Do x50.1 ({ From := x63.To, To := x63.From : ApiShift }) _ g) en16 (fun x66 g => ?_))))
 refine U.ps 3 T rfl (U.al T ?_)
 refine U.st T ?_
 refine U.pd 1 T (C.xt ?_)
 refine U.ps 1 T rfl (U.k (T_layout_Rank x66.1 _ g) en20 (fun x69 g => ?_))
 refine U.pd 1 T (C.xt ?_)
 refine U.ps 2 T rfl ?_
 obtain ⟨x72, y72, g⟩ := g
 refine U.r rfl (.none rfl) rfl rfl (by exact Rd.io T rfl rfl rfl rfl rfl rfl rfl y72) ?_
 refine U.r rfl (.none rfl) rfl rfl (by exact Rd.le T rfl rfl rfl (idx_some y72).2.2 rfl rfl rfl) ?_
 refine U.pd 1 T (C.nx ?_)
 refine C.jn (fun (x73 : List Int × List Int) => [(1, .sl 1 eI r), (2, .i shelves), (4, .p 0 0), (9, .i (r.length : Int)), (10, .o 1), (11, .o 2), (15, .p 3 0), (70, .o 5), (71, .i (x53.length : Int)), (72, .i s56.2.2)]) (fun x73 => [(0, .box (eApiFloor f)), (1, .val (.os 1 eI x73.1)), (2, .val (.os 1 eI x73.2)), (3, .box [.o 4, .i x50.1.Target]), (4, .val (.os 1 eB x50.1.Full)), (5, .val (.os 2 eApiShift x53))]) 6 g (fun x73 g => ?_) fun J74 g j74 => ?_
 refine C.bnx (C.nx (U.start (U.pd 2 T (C.nx ?_))))
 exact St.wk (C.next g) (Wk.a (idR 6))
 refine C.ite rfl g (fun b75 g => ?_) fun b75 g => ?_
 refine C.ss (U.ps 4 T rfl ?_)
 obtain ⟨x78, y78, g⟩ := g
 refine U.r rfl (.none rfl) rfl rfl (by exact Rd.io T rfl rfl rfl rfl rfl rfl rfl y78) ?_
 refine U.r rfl (.none rfl) rfl rfl (by exact Rd.le T rfl rfl rfl (idx_some y78).2.2 rfl rfl rfl) ?_
 obtain ⟨x79, y79, g⟩ := g
 refine U.r rfl (.none rfl) rfl rfl (by exact Rd.io T rfl rfl rfl rfl rfl rfl rfl y79) ?_
 refine U.r rfl (.none rfl) rfl rfl (by exact Rd.le T rfl rfl rfl (idx_some y79).2.2 rfl rfl rfl) ?_
 refine U.ps 1 T rfl (U.r rfl (.none rfl) rfl rfl (by exact Rd.io T rfl rfl rfl rfl rfl rfl rfl y72) ?_)
 refine U.e1 rfl (.none rfl) (by exact Eff1.se T (z' := w64 (x79 + 1)) rfl rfl rfl (idx_some y72).2.2 rfl rfl rfl rfl rfl rfl rfl rfl (fun _ => rfl) rfl) ?_
 refine U.done (C.nx (U.start (U.ps 2 T rfl (U.bs T eI ([x69] : List Int) ?_))))
 obtain ⟨y82, g⟩ := g
 refine U.ap T y82 ?_
 refine U.pd 1 T ?_
 exact St.wa [some 0, some 1, some 10, some 3, some 4, some 5] (j74 _ g)
 refine C.skip ?_
 exact St.wa (idR 6) (j74 _ g)
 refine C.exit (C.ex (C.ex (C.bex ?_)))
 exact St.wa (idR 3) (j55 _ g)
 refine C.exit (C.ex (C.ex (C.bex ?_)))
 exact St.wa [some 1] (j39 _ g)
 refine C.block ?_
 refine St.wk (C.loop (fun (s15 : List Int × List Int × Int) => [(1, .sl 1 eI r), (2, .i shelves), (3, .i goal), (4, .p 0 0), (9, .i (r.length : Int)), (10, .o 1), (11, .o 2), (30, .i (x8.length : Int)), (31, .i s15.2.2)]) (fun s15 => [(0, .box (eApiFloor f)), (1, .val (.os 1 eI s15.1)), (2, .val (.os 1 eI s15.2.1))]) g (fun s15 Y16 g => ?_)) (Wk.mk' [some 0, some 2, none] rfl rfl ⟨⟨_, rfl, (.eq rfl)⟩, ⟨_, rfl, (.eq rfl)⟩, ⟨_, rfl, (.eq rfl)⟩, ⟨_, rfl, (.eq rfl)⟩, ⟨_, rfl, (.eq rfl)⟩, ⟨_, rfl, (.eq rfl)⟩, ⟨_, rfl, (.nilO _ _ ⟨rfl, rfl⟩ rfl)⟩, ChkG.eqs rfl⟩ ⟨bX, vL, ⟨_, rfl, .nil _ _⟩, trivial⟩ rfl)
 refine C.ss (U.pd 1 T (C.xs ?_))
 refine C.ite rfl g (fun b19 g => ?_) fun b19 g => ?_
 refine C.skip (C.xs (C.block (C.ss (U.pd 2 T (C.xt ?_)))))
 refine U.ps 3 T rfl (U.k (T_layout_Unrank (r.length : Int) shelves s15.2.2 _ g) en26 (fun x24 g => ?_))
 refine U.ps 3 T rfl (U.al T ?_)
 refine U.st T ?_
 refine U.pd 1 T (C.xt ?_)
 refine U.pd 4 T (C.nx ?_)
 refine C.jn (fun (x27 : List Int × List Int) => [(1, .sl 1 eI r), (2, .i shelves), (3, .i goal), (4, .p 0 0), (9, .i (r.length : Int)), (10, .o 1), (11, .o 2), (30, .i (x8.length : Int)), (31, .i s15.2.2)]) (fun x27 => [(0, .box (eApiFloor f)), (1, .val (.os 1 eI x27.1)), (2, .val (.os 1 eI x27.2))]) 3 g (fun x27 g => ?_) fun J28 g j28 => ?_
 refine C.bnx (C.nx (U.start (U.pd 2 T (C.nx ?_))))
 exact St.wk (C.next g) (Wk.a (idR 3))
 refine C.ite rfl g (fun b29 g => ?_) fun b29 g => ?_
 refine C.ss (U.ps 2 T rfl ?_)
 obtain ⟨x32, y32, g⟩ := g
 refine U.r rfl (.none rfl) rfl rfl (by exact Rd.io T rfl rfl rfl rfl rfl rfl rfl y32) ?_
 refine U.e1 rfl (.none rfl) (by exact Eff1.se T (z' := 0) rfl rfl rfl (idx_some y32).2.2 rfl rfl rfl rfl rfl rfl rfl rfl (fun _ => rfl) rfl) ?_
 refine U.done (C.nx (U.start (U.ps 2 T rfl (U.bs T eI ([s15.2.2] : List Int) ?_))))
 obtain ⟨y35, g⟩ := g
 refine U.ap T y35 ?_
 refine U.pd 1 T ?_
 exact St.wa [some 0, some 1, some 6] (j28 _ g)
 refine C.skip ?_
 exact St.wa (idR 3) (j28 _ g)
 refine C.exit (C.ex (C.ex (C.bex ?_)))
 exact St.wa (idR 3) (j14 _ g)
theorem T_pattern_Build (f : ApiFloor) (r : List Int) (k : Int) (goal : Int) (post : (Sum (Unit × Int) (PatternDB × Int)) → Prop) (g : V_pattern_Build f r k goal post) :
    Tr Try.prog 10 [.agg (eApiFloor f), .sl 1 eI r, .i k, .i goal] [] 0 (fun A H' k => ∃ y, post y ∧ A = ((match y with | .inl y => .tup [.v (.pointer none), .i y.2] | .inr y => .tup [.p 1 0, .i y.2])) ∧ H' = (match y with | .inl y => [] | .inr y => [(0, .val (.os 1 eOeI y.1.tables)), (1, .box [.i y.1.cells, .i y.1.goal, .o 0])]) ∧ k = (match y with | .inl _ => 0 | .inr _ => 2)) := by
 refine Tr.go Try.func10 Try.ntmps10 fun _ _ _ _ o => ?_
 unfold V_pattern_Build at g
 refine C.ss (U.bx ?_)
 refine U.pd 2 T (C.xt ?_)
 refine U.pd 3 T (C.xs (C.seq ?_))
 refine C.jn (fun (x5 : Bool) => [(1, .sl 1 eI r), (2, .i k), (3, .i goal), (4, .p 0 0), (10, .i (r.length : Int)), (31, .b x5)]) (fun x5 => [(0, .box (eApiFloor f))]) 1 g (fun x5 g => ?_) fun J6 g j6 => ?_
 refine C.nx ?_
 refine C.ite rfl g (fun b10 g => ?_) fun b10 g => ?_
 refine C.ss (U.pd 2 T (C.nx (C.ret (C.rt ?_))))
 exact C.f9 T o ⟨(.inl ((), 3)), g, rfl, rfl, rfl⟩
 refine C.skip (C.xs (C.ss (U.pd 3 T (C.nx ?_))))
 refine C.jn (fun (x15 : Unit) => [(1, .sl 1 eI r), (2, .i k), (3, .i goal), (4, .p 0 0), (10, .i (r.length : Int))]) (fun x15 => [(0, .box (eApiFloor f))]) 1 g (fun x15 g => ?_) fun J16 g j16 => ?_
 refine C.xt (U.ps 3 T rfl (U.bx ?_))
 refine U.pd 1 T (C.xs (C.ss ?_))
 refine U.pd 3 T (C.nx ?_)
 refine C.jn (fun (x37 : List (List Int)) => [(12, .p 0 0)]) (fun x37 => [(0, .box [.i (r.length : Int), .i goal, .o 1]), (1, .val (.os 1 eOeI x37))]) 2 g (fun x37 g => ?_) fun J38 g j38 => ?_
 refine C.xt (U.pd 3 T (C.nx (C.ret ?_)))
 exact C.fg [some 1, some 0] T o ⟨(.inr (({ cells := (r.length : Int), goal := goal, tables := x37 : PatternDB }), 0)), g, rfl, rfl, rfl⟩
 refine C.block ?_
 refine St.wk (C.loop (fun (s39 : List (List Int) × Int) => [(1, .sl 1 eI r), (3, .i goal), (4, .p 0 0), (12, .p 1 0), (52, .i (w64 (k + 1))), (53, .i s39.2)]) (fun s39 => [(0, .box (eApiFloor f)), (1, .box [.i (r.length : Int), .i goal, .o 2]), (2, .val (.os 1 eOeI s39.1))]) g (fun s39 Y40 g => ?_)) (Wk.mk' [some 0, some 1, none] rfl rfl (.eqs rfl) ⟨bX, ⟨_, rfl, .box rfl (.cons (.eq rfl) (.cons (.eq rfl) (.cons (.nilO _ _ ⟨rfl, rfl⟩ rfl) .nil)))⟩, ⟨_, rfl, .nil _ _⟩, trivial⟩ rfl)
 refine C.ss (U.pd 1 T (C.xs ?_))
 refine C.ite rfl g (fun b43 g => ?_) fun b43 g => ?_
 refine C.skip (C.xs (C.block (C.ss (U.pd 2 T (C.nx ?_)))))
 refine D.bq mix 15 [0, 1] [2] (fun hQ hS ws M' => ?_)
 refine D.pq 10 (zl [0, 1, 2, 3, 4, 5, 6, 7, 8, 9]) T ?_
 refine D.k 10 (T_pattern_table f r (w64 (s39.2 + 1)) goal _ g) en17 fun x48 g => ?_
 refine D.e1 11 rfl (.none rfl) (by exact Eff1.bsl T (enc := eOeI) x48 rfl rfl rfl rfl rfl rfl rfl rfl rfl) (by kernel_rfl) rfl rfl ?_
 obtain ⟨y49, g⟩ := g
 refine D.e1 12 rfl (.none rfl) (by exact Eff1.apl T rfl rfl rfl rfl rfl rfl rfl (fun _ => rfl) rfl rfl rfl rfl ⟨_, rfl, rfl⟩ y49) (by kernel_rfl) rfl rfl ?_
 refine D.pq 2 [(13, [14]), (14, [])] T ?_
 refine D.ze1 rfl (.none rfl) (by exact Eff1.st T rfl rfl rfl rfl rfl rfl rfl rfl rfl rfl) (by kernel_rfl) (by kernel_rfl) ?_
 refine St.putb (l := 5) (l' := 3) (y := x48) rfl rfl rfl (fun _ h => nomatch h) rfl _ rfl ?_
 refine C.bnx (C.nx (U.start (U.pd 2 T (C.nx ?_))))
 exact St.wk (C.next g) (Wk.a [some 0, some 1, some 5])
 refine C.exit (C.ex (C.ex (C.bex ?_)))
 exact St.wa (sqR 1 2) (j38 _ g)
 refine C.block (St.wk (C.loop (fun (s17 : Int) => [(1, .sl 1 eI r), (2, .i k), (3, .i goal), (4, .p 0 0), (10, .i (r.length : Int)), (33, .i (w64 (k + 1))), (34, .i s17)]) (fun s17 => [(0, .box (eApiFloor f))]) g (fun s17 Y18 g => ?_)) (Wk.a [some 0]))
 refine C.ss (U.pd 1 T (C.xs ?_))
 refine C.ite rfl g (fun b21 g => ?_) fun b21 g => ?_
 refine C.skip (C.xs (C.block (C.ss (U.pd 2 T (C.xs ?_)))))
 refine C.jn (fun (x24 : Bool) => [(1, .sl 1 eI r), (2, .i k), (3, .i goal), (4, .p 0 0), (10, .i (r.length : Int)), (33, .i (w64 (k + 1))), (34, .i s17), (45, .b x24)]) (fun x24 => [(0, .box (eApiFloor f))]) 1 g (fun x24 g => ?_) fun J25 g j25 => ?_
 refine C.nx ?_
 refine C.ite rfl g (fun b28 g => ?_) fun b28 g => ?_
 refine C.ss (U.pd 2 T (C.nx (C.ret (C.brt (C.rt (C.rt (C.brt (C.rt ?_))))))))
 exact C.f9 T o ⟨(.inl ((), 27)), g, rfl, rfl, rfl⟩
 refine C.skip (C.bnx (C.nx (U.start (U.pd 2 T (C.nx ?_)))))
 exact St.wk (C.next g) (Wk.a [some 0])
 refine U.start (U.ps 3 T rfl ?_)
 refine g.cs (fun b26 g => ?_) fun b26 g => ?_
 refine U.sk' 5 2 false 39 b26 ?_
 refine U.pk b26 ?_
 refine U.done ?_
 exact St.wa [some 0] (j25 _ g)
 refine U.pq 3 2 false 39 b26 T ?_
 refine U.k (T_layout_Count (r.length : Int) (w64 (s17 + 1)) _ g) en11 (fun x27 g => ?_) (hw := .take 2 false 39 _ b26 rfl rfl rfl)
 refine U.pq 1 2 false 39 b26 T ?_
 refine U.pk' b26 ?_
 refine U.done ?_
 exact St.wa [some 0] (j25 _ g)
 refine C.exit (C.ex (C.ex (C.bex ?_)))
 exact St.wa [some 0] (j16 _ g)
 refine U.start (U.ps 3 T rfl ?_)
 refine g.cs (fun b7 g => ?_) fun b7 g => ?_
 refine U.sk' 3 2 false 18 b7 ?_
 refine U.pk b7 ?_
 refine U.ps 1 T rfl (U.sk' 2 7 false 23 rfl ?_)
 refine U.pk rfl ?_
 refine U.ps 1 T rfl (U.sk' 3 11 false 27 rfl ?_)
 refine U.pk rfl ?_
 refine U.done ?_
 exact St.wa [some 0] (j6 _ g)
 refine U.pq 3 2 false 18 b7 T ?_
 refine U.pk' b7 ?_
 refine U.ps 1 T rfl ?_
 refine g.cs (fun b8 g => ?_) fun b8 g => ?_
 refine U.sk' 2 7 false 23 b8 ?_
 refine U.pk b8 ?_
 refine U.ps 1 T rfl (U.sk' 3 11 false 27 rfl ?_)
 refine U.pk rfl ?_
 refine U.done ?_
 exact St.wa [some 0] (j6 _ g)
 refine U.pq 2 7 false 23 b8 T ?_
 refine U.pk' b8 ?_
 refine U.ps 1 T rfl ?_
 refine g.cs (fun b9 g => ?_) fun b9 g => ?_
 refine U.sk' 3 11 false 27 b9 ?_
 refine U.pk b9 ?_
 refine U.done ?_
 exact St.wa [some 0] (j6 _ g)
 refine U.pq 3 11 false 27 b9 T ?_
 refine U.pk' b9 ?_
 refine U.done ?_
 exact St.wa [some 0] (j6 _ g)
theorem T_pattern_choices (l : ApiLayout) (from_1 : Int) (j : Int) (post : (Int × ApiLayout × Int) → Prop) (g : V_pattern_choices l from_1 j post) :
    Tr Try.prog 39 [.agg [.sl 1 eB l.Full, .i l.Target], .i from_1, .i j] [] 0 (fun A H' k => ∃ y, post y ∧ A = (.fn (.func 50) [] [.p 0 0, .p 1 0, .p 2 0]) ∧ H' = [(0, .box [.i y.1]), (1, .box [.sl 1 eB y.2.1.Full, .i y.2.1.Target]), (2, .box [.i y.2.2])] ∧ k = 3) := by
 refine Tr.go Try.func39 Try.ntmps39 fun _ _ _ _ o => ?_
 unfold V_pattern_choices at g
 refine C.ss (U.bx ?_)
 refine U.bx ?_
 refine U.bx ?_
 refine U.pd 1 T (C.xt ?_)
 refine U.pd 2 T (C.nx (C.ret ?_))
 exact C.g1 [some 2, some 0, some 1] T o ⟨(j, l, from_1), g, rfl, rfl, rfl⟩
theorem T_pattern_DB_Dist (d : PatternDB) (l : ApiLayout) (post : (Int × Bool) → Prop) (g : V_pattern_DB_Dist d l post) :
    Tr Try.prog 40 [.rp [.i d.cells, .i d.goal, .sl 1 eLeI d.tables], .agg [.sl 1 eB l.Full, .i l.Target]] [] 0 (fun A H' k => ∃ y, post y ∧ A = (.tup [.i y.1, .b y.2]) ∧ H' = [] ∧ k = 0) := by
 refine Tr.go Try.func40 Try.ntmps40 fun _ _ _ _ o => ?_
 unfold V_pattern_DB_Dist at g
 refine C.ss (U.bx ?_)
 refine U.pd 2 T (C.xt ?_)
 refine U.ps 1 T rfl (U.k (T_layout_Shelves l _ g) en12 (fun x5 g => ?_))
 refine U.pd 2 T (C.xs (C.ss ?_))
 refine U.pd 7 T (C.nx ?_)
 refine C.ite rfl g (fun b8 g => ?_) fun b8 g => ?_
 refine C.ss (U.pd 2 T (C.nx (C.ret (C.rt ?_))))
 exact C.f9 T o ⟨(0, false), g, rfl, rfl, rfl⟩
 refine C.skip (C.xs (D.bq mix 9999 [0] [] (fun hQ hS ws M' => ?_)))
 refine D.pq 5 (zl [0, 1, 2, 3, 4]) T ?_
 obtain ⟨x13, y13, g⟩ := g
 refine D.ix 5 [] T y13 ?_
 refine D.pq 2 (zl [6, 7]) T ?_
 refine D.k 8 (T_layout_Rank l _ g) en20 fun x14 g => ?_
 obtain ⟨x15, y15, g⟩ := g
 refine D.ix 9 [] T y15 ?_
 refine D.pq 3 (zl [10, 11, 12]) T ?_
 refine D.done (by kernel_rfl) ?_
 refine C.nx (C.ret ?_)
 exact C.f9 T o ⟨(x15, true), g, rfl, rfl, rfl⟩
def X_pattern_choices_1__p0_p1_p2 : (Int × ApiLayout × Int × Option (List ApiLayout)) → ((Option (List ApiLayout)) → Prop) → Prop | (c0, c1, c2, oy), post => ∀ (lid : Nat) (E Ex : Foot), Tr Try.prog 50 [.v (.func (.yield lid) #[] #[]), .p 0 0, .p 1 0, .p 2 0] [(0, .box [.i c0]), (1, .box [.sl 1 eB c1.Full, .i c1.Target]), (2, .box [.i c2]), (3, .abs (CapO Try.prog lid (fun x : ApiLayout => [.agg [.sl 1 eB x.Full, .i x.Target]]) E Ex oy))] 4 (fun A H' k => ∃ y, post y ∧ A = (.tup []) ∧ H' = [(3, .abs (CapO Try.prog lid (fun x : ApiLayout => [.agg [.sl 1 eB x.Full, .i x.Target]]) E Ex y))] ∧ k = 4)
theorem U_pattern_choices_1__p0_p1_p2 (c0 : Int) (c1 : ApiLayout) (c2 : Int) (oy : Option (List ApiLayout)) (post : (Option (List ApiLayout)) → Prop) (h : X_pattern_choices_1__p0_p1_p2 (c0, c1, c2, oy) post) (lid : Nat) (E Ex : Foot) : Tr Try.prog 50 [.v (.func (.yield lid) #[] #[]), .p 0 0, .p 1 0, .p 2 0] [(0, .box [.i c0]), (1, .box [.sl 1 eB c1.Full, .i c1.Target]), (2, .box [.i c2]), (3, .abs (CapO Try.prog lid (fun x : ApiLayout => [.agg [.sl 1 eB x.Full, .i x.Target]]) E Ex oy))] 4 (fun A H' k => ∃ y, post y ∧ A = (.tup []) ∧ H' = [(3, .abs (CapO Try.prog lid (fun x : ApiLayout => [.agg [.sl 1 eB x.Full, .i x.Target]]) E Ex y))] ∧ k = 4) := h lid E Ex
theorem T_pattern_choices_1__p0_p1_p2 (c0 : Int) (c1 : ApiLayout) (c2 : Int) (oy : Option (List ApiLayout)) (post : (Option (List ApiLayout)) → Prop) (g : V_pattern_choices_1__p0_p1_p2 c0 c1 c2 oy post) (lid : Nat) (E Ex : Foot) :
    Tr Try.prog 50 [.v (.func (.yield lid) #[] #[]), .p 0 0, .p 1 0, .p 2 0] [(0, .box [.i c0]), (1, .box [.sl 1 eB c1.Full, .i c1.Target]), (2, .box [.i c2]), (3, .abs (CapO Try.prog lid (fun x : ApiLayout => [.agg [.sl 1 eB x.Full, .i x.Target]]) E Ex oy))] 4 (fun A H' k => ∃ y, post y ∧ A = (.tup []) ∧ H' = [(3, .abs (CapO Try.prog lid (fun x : ApiLayout => [.agg [.sl 1 eB x.Full, .i x.Target]]) E Ex y))] ∧ k = 4) := by
 refine U_pattern_choices_1__p0_p1_p2 c0 c1 c2 oy _ (g X_pattern_choices_1__p0_p1_p2 (fun a post g => ?_)) lid E Ex
 obtain ⟨c0, c1, c2, oy⟩ := a
 replace g : B_pattern_choices_1__p0_p1_p2 X_pattern_choices_1__p0_p1_p2 c0 c1 c2 oy post := g
 show ∀ (lid : Nat) (E Ex : Foot), Tr Try.prog 50 [.v (.func (.yield lid) #[] #[]), .p 0 0, .p 1 0, .p 2 0] [(0, .box [.i c0]), (1, .box [.sl 1 eB c1.Full, .i c1.Target]), (2, .box [.i c2]), (3, .abs (CapO Try.prog lid (fun x : ApiLayout => [.agg [.sl 1 eB x.Full, .i x.Target]]) E Ex oy))] 4 (fun A H' k => ∃ y, post y ∧ A = (.tup []) ∧ H' = [(3, .abs (CapO Try.prog lid (fun x : ApiLayout => [.agg [.sl 1 eB x.Full, .i x.Target]]) E Ex y))] ∧ k = 4)
 intro lid E Ex
 refine Tr.go Try.func50 Try.ntmps50 fun _ _ _ _ o => ?_
 unfold B_pattern_choices_1__p0_p1_p2 at g
 refine C.ss (U.bx ?_)
 refine U.done (C.xs (C.ss (U.pd 2 T (C.nx ?_))))
 refine C.ite rfl g (fun b5 g => ?_) fun b5 g => ?_
 ·refine C.seq ?_
  refine C.jn (fun (x6 : List Bool) => [(2, .p 1 0), (3, .p 2 0), (4, .p 4 0), (5, .p 5 0)]) (fun x6 => [(0, .box [.i c0]), (1, .box [.sl 1 eB c1.Full, .i c1.Target]), (2, .box [.i c2]), (3, .abs (CapO Try.prog lid (fun x : ApiLayout => [.agg [.sl 1 eB x.Full, .i x.Target]]) E Ex oy)), (4, .box [.v (.func (.yield lid) #[] #[])]), (5, .box [.o 6, .i c1.Target]), (6, .val (.os 1 eB x6))]) 7 g (fun x6 g => ?_) fun J7 g j7 => ?_
  ·refine C.xs (C.ss ?_)
   refine U.pd 2 T (C.nx ?_)
   refine C.jn (fun (x11 : List Bool) => [(4, .p 4 0), (5, .p 5 0)]) (fun x11 => [(0, .box [.i c0]), (1, .box [.sl 1 eB c1.Full, .i c1.Target]), (2, .box [.i c2]), (3, .abs (CapO Try.prog lid (fun x : ApiLayout => [.agg [.sl 1 eB x.Full, .i x.Target]]) E Ex oy)), (4, .box [.v (.func (.yield lid) #[] #[])]), (5, .box [.o 6, .i c1.Target]), (6, .val (.os 1 eB x11))]) 7 g (fun x11 g => ?_) fun J12 g j12 => ?_
   ·refine C.xs ?_
    refine Y.start ?_
    refine Y.pre [0, 1] [2] (by kernel_rfl) (by kernel_rfl) (by repeat (first | exact NoOut.rnd | exact NoOut.body | exact NoOut.bot | refine NoOut.th ?_ | refine NoOut.blk ?_)) ?_
    refine U.pd 2 T (C.nx ?_)
    refine St.wk (Γ' := [(4, .p 4 0), (5, .p 5 0), (33, .v (.func (.yield lid) #[] #[])), (34, .agg [.sl 1 eB x11, .i c1.Target])]) (H' := [(0, .box [.i c0]), (1, .box [.sl 1 eB c1.Full, .i c1.Target]), (2, .box [.i c2]), (3, .abs (CapO Try.prog lid (fun x : ApiLayout => [.agg [.sl 1 eB x.Full, .i x.Target]]) E Ex oy)), (4, .box [.v (.func (.yield lid) #[] #[])]), (5, .box [.sl 1 eB x11, .i c1.Target])]) (nl' := 6) ?_ (Wk.mk' [some 0, some 1, some 2, some 3, some 4, some 5] rfl rfl ⟨⟨_, rfl, (.eq rfl)⟩, ⟨_, rfl, (.eq rfl)⟩, ⟨_, rfl, (.eq rfl)⟩, ⟨_, rfl, (.agg (.cons (.fz rfl rfl rfl (.os fun _ => .cons (.ro rfl) .nil)) (.eq rfl)))⟩, trivial⟩ ⟨bX, bX, bX, ⟨_, rfl, .abs rfl⟩, bX, ⟨_, rfl, .box rfl (.cons (.fz rfl rfl rfl (.os fun _ => .cons (.ro rfl) .nil)) (.eq rfl))⟩, trivial⟩ rfl)
    refine Y.yield (x := ({ Full := x11, Target := c1.Target : ApiLayout })) (c := 3) g rfl rfl rfl rfl rfl rfl rfl rfl fun x23 g => ?_
    refine Y.done ?_
    refine C.nx (C.ret (C.rt ?_))
    exact C.fin T (rs' := []) (H' := [(3, .abs (CapO Try.prog lid (fun x : ApiLayout => [.agg [.sl 1 eB x.Full, .i x.Target]]) E Ex x23.2))]) (nl' := 4) [some 0, some 1, some 2, some 3] rfl rfl (.eq rfl) ⟨⟨_, rfl, .abs rfl⟩, trivial⟩ rfl rfl rfl rfl o ⟨x23.2, g, rfl, rfl, rfl⟩
   ·refine C.block ?_
    refine St.wk (C.loop (fun (s13 : List Bool × Int) => [(2, .p 1 0), (4, .p 4 0), (5, .p 5 0), (6, .i s13.2)]) (fun s13 => [(0, .box [.i c0]), (1, .box [.sl 1 eB c1.Full, .i c1.Target]), (2, .box [.i c2]), (3, .abs (CapO Try.prog lid (fun x : ApiLayout => [.agg [.sl 1 eB x.Full, .i x.Target]]) E Ex oy)), (4, .box [.v (.func (.yield lid) #[] #[])]), (5, .box [.o 6, .i c1.Target]), (6, .val (.os 1 eB s13.1))]) g (fun s13 Y14 g => ?_)) (Wk.f [some 0, some 1, some 2, some 3, some 4, some 5, some 6] ⟨bX, bX, bX, ⟨_, rfl, .abs rfl⟩, bX, bX, vL, trivial⟩)
    refine C.seq (C.ss (U.pd 5 T (C.nx ?_)))
    refine C.ite rfl g (fun b17 g => ?_) fun b17 g => ?_
    ·refine C.skip (C.xs (C.block (U.start ?_)))
     refine U.ps 7 T rfl ?_
     obtain ⟨x20, y20, g⟩ := g
     refine U.r rfl (.none rfl) rfl rfl (by exact Rd.io T rfl rfl rfl rfl rfl rfl rfl y20) ?_
     refine U.e1 rfl (.none rfl) (by exact Eff1.se T (z' := (s13.2 == c1.Target)) rfl rfl rfl (idx_some y20).2.2 rfl rfl rfl rfl rfl rfl rfl rfl (fun _ => rfl) rfl) ?_
     refine U.done (C.bnx (C.nx (U.start (U.pd 3 T (C.nx ?_)))))
     exact St.wk (C.next g) (Wk.f [some 0, some 1, some 2, some 3, some 4, some 5, some 6] ⟨bX, bX, bX, ⟨_, rfl, .abs rfl⟩, bX, bX, vL, trivial⟩)
    ·refine C.exit (C.ex (C.ex (C.bex ?_)))
     exact St.wk (j12 _ g) (Wk.f [some 0, some 1, some 2, some 3, some 4, some 5, some 6] ⟨bX, bX, bX, ⟨_, rfl, .abs rfl⟩, bX, bX, vL, trivial⟩)
  ·refine D.bq mix 7 [1] [] (fun hQ hS ws M' => ?_)
   refine D.pq 4 (zl [0, 1, 3, 4]) T ?_
   refine D.two 2 6 (by kernel_rfl) ?_ ?_
   ·refine D.ef rfl (.none rfl) (by exact Eff.c [] (v := true) (T_slices_Clone_bool_bool c1.Full _ g) en24 rfl rfl rfl (.eq rfl) trivial rfl rfl rfl rfl rfl rfl (fun _ _ => ⟨(.o _), ⟨.val (.os _ _ _ fun _ => (.cons (.v _) .nil)), trivial⟩⟩) (.inr ⟨rfl, rfl⟩) (fun _ => rfl) (fun _ => rfl) rfl) rfl rfl (fun x8' g => ?_)
    obtain ⟨x8⟩ := x8'
    refine D.pq 1 [(5, [])] T ?_
    refine D.e1 6 rfl (.none rfl) (by exact Eff1.al T rfl rfl rfl rfl) (by kernel_rfl) rfl rfl ?_
    refine D.ze1 rfl (.none rfl) (by exact Eff1.st T rfl rfl rfl rfl rfl rfl rfl rfl rfl rfl) (by kernel_rfl) (by kernel_rfl) ?_
    exact St.wk (j7 _ g) (Wk.f [some 0, some 1, some 2, some 3, some 4, some 6, some 5] ⟨bX, bX, bX, ⟨_, rfl, .abs rfl⟩, bX, bX, vL, trivial⟩)
   ·refine D.ef1 rfl (.none rfl) (by exact Eff1.al T rfl rfl rfl rfl) rfl rfl ?_
    refine D.k 2 (T_slices_Clone_bool_bool c1.Full _ g) en24 fun x8 g => ?_
    refine D.pq 1 [(5, [])] T ?_
    refine D.ze1 rfl (.none rfl) (by exact Eff1.st T rfl rfl rfl rfl rfl rfl rfl rfl rfl rfl) (by kernel_rfl) (by kernel_rfl) ?_
    exact St.wk (j7 _ g) (Wk.f [some 0, some 1, some 2, some 3, some 4, some 5, some 6] ⟨bX, bX, bX, ⟨_, rfl, .abs rfl⟩, bX, bX, vL, trivial⟩)
 ·refine C.skip (C.xt ?_)
  refine U.pd 2 T (C.nx ?_)
  refine C.jn (fun (x26 : List Bool × Option (List ApiLayout)) => []) (fun x26 => [(0, .box [.i c0]), (1, .box [.sl 1 eB x26.1, .i c1.Target]), (2, .box [.i c2]), (3, .abs (CapO Try.prog lid (fun x : ApiLayout => [.agg [.sl 1 eB x.Full, .i x.Target]]) E Ex x26.2))]) 4 g (fun x26 g => ?_) fun J27 g j27 => ?_
  ·exact C.fin T (rs' := []) (H' := [(3, .abs (CapO Try.prog lid (fun x : ApiLayout => [.agg [.sl 1 eB x.Full, .i x.Target]]) E Ex x26.2))]) (nl' := 4) [some 0, some 1, some 2, some 3] rfl rfl (.eq rfl) ⟨⟨_, rfl, .abs rfl⟩, trivial⟩ rfl rfl rfl rfl o ⟨x26.2, g, rfl, rfl, rfl⟩
  ·refine C.block ?_
   refine St.wk (C.loop (fun (s28 : List Bool × Option (List ApiLayout) × Int) => [(1, .p 0 0), (2, .p 1 0), (4, .p 4 0), (7, .i s28.2.2)]) (fun s28 => [(0, .box [.i c0]), (1, .box [.sl 1 eB s28.1, .i c1.Target]), (2, .box [.i c2]), (3, .abs (CapO Try.prog lid (fun x : ApiLayout => [.agg [.sl 1 eB x.Full, .i x.Target]]) E Ex s28.2.1)), (4, .box [.v (.func (.yield lid) #[] #[])])]) g (fun s28 Y29 g => ?_)) (Wk.f [some 0, some 1, some 2, some 3, some 4] ⟨bX, bX, bX, ⟨_, rfl, .abs rfl⟩, bX, trivial⟩)
   refine C.seq (C.ss (U.pd 5 T (C.nx ?_)))
   refine C.ite rfl g (fun b32 g => ?_) fun b32 g => ?_
   ·refine C.skip (C.xs ?_)
    refine C.jn (fun (x33 : List Bool × Option (List ApiLayout)) => [(1, .p 0 0), (2, .p 1 0), (4, .p 4 0), (7, .i s28.2.2)]) (fun x33 => [(0, .box [.i c0]), (1, .box [.sl 1 eB x33.1, .i c1.Target]), (2, .box [.i c2]), (3, .abs (CapO Try.prog lid (fun x : ApiLayout => [.agg [.sl 1 eB x.Full, .i x.Target]]) E Ex x33.2)), (4, .box [.v (.func (.yield lid) #[] #[])])]) 5 g (fun x33 g => ?_) fun J34 g j34 => ?_
    ·refine C.nx (U.start ?_)
     refine U.pd 3 T (C.nx ?_)
     exact St.wk (C.next g) (Wk.f [some 0, some 1, some 2, some 3, some 4] ⟨bX, bX, bX, ⟨_, rfl, .abs rfl⟩, bX, trivial⟩)
    ·refine C.block (C.seq (C.seq ?_))
     refine C.jn (fun (x35 : Bool) => [(1, .p 0 0), (2, .p 1 0), (4, .p 4 0), (7, .i s28.2.2), (55, .b x35)]) (fun x35 => [(0, .box [.i c0]), (1, .box [.sl 1 eB s28.1, .i c1.Target]), (2, .box [.i c2]), (3, .abs (CapO Try.prog lid (fun x : ApiLayout => [.agg [.sl 1 eB x.Full, .i x.Target]]) E Ex s28.2.1)), (4, .box [.v (.func (.yield lid) #[] #[])])]) 5 g (fun x35 g => ?_) fun J36 g j36 => ?_
     ·refine C.nx ?_
      refine C.ite rfl g (fun b39 g => ?_) fun b39 g => ?_
      ·refine C.exit (C.ex (C.bex ?_))
       exact St.wk (j34 _ g) (Wk.f [some 0, some 1, some 2, some 3, some 4] ⟨bX, bX, bX, ⟨_, rfl, .abs rfl⟩, bX, trivial⟩)
      ·refine C.skip (C.xs (C.ss ?_))
       refine U.ps 5 T rfl (U.e rfl (.none rfl) (by exact Eff.c [] (v := false) (T_pattern_choices ({ Full := s28.1, Target := c1.Target : ApiLayout }) (w64 (s28.2.2 + 1)) (w64 (c0 - 1)) _ g) en39 rfl rfl rfl (.eq rfl) trivial rfl rfl rfl rfl rfl rfl (fun h => by cases h) (.inr ⟨rfl, rfl⟩) (fun _ => rfl) (fun _ => rfl) rfl) (fun x42' g => ?_))
       obtain ⟨x42⟩ := x42'
       refine U.done (C.nx (C.block ?_))
       obtain ⟨ys43, y47, g⟩ := g
       refine St.wk (C.rangeI (nl := 8) (As := [.p 0 0, .p 1 0, .p 2 0]) (Hc := [(0, .box [.i x42.1]), (1, .box [.sl 1 eB x42.2.1.Full, .i x42.2.1.Target]), (2, .box [.i x42.2.2])]) (encs := (fun x : ApiLayout => [.agg [.sl 1 eB x.Full, .i x.Target]])) (Γ0 := [(1, .p 0 0), (2, .p 1 0), (4, .p 7 0), (7, .i s28.2.2), (61, .fn (.func 50) [] [.p 4 0, .p 5 0, .p 6 0])]) (H := [(0, .box [.i c0]), (1, .box [.sl 1 eB s28.1, .i c1.Target]), (2, .box [.i c2]), (3, .abs (CapO Try.prog lid (fun x : ApiLayout => [.agg [.sl 1 eB x.Full, .i x.Target]]) E Ex s28.2.1)), (4, .box [.i x42.1]), (5, .box [.sl 1 eB x42.2.1.Full, .i x42.2.1.Target]), (6, .box [.i x42.2.2]), (7, .box [.v (.func (.yield lid) #[] #[])])]) (Hf := fun (s45 : Option (List ApiLayout)) => [(0, .box [.i c0]), (1, .box [.sl 1 eB s28.1, .i c1.Target]), (2, .box [.i c2]), (3, .abs (CapO Try.prog lid (fun x : ApiLayout => [.agg [.sl 1 eB x.Full, .i x.Target]]) E Ex s45)), (7, .box [.v (.func (.yield lid) #[] #[])])]) [some 4, some 5, some 6] 8 g (fun lid' E' Ex' => (U_pattern_choices_1__p0_p1_p2 x42.1 x42.2.1 x42.2.2 (some ys43) (fun r => r = none ∨ r = some []) y47 lid' E' Ex').mono (fun A H n ⟨y, hy, hA, hH, hn⟩ => ⟨3, by rcases hy with rfl | rfl; exact .inr hH; exact .inl hH⟩)) en50 rfl rfl rfl (.eq rfl) ⟨bX, bX, bX, trivial⟩ rfl rfl rfl rfl (fun _ _ => rfl) rfl (fun _ => rfl) (fun x44 s45 Y46 g w0 ok M β l => ?_) (fun s52 g => ?_)) (Wk.f [some 0, some 1, some 2, some 3, some 5, some 6, some 7, some 4] ⟨bX, bX, bX, ⟨_, rfl, .abs rfl⟩, bX, bX, bX, bX, trivial⟩)
       ·refine UI.start (by kernel_rfl) (by repeat (first | exact NoOut.rnd | exact NoOut.body | exact NoOut.bot | refine NoOut.th ?_ | refine NoOut.blk ?_)) ?_
        refine U.al T ?_
        refine U.st T ?_
        refine U.done (C.nx (CI.turn (fun w0 => ?_)))
        refine CI.block ?_
        refine CI.seq ?_
        refine Y.startR ?_
        refine Y.pre [0, 1] [2, 3] (by kernel_rfl) (by kernel_rfl) (by repeat (first | exact NoOut.rnd | exact NoOut.body | exact NoOut.bot | refine NoOut.th ?_ | refine NoOut.blk ?_)) ?_
        refine U.pd 2 T (C.nx ?_)
        refine Y.yield (x := x44) (c := 3) g rfl rfl rfl rfl rfl rfl rfl rfl fun x50 g => ?_
        refine Y.pre [3] [] (by kernel_rfl) (by kernel_rfl) (by repeat (first | exact NoOut.rnd | exact NoOut.body | exact NoOut.bot | refine NoOut.th ?_ | refine NoOut.blk ?_)) ?_
        refine U.pd 1 T (C.nx ?_)
        refine Y.done ?_
        refine C.nx ?_
        refine CI.ite rfl g (fun b51 g => ?_) fun b51 g => ?_
        ·refine CI.ret ?_
         refine C.brt (CI.leaveR ?_)
         refine C.ret (C.brt (C.rt (C.brt (C.rt (C.rt (C.brt ?_))))))
         exact C.fin T (rs' := []) (H' := [(3, .abs (CapO Try.prog lid (fun x : ApiLayout => [.agg [.sl 1 eB x.Full, .i x.Target]]) E Ex x50.2))]) (nl' := 4) [some 0, some 1, some 2, some 3] rfl rfl (.eq rfl) ⟨⟨_, rfl, .abs rfl⟩, trivial⟩ rfl rfl rfl rfl o ⟨x50.2, g, rfl, rfl, rfl⟩
        ·refine CI.skip ?_
         refine C.bnx ?_
         exact St.wk (CI.next g) (Wk.mk' [some 0, some 1, some 2, some 3, some 4, some 5, some 6, some 7] rfl rfl trivial ⟨bX, bX, bX, ⟨_, rfl, .abs rfl⟩, bX, trivial⟩ rfl)
       ·refine C.bnx (C.xt ?_)
        refine U.ps 2 T rfl (U.k (T_slices_Clone_bool_bool s28.1 _ g) en24 (fun x55 g => ?_))
        refine U.ps 1 T rfl (U.st T ?_)
        refine U.done (C.nx (U.start (U.ps 3 T rfl ?_)))
        obtain ⟨x58, y58, g⟩ := g
        refine U.r rfl (.none rfl) rfl rfl (by exact Rd.io T rfl rfl rfl rfl rfl rfl rfl y58) ?_
        refine U.e1 rfl (.none rfl) (by exact Eff1.se T (z' := false) rfl rfl rfl (idx_some y58).2.2 rfl rfl rfl rfl rfl rfl rfl rfl (fun _ => rfl) rfl) ?_
        refine U.done (C.bnx ?_)
        exact St.wk (j34 _ g) (Wk.mk' [some 0, some 1, some 2, some 3, some 7] rfl rfl (.eqs rfl) ⟨bX, ⟨_, rfl, .box rfl (.cons (.fz rfl rfl rfl (.os fun _ => .cons (.ro rfl) .nil)) (.eq rfl))⟩, bX, ⟨_, rfl, .abs rfl⟩, bX, trivial⟩ rfl)
     ·refine U.start ?_
      refine U.ps 3 T rfl ?_
      obtain ⟨x37, y37, g⟩ := g
      refine U.ix T y37 ?_
      refine U.ps 3 T rfl ?_
      refine g.cs (fun b38 g => ?_) fun b38 g => ?_
      ·refine U.pq 4 6 false 50 (ntF b38) T ?_
       refine U.pk' (ntF b38) ?_
       refine U.done ?_
       exact St.wk (j36 _ g) (Wk.f [some 0, some 1, some 2, some 3, some 4] ⟨bX, bX, bX, ⟨_, rfl, .abs rfl⟩, bX, trivial⟩)
      ·refine U.sk' 4 6 false 50 (ntT b38) ?_
       refine U.pk (ntT b38) ?_
       refine U.done ?_
       exact St.wk (j36 _ g) (Wk.f [some 0, some 1, some 2, some 3, some 4] ⟨bX, bX, bX, ⟨_, rfl, .abs rfl⟩, bX, trivial⟩)
   ·refine C.exit (C.ex (C.ex (C.bex ?_)))
    exact St.wk (j27 _ g) (Wk.mk' [some 0, some 1, some 2, some 3] rfl rfl trivial ⟨bX, bX, bX, ⟨_, rfl, .abs rfl⟩, trivial⟩ rfl)
theorem T_pattern_DB_Bound (d : PatternDB) (l : ApiLayout) (post : Int → Prop) (g : V_pattern_DB_Bound d l post) :
    Tr Try.prog 28 [.rp [.i d.cells, .i d.goal, .sl 1 eLeI d.tables], .agg [.sl 1 eB l.Full, .i l.Target]] [] 0 (pI post) := by
 refine Tr.go Try.func28 Try.ntmps28 fun _ _ _ _ o => ?_
 unfold V_pattern_DB_Bound at g
 refine C.ss (U.bx ?_)
 refine U.bx ?_
 refine U.al T ?_
 refine U.done (C.xs (D.bq mix 9999 [0, 1] [] (fun hQ hS ws M' => ?_)))
 refine D.pq 6 (zl [0, 2, 3, 4, 5, 6]) T ?_
 refine D.k 1 (T_layout_Shelves l _ g) en12 fun x5 g => ?_
 refine D.pq 3 (zl [7, 8, 9]) T ?_
 refine D.done (by kernel_rfl) ?_
 refine C.xt (U.al T ?_)
 refine U.st T ?_
 refine U.done (C.xs (C.ss (U.ps 2 T rfl (U.e rfl (.none rfl) (by exact Eff.c [] (v := false) (T_pattern_choices l 0 (w64 ((imin x5 (d.tables.length : Int)) - 1)) _ g) en39 rfl rfl rfl (.eq rfl) trivial rfl rfl rfl rfl rfl rfl (fun h => by cases h) (.inr ⟨rfl, rfl⟩) (fun _ => rfl) (fun _ => rfl) rfl) (fun x10' g => ?_)))))
 obtain ⟨x10⟩ := x10'
 refine U.done (C.nx (C.block ?_))
 obtain ⟨ys11, y15, g⟩ := g
 refine St.wk (C.rangeI (nl := 6) (As := [.p 0 0, .p 1 0, .p 2 0]) (Hc := [(0, .box [.i x10.1]), (1, .box [.sl 1 eB x10.2.1.Full, .i x10.2.1.Target]), (2, .box [.i x10.2.2])]) (encs := (fun x : ApiLayout => [.agg [.sl 1 eB x.Full, .i x.Target]])) (Γ0 := [(2, .p 3 0), (4, .p 4 0), (6, .p 5 0), (21, .fn (.func 50) [] [.p 0 0, .p 1 0, .p 2 0])]) (H := [(0, .box [.i x10.1]), (1, .box [.sl 1 eB x10.2.1.Full, .i x10.2.1.Target]), (2, .box [.i x10.2.2]), (3, .box [.rp [.i d.cells, .i d.goal, .sl 1 eLeI d.tables]]), (4, .box [.i 0]), (5, .box [.i 0])]) (Hf := fun (s13 : Int) => [(3, .box [.rp [.i d.cells, .i d.goal, .sl 1 eLeI d.tables]]), (4, .box [.i 0]), (5, .box [.i s13])]) [some 0, some 1, some 2] 6 g (fun lid' E' Ex' => (T_pattern_choices_1__p0_p1_p2 x10.1 x10.2.1 x10.2.2 (some ys11) (fun r => r = none ∨ r = some []) y15 lid' E' Ex').mono (fun A H n ⟨y, hy, hA, hH, hn⟩ => ⟨3, by rcases hy with rfl | rfl; exact .inr hH; exact .inl hH⟩)) en50 rfl rfl rfl (.eq rfl) ⟨bX, bX, bX, trivial⟩ rfl rfl rfl rfl (fun _ _ => rfl) rfl (fun _ => rfl) (fun x12 s13 Y14 g w0 ok M β l => ?_) (fun s28 g => ?_)) (Wk.a [some 4, some 5, some 6, some 0, some 2, some 3])
 refine UI.start (by kernel_rfl) (by repeat (first | exact NoOut.rnd | exact NoOut.body | exact NoOut.bot | refine NoOut.th ?_ | refine NoOut.blk ?_)) ?_
 refine U.al T ?_
 refine U.st T ?_
 refine U.done (C.nx (CI.turn (fun w0 => ?_)))
 refine CI.block ?_
 refine CI.seq ?_
 refine UI.start (by kernel_rfl) (by repeat (first | exact NoOut.rnd | exact NoOut.body | exact NoOut.bot | refine NoOut.th ?_ | refine NoOut.blk ?_)) ?_
 refine U.ps 2 T rfl (U.k (T_pattern_DB_Dist d x12 _ g) en40 (fun x20 g => ?_))
 refine U.pd 5 T (C.nx ?_)
 refine CI.seq ?_
 refine CI.seq ?_
 refine UI.start (by kernel_rfl) (by repeat (first | exact NoOut.rnd | exact NoOut.body | exact NoOut.bot | refine NoOut.th ?_ | refine NoOut.blk ?_)) ?_
 refine U.pd 2 T (C.nx ?_)
 refine CI.ite rfl g (fun b23 g => ?_) fun b23 g => ?_
 refine CI.seq ?_
 refine UI.start (by kernel_rfl) (by repeat (first | exact NoOut.rnd | exact NoOut.body | exact NoOut.bot | refine NoOut.th ?_ | refine NoOut.blk ?_)) ?_
 refine U.st T ?_
 refine U.done (C.nx (CI.ret ?_))
 refine C.rt (C.brt (CI.leaveR ?_))
 refine C.ret (C.brt (C.rt ?_))
 exact C.f1 T o (pIi g)
 refine CI.skip ?_
 refine C.nx ?_
 refine UI.start (by kernel_rfl) (by repeat (first | exact NoOut.rnd | exact NoOut.body | exact NoOut.bot | refine NoOut.th ?_ | refine NoOut.blk ?_)) ?_
 refine U.ps 3 T rfl (U.st T ?_)
 refine U.done (C.bnx ?_)
 exact St.wk (CI.next g) (Wk.mk' [some 0, some 1, some 2, some 3, some 4, some 5] rfl rfl trivial ⟨bX, bX, bX, trivial⟩ rfl)
 refine C.bnx (C.xt (U.ps 1 T rfl (U.st T ?_)))
 refine U.done (C.nx (C.ret ?_))
 exact C.f1 T o (pIi g)
theorem T_relocate_search_add_1 (a : RelocateNode) (b : RelocateNode) (post : Int → Prop) (g : V_relocate_search_add_1 a b post) :
    Tr Try.prog 30 [.agg (eRelocateNode a), .agg (eRelocateNode b)] [] 0 (pI post) := by
 refine Tr.go Try.func30 Try.ntmps30 fun _ _ _ _ o => ?_
 unfold V_relocate_search_add_1 at g
 refine C.ss (U.bx ?_)
 refine U.bx ?_
 refine U.pd 1 T (C.xs (C.ss ?_))
 refine U.pd 5 T (C.nx ?_)
 refine C.ite rfl g (fun b5 g => ?_) fun b5 g => ?_
 refine C.ss (U.pd 6 T (C.nx (C.ret (C.rt ?_))))
 exact C.f1 T o (pIi g)
 refine C.skip (C.xt (U.pd 6 T (C.nx (C.ret ?_))))
 exact C.f1 T o (pIi g)
theorem T_slices_BinarySearchFunc_relocate_node_relocate_node_relocate_node__relocate_search_add_1 (x_1 : List RelocateNode) (target : RelocateNode) (post : (Int × Bool) → Prop) (g : V_slices_BinarySearchFunc_relocate_node_relocate_node_relocate_node__relocate_search_add_1 x_1 target post) :
    Tr Try.prog 29 [.sl 8 eRelocateNode x_1, .agg (eRelocateNode target), .fn (.func 30) [] []] [] 0 (fun A H' k => ∃ y, post y ∧ A = (.tup [.i y.1, .b y.2]) ∧ H' = [] ∧ k = 0) := by
 refine Tr.go Try.func29 Try.ntmps29 fun _ _ _ _ o => ?_
 unfold V_slices_BinarySearchFunc_relocate_node_relocate_node_relocate_node__relocate_search_add_1 at g
 refine C.ss (U.bx ?_)
 refine U.pd 2 T (C.xt ?_)
 refine U.pd 3 T (C.xt ?_)
 refine U.pd 3 T (C.xs ?_)
 refine C.jn (fun (x7 : Int) => [(0, .sl 8 eRelocateNode x_1), (2, .fn (.func 30) [] []), (4, .p 0 0), (8, .i (x_1.length : Int)), (9, .i x7)]) (fun x7 => [(0, .box (eRelocateNode target))]) 1 g (fun x7 g => ?_) fun J8 g j8 => ?_
 refine C.xs ?_
 refine C.jn (fun (x28 : Bool) => [(6, .i x7), (7, .b x28)]) (fun x28 => []) 0 g (fun x28 g => ?_) fun J29 g j29 => ?_
 refine C.nx (C.ret ?_)
 exact C.f9 T o ⟨(x7, x28), g, rfl, rfl, rfl⟩
 refine D.bq mix 9999 [0] [] (fun hQ hS ws M' => ?_)
 refine D.pq 5 (zl [0, 1, 2, 3, 4]) T ?_
 refine g.cs (fun b30 g => ?_) fun b30 g => ?_
 refine D.pt 5 [] 4 true 39 b30 T ?_
 refine D.pt 6 [] 4 true 39 b30 T ?_
 refine D.pt 7 [] 4 true 39 b30 T ?_
 obtain ⟨x31, y31, g⟩ := g
 refine D.q 8 [] hQ hS rfl (.tk 4 true 39 b30) rfl rfl (by exact Rd.ix T rfl rfl rfl rfl rfl rfl y31) rfl (by kernel_rfl) ?_
 refine D.q 9 [] hQ hS rfl (.tk 4 true 39 b30) rfl rfl (by exact Rd.l T rfl rfl rfl) rfl (by kernel_rfl) ?_
 refine D.q 10 [] hQ hS rfl (.tk 4 true 39 b30) rfl rfl (by exact Rd.l T rfl rfl rfl) rfl (by kernel_rfl) ?_
 refine D.k 11 (T_relocate_search_add_1 x31 target _ g) en30 (fun x32 g => ?_) (hw := .take 4 true 39 _ b30 rfl rfl rfl)
 refine D.pt 12 [] 4 true 39 b30 T ?_
 refine D.kt 13 [] b30 ?_
 refine D.pq 2 (zl [14, 15]) T ?_
 refine D.done (by kernel_rfl) ?_
 exact St.wn (j29 _ g)
 refine D.sz 5 [] 4 true 39 b30 ?_
 refine D.sz 6 [] 4 true 39 b30 ?_
 refine D.sz 7 [] 4 true 39 b30 ?_
 refine D.sz 8 [] 4 true 39 b30 ?_
 refine D.sz 9 [] 4 true 39 b30 ?_
 refine D.sz 10 [] 4 true 39 b30 ?_
 refine D.sz 11 [] 4 true 39 b30 ?_
 refine D.sz 12 [] 4 true 39 b30 ?_
 refine D.kf 13 [] b30 ?_
 refine D.pq 2 (zl [14, 15]) T ?_
 refine D.done (by kernel_rfl) ?_
 exact St.wn (j29 _ g)
 refine C.block (St.wk (C.loop (fun (s9 : Int × Int) => [(0, .sl 8 eRelocateNode x_1), (2, .fn (.func 30) [] []), (4, .p 0 0), (8, .i (x_1.length : Int)), (9, .i s9.1), (10, .i s9.2)]) (fun s9 => [(0, .box (eRelocateNode target))]) g (fun s9 Y10 g => ?_)) (Wk.a [some 0]))
 refine C.seq (C.ss (U.pd 3 T (C.nx ?_)))
 refine C.ite rfl g (fun b13 g => ?_) fun b13 g => ?_
 refine C.skip (C.nx (C.block (C.ss (U.ps 4 T rfl (U.r rfl (.none rfl) rfl rfl (by exact Rd.sh rfl rfl rfl rfl (by decide)) ?_)))))
 refine U.pd 2 T (C.xs ?_)
 refine D.bq mix 9999 [0] [] (fun hQ hS ws M' => ?_)
 refine D.pq 3 (zl [0, 1, 2]) T ?_
 obtain ⟨x19, y19, g⟩ := g
 refine D.ix 3 [] T y19 ?_
 refine D.pq 2 (zl [4, 5]) T ?_
 refine D.k 6 (T_relocate_search_add_1 x19 target _ g) en30 fun x20 g => ?_
 refine D.pq 1 [(7, [])] T ?_
 refine D.done (by kernel_rfl) ?_
 refine C.nx ?_
 refine C.jn (fun (x21 : Int × Int) => [(0, .sl 8 eRelocateNode x_1), (2, .fn (.func 30) [] []), (4, .p 0 0), (8, .i (x_1.length : Int)), (9, .i x21.1), (10, .i x21.2)]) (fun x21 => [(0, .box (eRelocateNode target))]) 1 g (fun x21 g => ?_) fun J22 g j22 => ?_
 refine C.bnx (C.nx ?_)
 exact St.wk (C.next g) (Wk.a [some 0])
 refine C.ite rfl g (fun b23 g => ?_) fun b23 g => ?_
 refine U.start (U.pd 3 T ?_)
 exact St.wa [some 0] (j22 _ g)
 refine U.start (U.pd 2 T ?_)
 exact St.wa [some 0] (j22 _ g)
 refine C.exit (C.ex (C.ex (C.bex ?_)))
 exact St.wa [some 0] (j8 _ g)
theorem T_slices_Insert_relocate_node_relocate_node__o0_o1_end (i : Int) (s_1 : List RelocateNode) (v : List RelocateNode) (post : (List RelocateNode × List RelocateNode) → Prop) (g : V_slices_Insert_relocate_node_relocate_node__o0_o1_end i s_1 v post) :
    Tr Try.prog 31 [.o 0, .i i, .o 1] [(0, .val (.os 8 eRelocateNode s_1)), (1, .val (.os 8 eRelocateNode v))] 2 (fun A H' k => ∃ y, post y ∧ A = (.o 2) ∧ H' = [(1, .val (.os 8 eRelocateNode y.2)), (2, .val (.os 8 eRelocateNode y.1))] ∧ k = 3) := by
 refine Tr.go Try.func31 Try.ntmps31 fun _ _ _ _ o => ?_
 unfold V_slices_Insert_relocate_node_relocate_node__o0_o1_end at g
 refine C.ss (U.pd 1 T (C.xt ?_))
 refine U.ps 2 T rfl ?_
 obtain ⟨y5, g⟩ := g
 refine U.r rfl (.none rfl) rfl rfl (by exact Rd.vw T rfl rfl rfl rfl rfl rfl (.some _ rfl) (.none _) y5) ?_
 refine U.done (C.xt (U.pd 3 T (C.xs (C.ss ?_))))
 refine U.pd 2 T (C.nx ?_)
 refine C.ite rfl g (fun b10 g => ?_) fun b10 g => ?_
 refine C.ss (U.pd 2 T (C.nx (C.ret (C.rt ?_))))
 exact C.g1 [some 0, some 1, some 0] T o ⟨(s_1, v), g, rfl, rfl, rfl⟩
 refine C.skip (C.xt (U.pd 3 T (C.xs (C.ss ?_))))
 refine U.pd 3 T (C.nx ?_)
 refine C.ite rfl g (fun b17 g => ?_) fun b17 g => ?_
 refine C.ss (U.ps 2 T rfl ?_)
 obtain ⟨y20, g⟩ := g
 refine U.ap T y20 ?_
 refine U.pd 1 T (C.nx (C.ret (C.rt ?_)))
 exact C.g1 (idR 3) T o ⟨((s_1 ++ v), v), g, rfl, rfl, rfl⟩
 exact g.elim
theorem ov31 (w : World) {b off lb cb vb voff m vc : Nat} {cc cv : Array Value} {Tb Tv : TypeId} (hwb : w.heap[b]? = some (.cells cc Tb (0, 0))) (hwv : w.heap[vb]? = some (.cells cv Tv (0, 0))) (hne : vb ≠ b) (b0 : cc.size ≠ 0) :
    (callFunc 41 #[.slice (some ⟨vb, voff, none⟩) m vc, .slice (some ⟨b, off, none⟩) lb cb]).run Try.prog w = .ok (.value (.bool false)) w := by
  rw [run_callFunc_extern Try.func41 (by kernel_rfl) (by kernel_rfl) (by kernel_rfl) (e := Extern.SlicesOverlaps.overlaps #[50, 50] #[4]) (by kernel_rfl),
    Lib.run_overlaps_apart w 50 4 67 Try.underlying50 8 Try.sizeOf67 ⟨vb, voff, none⟩ ⟨b, off, none⟩ m vc lb cb hne Tv Tb cv.size cc.size (by simp [World.shape?, hwv]) (by simp [World.shape?, hwb]) b0 (by simp [World.frozen?, hwv]) (by simp [World.frozen?, hwv])]
  rfl
set_option maxHeartbeats 4000000 in
theorem inR31 (w : World) (b off n c i vb voff m vc : Nat) (cb cv : Array Value) (Tb Tv : TypeId) (hwb : w.heap[b]? = some (.cells cb Tb (0, 0))) (hwv : w.heap[vb]? = some (.cells cv Tv (0, 0))) (hne : vb ≠ b) (hi : i < n) (g : 0 < m) (hmv : m ≤ vc) (hcb : off + c * 8 ≤ cb.size) (hcv : voff + vc * 8 ≤ cv.size)
    (ho1 : ∀ q, q < n * 8 → (cb.getD (off + q) undef).oneCell' = true) (ho2 : ∀ q, q < m * 8 → (cv.getD (voff + q) undef).oneCell' = true) (hroom : n + m ≤ c) (hnm : n + m ≤ 1099511627776) :
    Calls Try.prog 31 #[.slice (some ⟨b, off, none⟩) n c, .int .i64 i, .slice (some ⟨vb, voff, none⟩) m vc] w fun e w' => e = .returned (.slice (some ⟨b, off, none⟩) (n + m) c) ∧
      w' = (w.drew.setRow b (spl cb (off + (i + m) * 8) cb (off + i * 8) ((n - i) * 8))).setRow b (spl (spl cb (off + (i + m) * 8) cb (off + i * 8) ((n - i) * 8)) (off + i * 8) cv voff (m * 8)) := by
  have u0 := run_underlying Try.underlying0; have u3 := run_underlying Try.underlying3; have u4 := run_underlying Try.underlying4; have uS := run_underlying Try.underlying50
  have zE := Try.sizeOf67
  have hz1 : ¬ ((m : Int) = 0) := by omega
  have hz2 : ¬ ((i : Int) = (n : Int)) := by omega
  have hz3 : ¬ ((c : Int) < (n : Int) + (m : Int)) := by omega
  have hw1 : IntKind.i64.wrap ((i : Int) + (m : Int)) = (i : Int) + (m : Int) := IntWalk.i64_in _ (by omega)
  have hw2 : IntKind.i64.wrap ((n : Int) + (m : Int)) = (n : Int) + (m : Int) := IntWalk.i64_in _ (by omega)
  have b1 : (0 : Int) ≤ (i : Int) + (m : Int) := by omega
  have hin : i ≤ n := by omega
  have htn : ((i : Int) + (m : Int)).toNat = i + m := by omega
  have b2 : ¬ (c = i + m) := by omega
  have b3 : (i : Int) ≤ (n : Int) + (m : Int) := by omega
  have b4 : ¬ (c = i) := by omega
  have hN1 : (i + m) * 8 + (n - i) * 8 = (n + m) * 8 := by rw [← Nat.add_mul]; congr 1; omega
  have hN2 : i * 8 + (n - i) * 8 = n * 8 := by rw [← Nat.add_mul]; congr 1; omega
  have hN3 : (n + m) * 8 ≤ c * 8 := Nat.mul_le_mul_right _ hroom
  have hN4 : n * 8 ≤ c * 8 := Nat.mul_le_mul_right _ (by omega)
  have hN5 : i * 8 + m * 8 = (i + m) * 8 := (Nat.add_mul _ _ _).symm
  have hN6 : (i + m) * 8 ≤ c * 8 := Nat.mul_le_mul_right _ (by omega)
  have hN7 : m * 8 ≤ vc * 8 := Nat.mul_le_mul_right _ hmv
  have hsz0 : cb.size ≠ 0 := by
    have : 1 * 8 ≤ c * 8 := Nat.mul_le_mul_right _ (by omega)
    omega
  have hov : ∀ lb cb2, (callFunc 41 #[.slice (some ⟨vb, voff, none⟩) m vc, .slice (some ⟨b, off + (i + m) * 8, none⟩) lb cb2]).run Try.prog w = .ok (.value (.bool false)) w := fun lb cb2 => ov31 w hwb hwv hne hsz0
  have hcp1 : ∀ ty dc sc, (Builtin.copy_ #[50, 50] ty #[.slice (some ⟨b, off + (i + m) * 8, none⟩) (n + m - (i + m)) dc, .slice (some ⟨b, off + i * 8, none⟩) (n + m - i) sc]).run Try.prog w.drew = .ok (goInt (n - i : Nat)) (w.drew.setRow b (spl cb (off + (i + m) * 8) cb (off + i * 8) ((n - i) * 8))) := fun ty dc sc =>
    run_copyRaw (K := 8) Try.underlying50 zE w.drew (k := n - i) hwb hwb (by simp only [Nat.min_def]; split <;> omega) (by omega) (by omega) (fun q hq => by rw [Nat.add_assoc]; exact ho1 _ (by omega)) ty
  have hW1 : (w.drew.setRow b (spl cb (off + (i + m) * 8) cb (off + i * 8) ((n - i) * 8))).heap[b]? = some (.cells (spl cb (off + (i + m) * 8) cb (off + i * 8) ((n - i) * 8)) Tb (0, 0)) := setRow_heap w.drew b cb _ Tb (0, 0) hwb
  have hW2 : (w.drew.setRow b (spl cb (off + (i + m) * 8) cb (off + i * 8) ((n - i) * 8))).heap[vb]? = some (.cells cv Tv (0, 0)) := by rw [setRow_other w.drew b vb _ hne]; exact hwv
  generalize hc1 : spl cb (off + (i + m) * 8) cb (off + i * 8) ((n - i) * 8) = c1 at *
  have hc1s : c1.size = cb.size := by rw [← hc1]; exact spl_size (by omega) (by omega)
  have hcp2 : ∀ ty dc, (Builtin.copy_ #[50, 50] ty #[.slice (some ⟨b, off + i * 8, none⟩) (n + m - i) dc, .slice (some ⟨vb, voff, none⟩) m vc]).run Try.prog (w.drew.setRow b c1) = .ok (goInt m) ((w.drew.setRow b c1).setRow b (spl c1 (off + i * 8) cv voff (m * 8))) := fun ty dc =>
    run_copyRaw (K := 8) Try.underlying50 zE (w.drew.setRow b c1) (k := m) hW1 hW2 (by simp only [Nat.min_def]; split <;> omega) (by omega) (by omega) ho2 ty
  clear hc1 hN1 hN2 hN3 hN4 hN5 hN6 hN7 ho1 ho2 hW1 hW2
  go_enter Try.func31, Try.ntmps31
  go_wp2_with (simp only [hov])
  go_region_law (refine step_cpI rfl _ _ 50 50 rfl _ _ (by simp [Act.eval, Act.put]) (by simp [Act.eval, Act.put]) (hcp1 _ _ _) ?_)
  go_wp2_with (at_builtin; refine wpList_cpI _ rfl _ _ 50 50 rfl _ _ rfl rfl (hcp2 _ _) ?_)
  go_ret
  exact ⟨rfl, rfl⟩
set_option maxHeartbeats 4000000 in
theorem inG31 (w : World) (b off n c i vb voff m vc : Nat) (cb cv : Array Value) (Tb Tv : TypeId) (hwb : w.heap[b]? = some (.cells cb Tb (0, 0))) (hwv : w.heap[vb]? = some (.cells cv Tv (0, 0))) (hi : i < n) (hnc : n ≤ c) (g : 0 < m) (hmv : m ≤ vc) (hcb : off + c * 8 ≤ cb.size) (hcv : voff + vc * 8 ≤ cv.size)
    (ho1 : ∀ q, q < n * 8 → (cb.getD (off + q) undef).oneCell' = true) (ho2 : ∀ q, q < m * 8 → (cv.getD (voff + q) undef).oneCell' = true) (hroom : c < n + m) (hnm : n + m ≤ 1099511627776) :
    ∃ (G : Nat) (row : Array Value), n + m ≤ G ∧ row.size = G * 8 ∧ (∀ q, q < i * 8 → row.getD q undef = cb.getD (off + q) undef) ∧
    Calls Try.prog 31 #[.slice (some ⟨b, off, none⟩) n c, .int .i64 i, .slice (some ⟨vb, voff, none⟩) m vc] w fun e w' => e = .returned (.slice (some ⟨w.heap.size, 0, none⟩) (n + m) G) ∧
      w'.heap = (((w.alloc (.cells row 67)).setRow w.heap.size (spl row (i * 8) cv voff (m * 8))).setRow w.heap.size (spl (spl row (i * 8) cv voff (m * 8)) ((i + m) * 8) cb (off + i * 8) ((n - i) * 8))).heap ∧ w'.os = w.os ∧ w'.tape = w.tape ∧ w'.output = w.output ∧ w.drawn ≤ w'.drawn := by
  have u0 := run_underlying Try.underlying0; have u3 := run_underlying Try.underlying3; have u4 := run_underlying Try.underlying4; have uS := run_underlying Try.underlying50
  have zE := Try.sizeOf67
  obtain ⟨_, inf, z, hinf, hsz, hby, hz0, hzc, _, hzl, _⟩ := teok67
  have hzs : z.cells.size = 8 := by rw [← Array.length_toList, hzc]; exact hzl
  have hby2 : inf.bytes ≤ 128 := by rw [hby]; decide
  have hsz2 : inf.size = 8 := hsz
  have hkk : (n : Int) + (m : Int) - (i : Int) = ((n + m - i : Nat) : Int) := by omega
  have hik : i + (n + m - i) = n + m := by omega
  have hN3 : (n + m - i) * 8 = (n + m) * 8 - i * 8 := Nat.sub_mul _ _ _
  have hN4 : n * 8 ≤ c * 8 := Nat.mul_le_mul_right _ hnc
  have hN2 : i * 8 + (n - i) * 8 = n * 8 := by rw [← Nat.add_mul]; congr 1; omega
  have hN1 : (i + m) * 8 + (n - i) * 8 = (n + m) * 8 := by rw [← Nat.add_mul]; congr 1; omega
  have hN5 : i * 8 + m * 8 = (i + m) * 8 := (Nat.add_mul _ _ _).symm
  have hN7 : m * 8 ≤ vc * 8 := Nat.mul_le_mul_right _ hmv
  have hN8 : (n + m) * inf.bytes ≤ 1099511627776 * 128 := Nat.mul_le_mul hnm hby2
  have hN9 : (n + m - i) * inf.bytes ≤ (n + m) * inf.bytes := Nat.mul_le_mul_right _ (by omega)
  have hol : ((cb.toList.drop off).take (i * 8)).length = i * inf.size := by rw [hsz2]; simp; omega
  have hold : (Builtin.firstCells inf.size i (.slice (some ⟨b, off, none⟩) i c)).run Try.prog w.drew = .ok ((cb.toList.drop off).take (i * 8)).toArray w.drew :=
    run_firstCells_some w.drew inf.size i ⟨b, off, none⟩ i c _ hol (cells_at (w := w.drew) hwb (by omega))
  obtain ⟨G, hG⟩ : ∃ G, G = grownCap w (n + m) c 67 := ⟨_, rfl⟩
  have hGn : n + m ≤ G := by rw [hG]; exact grownCap_ge w _ _ _
  obtain ⟨row, hrow⟩ : ∃ row : Array Value, row = ((cb.toList.drop off).take (i * 8)).toArray ++ Builtin.zeroCells z.cells (n + m - i) ++ Builtin.zeroCells z.cells (G - (n + m)) := ⟨_, rfl⟩
  have hrz : ∀ ty, (Builtin.append_ #[50, 3] ty #[.slice (some ⟨b, off, none⟩) i c, .int .i64 ((n : Int) + (m : Int) - (i : Int))]).run Try.prog w = .ok (.slice (some ⟨w.heap.size, 0, none⟩) (n + m) G) (w.drew.alloc (.cells row 67)) := fun ty => by
    have h := Lib.run_append_grow_zeros w 50 3 ty 67 inf z .i64 .i64 Try.underlying50 Try.underlying3 hinf hz0 (some ⟨b, off, none⟩) i c _ hold (n + m - i) (by omega) (by rw [hsz2]; decide) (by omega) (by omega) (by omega) (by rw [hik]; exact growslice_fits hroom (by omega))
    rw [hik] at h
    rw [hkk, hrow, hG]
    exact h
  have hrs : row.size = G * 8 := by
    have : (G - (n + m)) * 8 = G * 8 - (n + m) * 8 := Nat.sub_mul _ _ _
    have : (n + m) * 8 ≤ G * 8 := Nat.mul_le_mul_right _ hGn
    have hl2 : ((cb.toList.drop off).take (i * 8)).length = i * 8 := by rw [hol, hsz2]
    rw [hrow]; simp only [Array.size_append, size_zeroCells, hzs, List.size_toArray]; omega
  refine ⟨G, row, hGn, hrs, fun q hq => ?_, ?_⟩
  · have h1 : q < ((cb.toList.drop off).take (i * 8)).toArray.size := by simp only [List.size_toArray]; rw [hol, hsz2]; exact hq
    rw [hrow, Array.getD_eq_getD_getElem?, Array.append_assoc, Array.getElem?_append_left h1, List.getElem?_toArray, List.getElem?_take, if_pos hq, List.getElem?_drop, Array.getD_eq_getD_getElem?]; simp
  have hw1 : IntKind.i64.wrap ((i : Int) + (m : Int)) = (i : Int) + (m : Int) := IntWalk.i64_in _ (by omega)
  have hw2 : IntKind.i64.wrap ((n : Int) + (m : Int)) = (n : Int) + (m : Int) := IntWalk.i64_in _ (by omega)
  have hw3 : IntKind.i64.wrap ((n : Int) + (m : Int) - (i : Int)) = (n : Int) + (m : Int) - (i : Int) := IntWalk.i64_in _ (by omega)
  have hGK : (n + m) * 8 ≤ G * 8 := Nat.mul_le_mul_right _ hGn
  have hbw : b < w.heap.size := heap_lt hwb
  have hvw : vb < w.heap.size := heap_lt hwv
  have hA0 : (w.alloc (.cells row 67)).heap[w.heap.size]? = some (.cells row 67 (0, 0)) := heap_alloc_new w _
  have hAb : (w.alloc (.cells row 67)).heap[b]? = some (.cells cb Tb (0, 0)) := (RowKit.Below.heap_alloc w _ b hbw).trans hwb
  have hAv : (w.alloc (.cells row 67)).heap[vb]? = some (.cells cv Tv (0, 0)) := (RowKit.Below.heap_alloc w _ vb hvw).trans hwv
  have hcpA : ∀ (W : World), W.heap = (w.alloc (.cells row 67)).heap → ∀ ty dc, (Builtin.copy_ #[50, 50] ty #[.slice (some ⟨w.heap.size, i * 8, none⟩) (n + m - i) dc, .slice (some ⟨vb, voff, none⟩) m vc]).run Try.prog W = .ok (goInt m) (W.setRow w.heap.size (spl row (i * 8) cv voff (m * 8))) := fun W hW ty dc => by
    exact run_copyRaw (K := 8) Try.underlying50 zE W (k := m) (by rw [hW]; exact hA0) (by rw [hW]; exact hAv) (by simp only [Nat.min_def]; split <;> omega) (by omega) (by omega) ho2 ty
  have hr1 : (spl row (i * 8) cv voff (m * 8)).size = row.size := spl_size (by omega) (by omega)
  have hcpB : ∀ (W : World), W.heap = ((w.alloc (.cells row 67)).setRow w.heap.size (spl row (i * 8) cv voff (m * 8))).heap → ∀ ty dc sc, (Builtin.copy_ #[50, 50] ty #[.slice (some ⟨w.heap.size, (i + m) * 8, none⟩) (n + m - (i + m)) dc, .slice (some ⟨b, off + i * 8, none⟩) (n - i) sc]).run Try.prog W = .ok (goInt (n - i : Nat)) (W.setRow w.heap.size (spl (spl row (i * 8) cv voff (m * 8)) ((i + m) * 8) cb (off + i * 8) ((n - i) * 8))) := fun W hW ty dc sc => by
    exact run_copyRaw (K := 8) Try.underlying50 zE W (k := n - i) (by rw [hW]; exact setRow_heap _ _ _ _ _ _ hA0) (by rw [hW, setRow_other _ _ _ _ (by omega : b ≠ w.heap.size)]; exact hAb) (by simp only [Nat.min_def]; split <;> omega) (by omega) (by omega) (fun q hq => by rw [Nat.add_assoc]; exact ho1 _ (by omega)) ty
  have hz1 : ¬ ((m : Int) = 0) := by omega
  have hz2 : ¬ ((i : Int) = (n : Int)) := by omega
  have hz3 : (c : Int) < (n : Int) + (m : Int) := by omega
  have hGi : ¬ (G = i) := by omega
  have hGim : ¬ (G = i + m) := by omega
  have hci : ¬ (c = i) := by omega
  have b1 : (0 : Int) ≤ (i : Int) + (m : Int) := by omega
  have hin : i ≤ n := by omega
  have htn : ((i : Int) + (m : Int)).toNat = i + m := by omega
  have b3 : (i : Int) ≤ (n : Int) := by omega
  have hic : i ≤ c := by omega
  have b5 : (i : Int) ≤ (n : Int) + (m : Int) := by omega
  clear hold hol hrow hG hN1 hN2 hN3 hN4 hN5 hN7 hN8 hN9 ho1 ho2 hkk hik hr1 hGK
  go_enter Try.func31, Try.ntmps31
  go_wp2_with (first
    | (at_builtin; refine Lib.wpList_append_run _ rfl _ _ _ _ rfl _ _ rfl rfl _ _ (hrz _) ?_))
  rw [hcpA (w.alloc (.cells row 67)).drew rfl 3 (G - i)]
  go_wp2
  go_region_law (refine step_cpI rfl _ _ 50 50 rfl (.slice (some ⟨w.heap.size, (i + m) * 8, none⟩) (n + m - (i + m)) (G - (i + m))) (.slice (some ⟨b, off + i * 8, none⟩) (n - i) (c - i)) (by simp [Act.eval, Act.put]) (by simp [Act.eval, Act.put]) (hcpB ((w.alloc (.cells row 67)).drew.setRow w.heap.size (spl row (i * 8) cv voff (m * 8))).drew rfl 3 (G - (i + m)) (c - i)) ?_)
  go_wp2
  go_ret
  exact ⟨rfl, rfl, rfl, rfl, rfl, Nat.le_trans (Nat.le_succ _) (Nat.le_succ _)⟩
theorem ins31 : InsRaw Try.prog 31 8 := insRaw_of (E := 67) inR31 inG31
theorem T_slices_Insert_relocate_node_relocate_node__o0_o1 (i : Int) (xs : List RelocateNode) (ys : List RelocateNode) (post : List RelocateNode → Prop) (g : V_slices_Insert_relocate_node_relocate_node__o0_o1 i xs ys post) :
    Tr Try.prog 31 [.o 0, .i i, .o 1] [(0, .val (.os 8 eRelocateNode xs)), (1, .val (.os 8 eRelocateNode ys))] 2 (fun A H' k => ∃ y, post y ∧ A = (.o 2) ∧ H' = [(2, .val (.os 8 eRelocateNode y))] ∧ k = 3) := by
 unfold V_slices_Insert_relocate_node_relocate_node__o0_o1 at g
 rcases g with g | g
 refine (Tr.drop1 (T_slices_Insert_relocate_node_relocate_node__o0_o1_end i xs ys _ g)).mono fun A H' k h => ?_
 obtain ⟨y, hy, hA, hH, hk⟩ := h
 exact ⟨y.1, hy, hA, hH, hk⟩
 obtain ⟨⟨h0, h1⟩, h2, h3, hp⟩ := g
 obtain ⟨n, rfl⟩ := Int.eq_ofNat_of_zero_le h0
 exact Tr.insert ins31 (enc := eRelocateNode) (fun _ => rfl) xs ys n (by omega) h2 h3 hp
theorem T_slices_Reverse_api_Shift_api_Shift__o0 (s_1 : List ApiShift) (post : (List ApiShift) → Prop) (g : V_slices_Reverse_api_Shift_api_Shift__o0 s_1 post) :
    Tr Try.prog 32 [.o 0] [(0, .val (.os 2 eApiShift s_1))] 1 (fun A H' k => ∃ y, post y ∧ A = (.tup []) ∧ H' = [(0, .val (.os 2 eApiShift y))] ∧ k = 1) := by
 refine Tr.go Try.func32 Try.ntmps32 fun _ _ _ _ o => ?_
 unfold V_slices_Reverse_api_Shift_api_Shift__o0 at g
 refine C.ss (U.pd 5 T (C.nx ?_))
 refine C.jn (fun (x3 : List ApiShift) => []) (fun x3 => [(0, .val (.os 2 eApiShift x3))]) 1 g (fun x3 g => ?_) fun J4 g j4 => ?_
 exact C.fg [some 0] T o ⟨x3, g, rfl, rfl, rfl⟩
 refine C.block (St.wk (C.loop (fun (s5 : List ApiShift × Int × Int) => [(0, .o 0), (2, .i s5.2.1), (3, .i s5.2.2)]) (fun s5 => [(0, .val (.os 2 eApiShift s5.1))]) g (fun s5 Y6 g => ?_)) (Wk.a [some 0]))
 refine C.seq (C.ss (U.pd 3 T (C.nx ?_)))
 refine C.ite rfl g (fun b9 g => ?_) fun b9 g => ?_
 refine C.skip (C.xs (C.block (D.bq mix 15 [] [0] (fun hQ hS ws M' => ?_))))
 refine D.pq 6 (zl [0, 1, 2, 3, 4, 5]) T ?_
 obtain ⟨x12, y12, g⟩ := g
 refine D.q 6 [] hQ hS rfl (.none rfl) rfl rfl (by exact Rd.io T rfl rfl rfl rfl rfl rfl rfl y12) rfl (by kernel_rfl) ?_
 refine D.pq 2 (zl [8, 9]) T ?_
 obtain ⟨x13, y13, g⟩ := g
 refine D.q 10 [] hQ hS rfl (.none rfl) rfl rfl (by exact Rd.io T rfl rfl rfl rfl rfl rfl rfl y13) rfl (by kernel_rfl) ?_
 refine D.have false [(0, .o 0), (2, .i s5.2.1), (3, .i s5.2.2), (7, .i s5.2.1), (8, .i s5.2.2), (9, .b (decide (s5.2.1 < s5.2.2))), (14, .o 0), (15, .i s5.2.1), (16, .o 0), (17, .i s5.2.2), (18, .o 0), (19, .i s5.2.2), (20, .ep 0 2 (Int.toNat s5.2.2) 0), (21, .agg [.i x12.From, .i x12.To]), (22, .o 0), (23, .i s5.2.1), (24, .ep 0 2 (Int.toNat s5.2.1) 0), (25, .agg [.i x13.From, .i x13.To]), (26, .ep 0 2 (Int.toNat s5.2.1) 0)] [(0, .val (.os 2 eApiShift s5.1))] 1 3 #[true, true, true, true, true, true, true, true, true, true, true, true, true, false, false, false] ?_ fun hd13_3 => ?_
 refine D.e1 13 rfl (.none rfl) (by exact Eff1.se T (z' := x12) rfl rfl rfl (idx_some y13).2.2 rfl rfl rfl rfl rfl rfl rfl rfl (fun _ => rfl) rfl) (by kernel_rfl) rfl rfl ?_
 obtain ⟨x14, y14, g⟩ := g
 refine D.q 14 [] hQ hS rfl (.none rfl) rfl rfl (by exact Rd.io T rfl rfl rfl rfl rfl rfl rfl y14) rfl (by kernel_rfl) ?_
 refine D.ze1 rfl (.none rfl) (by exact Eff1.se T (z' := x13) rfl rfl rfl (idx_some y14).2.2 rfl rfl rfl rfl rfl rfl rfl rfl (fun _ => rfl) rfl) (by kernel_rfl) (by kernel_rfl) ?_
 refine C.bnx (C.nx (U.start (U.pd 6 T (C.nx ?_))))
 exact St.wk (C.next g) (Wk.a [some 0])
 refine D.have false [(0, .o 0), (2, .i s5.2.1), (3, .i s5.2.2), (7, .i s5.2.1), (8, .i s5.2.2), (9, .b (decide (s5.2.1 < s5.2.2))), (14, .o 0), (15, .i s5.2.1), (16, .o 0), (17, .i s5.2.2), (18, .o 0), (19, .i s5.2.2), (20, .ep 0 2 (Int.toNat s5.2.2) 0), (21, .agg [.i x12.From, .i x12.To]), (22, .o 0), (23, .i s5.2.1), (24, .ep 0 2 (Int.toNat s5.2.1) 0)] [(0, .val (.os 2 eApiShift s5.1))] 1 5 #[true, true, true, true, true, true, true, true, true, true, true, false, false, false, false, false] ?_ fun hd13_1 => ?_
 refine D.all 11 [] (by kernel_rfl) ⟨?_, trivial⟩
 refine D.ef1 rfl (.none rfl) (by exact Eff1.rd rfl rfl (Rd.le T rfl rfl rfl (idx_some y13).2.2 rfl rfl rfl)) rfl rfl ?_
 refine D.q 12 [] hQ hS rfl (.none rfl) rfl rfl (by exact Rd.io T rfl rfl rfl rfl rfl rfl rfl y13) rfl (by kernel_rfl) ?_
 exact D.tq [0] hd13_3
 refine D.have false [(0, .o 0), (2, .i s5.2.1), (3, .i s5.2.2), (7, .i s5.2.1), (8, .i s5.2.2), (9, .b (decide (s5.2.1 < s5.2.2))), (14, .o 0), (15, .i s5.2.1), (16, .o 0), (17, .i s5.2.2), (18, .o 0), (19, .i s5.2.2), (20, .ep 0 2 (Int.toNat s5.2.2) 0), (22, .o 0), (23, .i s5.2.1), (24, .ep 0 2 (Int.toNat s5.2.1) 0), (25, .agg [.i x13.From, .i x13.To])] [(0, .val (.os 2 eApiShift s5.1))] 1 5 #[true, true, true, true, true, true, true, false, true, true, true, true, false, false, false, false] ?_ fun hd13_2 => ?_
 refine D.all 7 [] (by kernel_rfl) ⟨?_, trivial⟩
 refine D.ef1 rfl (.none rfl) (by exact Eff1.rd rfl rfl (Rd.le T rfl rfl rfl (idx_some y12).2.2 rfl rfl rfl)) rfl rfl ?_
 refine D.q 12 [] hQ hS rfl (.none rfl) rfl rfl (by exact Rd.io T rfl rfl rfl rfl rfl rfl rfl y13) rfl (by kernel_rfl) ?_
 exact D.tq [0] hd13_3
 refine D.all 7 [11] (by kernel_rfl) ⟨?_, ?_, trivial⟩
 refine D.ef1 rfl (.none rfl) (by exact Eff1.rd rfl rfl (Rd.le T rfl rfl rfl (idx_some y12).2.2 rfl rfl rfl)) rfl rfl ?_
 exact D.tq [0] hd13_1
 refine D.ef1 rfl (.none rfl) (by exact Eff1.rd rfl rfl (Rd.le T rfl rfl rfl (idx_some y13).2.2 rfl rfl rfl)) rfl rfl ?_
 exact D.tq [0] hd13_2
 refine C.exit (C.ex (C.ex (C.bex ?_)))
 exact St.wk (j4 _ g) (Wk.mk' [some 0] rfl rfl trivial ⟨vL, trivial⟩ rfl)
theorem T_relocate_search_way (s_1 : RelocateSearch) (n : RelocateNode) (post : (List ApiShift) → Prop) (g : V_relocate_search_way s_1 n post) :
    Tr Try.prog 21 [.rp [.i s_1.f.W, .i s_1.f.H, .i s_1.f.D, .sl 1 eI s_1.f.Kind, .sl 1 eI s_1.f.Out, .sl 1 eI s_1.r, .i s_1.goal, .rp [.i s_1.db.cells, .i s_1.db.goal, .sl 1 eLeI s_1.db.tables], .sl 8 eRelocateNode s_1.open_, .rm kI vRelocateNode s_1.done, .rm kI veI s_1.best], .agg (eRelocateNode n)] [] 0 (fun A H' k => ∃ y, post y ∧ A = (.o 0) ∧ H' = [(0, .val (.os 2 eApiShift y))] ∧ k = 1) := by
 refine Tr.go Try.func21 Try.ntmps21 fun _ _ _ _ o => ?_
 unfold V_relocate_search_way at g
 refine C.ss (U.bx ?_)
 refine U.pd 1 T (C.xt ?_)
 refine U.pd 1 T (C.xs ?_)
 refine C.jn (fun (x5 : List ApiShift) => [(5, .o 0)]) (fun x5 => [(0, .val (.os 2 eApiShift x5))]) 1 g (fun x5 g => ?_) fun J6 g j6 => ?_
 refine C.xt (U.ps 1 T rfl (U.c [some 0] (T_slices_Reverse_api_Shift_api_Shift__o0 x5 _ g) en32 (fun x19 g => ?_)))
 refine U.done (C.xt (U.pd 2 T (C.nx (C.ret ?_))))
 exact C.g1 [some 0] T o ⟨x19, g, rfl, rfl, rfl⟩
 refine C.block ?_
 refine St.wk (C.loop (fun (s7 : List Bool × Int × Int × Int × Int × Int × Int × Int × List ApiShift) => [(0, .rp [.i s_1.f.W, .i s_1.f.H, .i s_1.f.D, .sl 1 eI s_1.f.Kind, .sl 1 eI s_1.f.Out, .sl 1 eI s_1.r, .i s_1.goal, .rp [.i s_1.db.cells, .i s_1.db.goal, .sl 1 eLeI s_1.db.tables], .sl 8 eRelocateNode s_1.open_, .rm kI vRelocateNode s_1.done, .rm kI veI s_1.best]), (3, .p 0 0), (5, .o 1)]) (fun s7 => [(0, .box [.sl 1 eB s7.1, .i s7.2.1, .i s7.2.2.1, .i s7.2.2.2.1, .i s7.2.2.2.2.1, .i s7.2.2.2.2.2.1, .i s7.2.2.2.2.2.2.1, .i s7.2.2.2.2.2.2.2.1]), (1, .val (.os 2 eApiShift s7.2.2.2.2.2.2.2.2))]) g (fun s7 Y8 g => ?_)) (Wk.mk' [some 0, none] rfl rfl ⟨⟨_, rfl, (.eq rfl)⟩, ⟨_, rfl, (.eq rfl)⟩, ⟨_, rfl, (.nilO _ _ ⟨rfl, rfl⟩ rfl)⟩, trivial⟩ ⟨bX, ⟨_, rfl, .nil _ _⟩, trivial⟩ rfl)
 refine C.seq (C.ss (U.pd 3 T (C.nx ?_)))
 refine C.ite rfl g (fun b11 g => ?_) fun b11 g => ?_
 refine C.skip (C.nx (C.block (C.ss (U.ps 3 T rfl (U.bs T eApiShift ([({ From := s7.2.2.2.2.2.2.1, To := s7.2.2.2.2.2.2.2.1 : ApiShift })] : List ApiShift) ?_)))))
 obtain ⟨y14, g⟩ := g
 refine U.ap T y14 ?_
 refine U.pd 1 T (C.nx ?_)
 refine D.bq mix 7 [0] [] (fun hQ hS ws M' => ?_)
 refine D.pq 6 (zl [0, 1, 2, 3, 4, 5]) T ?_
 refine D.q 6 [] hQ hS rfl (.none rfl) rfl rfl (by exact Rd.lk T (ke := kI) (ve := vRelocateNode) (xs := s_1.done) (z0 := ({ l := ({ Full := [], Target := 0 : ApiLayout }), rank := 0, did := 0, whole := 0, before := 0, shift := ({ From := 0, To := 0 : ApiShift }) : RelocateNode })) (x := s7.2.2.2.2.2.1) rfl rfl kt3 zt67 (fun _ => rfl) rfl .rm rfl rfl rfl) rfl (by kernel_rfl) ?_
 refine D.ze1 rfl (.none rfl) (by exact Eff1.st T rfl rfl rfl rfl rfl rfl rfl rfl rfl rfl) (by kernel_rfl) (by kernel_rfl) ?_
 refine C.bnx (C.nx ?_)
 exact St.wk (C.next g) (Wk.a [some 0, some 3])
 refine C.exit (C.ex (C.ex (C.bex ?_)))
 exact St.wa [some 1] (j6 _ g)
theorem T_layout_Shifts (f : ApiFloor) (r : List Int) (l : ApiLayout) (post : (List ApiShift) → Prop) (g : V_layout_Shifts f r l post) :
    Tr Try.prog 15 [.agg (eApiFloor f), .sl 1 eI r, .agg [.sl 1 eB l.Full, .i l.Target]] [] 0 (fun A H' k => ∃ y, post y ∧ A = (.o 0) ∧ H' = [(0, .val (.os 2 eApiShift y))] ∧ k = 1) := by
 refine Tr.go Try.func15 Try.ntmps15 fun _ _ _ _ o => ?_
 unfold V_layout_Shifts at g
 refine C.ss (U.bx ?_)
 refine U.bx ?_
 refine U.pd 1 T (C.xt ?_)
 refine U.ps 3 T rfl (U.k (T_layout_shifts f r l true _ g) en23 (fun x5 g => ?_))
 refine U.pd 1 T (C.nx (C.ret ?_))
 exact C.g1 [some 2] T o ⟨x5, g, rfl, rfl, rfl⟩
theorem T_relocate_search_add__p0_v2 (n : RelocateNode) (s_f_W : Int) (s_f_H : Int) (s_f_D : Int) (s_f_Kind : List Int) (s_f_Out : List Int) (s_r : List Int) (s_goal : Int) (s_open_ : List RelocateNode) (s_done : List (Int × RelocateNode)) (s_best : List (Int × Int)) (v2 : PatternDB) (post : (Int × Int × Int × List Int × List Int × List Int × Int × List RelocateNode × List (Int × RelocateNode) × List (Int × Int) × PatternDB) → Prop) (g : V_relocate_search_add__p0_v2 n s_f_W s_f_H s_f_D s_f_Kind s_f_Out s_r s_goal s_open_ s_done s_best v2 post) :
    Tr Try.prog 19 [.p 0 0, .agg (eRelocateNode n)] [(0, .box [.i s_f_W, .i s_f_H, .i s_f_D, .sl 1 eI s_f_Kind, .sl 1 eI s_f_Out, .o 1, .i s_goal, .p 2 0, .o 4, .o 5, .o 6]), (1, .val (.os 1 eI s_r)), (2, .box [.i v2.cells, .i v2.goal, .o 3]), (3, .val (.os 1 eOeI v2.tables)), (4, .val (.os 8 eRelocateNode s_open_)), (5, .val (.om kI vRelocateNode s_done)), (6, .val (.om kI veI s_best))] 7 (fun A H' k => ∃ y, post y ∧ A = (.tup []) ∧ H' = [(0, .box [.i y.1, .i y.2.1, .i y.2.2.1, .sl 1 eI y.2.2.2.1, .sl 1 eI y.2.2.2.2.1, .o 7, .i y.2.2.2.2.2.2.1, .p 2 0, .o 8, .o 9, .o 10]), (2, .box [.i y.2.2.2.2.2.2.2.2.2.2.cells, .i y.2.2.2.2.2.2.2.2.2.2.goal, .o 11]), (7, .val (.os 1 eI y.2.2.2.2.2.1)), (8, .val (.os 8 eRelocateNode y.2.2.2.2.2.2.2.1)), (9, .val (.om kI vRelocateNode y.2.2.2.2.2.2.2.2.1)), (10, .val (.om kI veI y.2.2.2.2.2.2.2.2.2.1)), (11, .val (.os 1 eOeI y.2.2.2.2.2.2.2.2.2.2.tables))] ∧ k = 12) := by
 refine Tr.go Try.func19 Try.ntmps19 fun _ _ _ _ o => ?_
 unfold V_relocate_search_add__p0_v2 at g
 refine C.ss (U.bx ?_)
 refine U.done (C.xs (D.bq mix 9999 [0, 7] [] (fun hQ hS ws M' => ?_)))
 refine D.pq 6 (zl [0, 1, 2, 3, 4, 5]) T ?_
 refine D.k 6 (T_pattern_DB_Bound v2 n.l _ g) en28 fun x5 g => ?_
 refine D.pq 1 [(7, [])] T ?_
 refine D.done (by kernel_rfl) ?_
 refine C.xs (C.seq (D.bq mix 9999 [0, 6, 7] [] (fun hQ hS ws M' => ?_)))
 refine D.pq 6 (zl [0, 1, 2, 3, 4, 5]) T ?_
 refine D.q 6 [] hQ hS rfl (.none rfl) rfl rfl (by exact Rd.lk2 T (ke := kI) (ve := veI) (xs := s_best) (z0 := 0) (x := n.rank) rfl rfl kt3 zt3 (fun _ => rfl) rfl (.o rfl) rfl rfl rfl) rfl (by kernel_rfl) ?_
 refine D.pq 5 (zl [7, 8, 9, 10, 11]) T ?_
 refine D.done (by kernel_rfl) ?_
 refine C.xs ?_
 refine C.jn (fun (x8 : Bool) => [(0, .p 0 0), (3, .p 7 0), (4, .i x5), (36, .b x8)]) (fun x8 => [(0, .box [.i s_f_W, .i s_f_H, .i s_f_D, .sl 1 eI s_f_Kind, .sl 1 eI s_f_Out, .o 1, .i s_goal, .p 2 0, .o 4, .o 5, .o 6]), (1, .val (.os 1 eI s_r)), (2, .box [.i v2.cells, .i v2.goal, .o 3]), (3, .val (.os 1 eOeI v2.tables)), (4, .val (.os 8 eRelocateNode s_open_)), (5, .val (.om kI vRelocateNode s_done)), (6, .val (.om kI veI s_best)), (7, .box (eRelocateNode n))]) 8 g (fun x8 g => ?_) fun J9 g j9 => ?_
 refine C.nx ?_
 refine C.ite rfl g (fun b12 g => ?_) fun b12 g => ?_
 refine C.ret (C.rt ?_)
 exact C.fg [some 0, some 1, some 2, some 3, some 4, some 5, some 6, some 1, some 4, some 5, some 6, some 3] T o ⟨(s_f_W, s_f_H, s_f_D, s_f_Kind, s_f_Out, s_r, s_goal, s_open_, s_done, s_best, v2), g, rfl, rfl, rfl⟩
 refine C.skip (C.xt (U.ps 5 T rfl (U.st T ?_)))
 refine U.done (C.xs (D.bq mix 8 [0, 7] [] (fun hQ hS ws M' => ?_)))
 refine D.pq 8 (zl [0, 1, 2, 3, 4, 5, 6, 7]) T ?_
 refine D.ze1 rfl (.none rfl) (by exact Eff1.mu T (x := n.rank) (y := n.did) (.inl rfl) rfl kt3 (fun _ => rfl) rfl rfl rfl rfl rfl (.inl rfl) rfl) (by kernel_rfl) (by kernel_rfl) ?_
 refine C.xs (D.bq mix 9999 [0, 7] [] (fun hQ hS ws M' => ?_))
 refine D.pq 5 (zl [0, 1, 2, 3, 4]) T ?_
 refine D.k 5 (T_slices_BinarySearchFunc_relocate_node_relocate_node_relocate_node__relocate_search_add_1 s_open_ ({ l := n.l, rank := n.rank, did := n.did, whole := w64 (n.did + x5), before := n.before, shift := n.shift : RelocateNode }) _ g) en29 fun x19 g => ?_
 refine D.pq 5 (zl [6, 7, 8, 9, 10]) T ?_
 refine D.done (by kernel_rfl) ?_
 refine C.nx (D.bq mix 8 [0, 7] [] (fun hQ hS ws M' => ?_))
 refine D.q0 0 hQ hS rfl (.none rfl) rfl rfl (by exact Rd.p T rfl) (by kernel_rfl) ?_
 refine D.pq 6 [(1, [4, 3, 2]), (2, [4, 3]), (3, [4]), (4, []), (5, []), (6, [7])] T ?_
 refine D.e1 7 rfl (.none rfl) (by exact Eff1.bs T (enc := eRelocateNode) (xs := ([({ l := n.l, rank := n.rank, did := n.did, whole := w64 (n.did + x5), before := n.before, shift := n.shift : RelocateNode })] : List RelocateNode)) rfl rfl rfl rfl rfl rfl rfl rfl rfl rfl (fun _ _ => rfl) rfl rfl) (by kernel_rfl) rfl rfl ?_
 refine D.zt [9, 10, 11] rfl (.none rfl) (by exact Eff.c [some 4, some 8] (v := false) (T_slices_Insert_relocate_node_relocate_node__o0_o1 x19.1 s_open_ ([({ l := n.l, rank := n.rank, did := n.did, whole := w64 (n.did + x5), before := n.before, shift := n.shift : RelocateNode })] : List RelocateNode) _ g) en31 rfl rfl rfl (.eq rfl) ⟨vL, vL, trivial⟩ rfl rfl rfl rfl rfl rfl (fun h => by cases h) (.inl rfl) (fun _ => rfl) (fun _ => rfl) rfl) (by kernel_rfl) (by kernel_rfl) (by kernel_rfl) (by kernel_rfl) (fun x22' g => ?_)
 obtain ⟨x22⟩ := x22'
 refine U.ps 2 T rfl (U.st T ?_)
 refine U.done ?_
 exact C.fg [some 0, some 1, some 2, some 3, some 4, some 5, some 6, some 1, some 11, some 5, some 6, some 3] T o ⟨(s_f_W, s_f_H, s_f_D, s_f_Kind, s_f_Out, s_r, s_goal, x22, s_done, (upd s_best n.rank n.did), v2), g, rfl, rfl, rfl⟩
 refine U.start (U.ps 3 T rfl ?_)
 refine g.cs (fun b10 g => ?_) fun b10 g => ?_
 refine U.sk' 2 2 false 28 b10 ?_
 refine U.sku 4 4 true 30 rfl rfl rfl ?_
 refine U.sk' 1 2 false 28 b10 ?_
 refine U.pk b10 ?_
 refine U.done ?_
 exact St.wa (idR 8) (j9 _ g)
 refine U.pq 2 2 false 28 b10 T ?_
 refine g.cs (fun b11 g => ?_) fun b11 g => ?_
 refine U.pq 4 4 true 30 b11 T ?_
 refine U.r rfl (.tk 2 false 28 b10) rfl rfl (by exact Rd.pk rfl rfl b11 rfl) ?_
 refine U.pk' b10 ?_
 refine U.done ?_
 exact St.wa (idR 8) (j9 _ g)
 refine U.sk' 4 4 true 30 b11 ?_
 refine U.r rfl (.tk 2 false 28 b10) rfl rfl (by exact Rd.pk' rfl rfl b11 rfl) ?_
 refine U.pk' b10 ?_
 refine U.done ?_
 exact St.wa (idR 8) (j9 _ g)
theorem T_relocate_search_run__p0_v2 (l : ApiLayout) (s_f_W : Int) (s_f_H : Int) (s_f_D : Int) (s_f_Kind : List Int) (s_f_Out : List Int) (s_r : List Int) (s_goal : Int) (s_open_ : List RelocateNode) (s_done : List (Int × RelocateNode)) (s_best : List (Int × Int)) (v2 : PatternDB) (post : (List ApiShift × Bool × Int × Int × Int × List Int × List Int × List Int × Int × List RelocateNode × List (Int × RelocateNode) × List (Int × Int) × PatternDB) → Prop) (g : V_relocate_search_run__p0_v2 l s_f_W s_f_H s_f_D s_f_Kind s_f_Out s_r s_goal s_open_ s_done s_best v2 post) :
    Tr Try.prog 13 [.p 0 0, .agg [.sl 1 eB l.Full, .i l.Target]] [(0, .box [.i s_f_W, .i s_f_H, .i s_f_D, .sl 1 eI s_f_Kind, .sl 1 eI s_f_Out, .o 1, .i s_goal, .p 2 0, .o 4, .o 5, .o 6]), (1, .val (.os 1 eI s_r)), (2, .box [.i v2.cells, .i v2.goal, .o 3]), (3, .val (.os 1 eOeI v2.tables)), (4, .val (.os 8 eRelocateNode s_open_)), (5, .val (.om kI vRelocateNode s_done)), (6, .val (.om kI veI s_best))] 7 (fun A H' k => ∃ y, post y ∧ A = (.tup [.o 7, .b y.2.1]) ∧ H' = [(0, .box [.i y.2.2.1, .i y.2.2.2.1, .i y.2.2.2.2.1, .sl 1 eI y.2.2.2.2.2.1, .sl 1 eI y.2.2.2.2.2.2.1, .o 8, .i y.2.2.2.2.2.2.2.2.1, .p 2 0, .o 9, .o 10, .o 11]), (2, .box [.i y.2.2.2.2.2.2.2.2.2.2.2.2.cells, .i y.2.2.2.2.2.2.2.2.2.2.2.2.goal, .o 12]), (7, .val (.os 2 eApiShift y.1)), (8, .val (.os 1 eI y.2.2.2.2.2.2.2.1)), (9, .val (.os 8 eRelocateNode y.2.2.2.2.2.2.2.2.2.1)), (10, .val (.om kI vRelocateNode y.2.2.2.2.2.2.2.2.2.2.1)), (11, .val (.om kI veI y.2.2.2.2.2.2.2.2.2.2.2.1)), (12, .val (.os 1 eOeI y.2.2.2.2.2.2.2.2.2.2.2.2.tables))] ∧ k = 13) := by
 refine Tr.go Try.func13 Try.ntmps13 fun _ _ _ _ o => ?_
 unfold V_relocate_search_run__p0_v2 at g
 refine C.ss (U.bx ?_)
 refine U.pd 2 T (C.xs ?_)
 refine D.bq mix 5 [7] [] (fun hQ hS ws M' => ?_)
 refine D.pq 3 [(0, []), (1, [4]), (2, [3])] T ?_
 refine D.k 3 (T_layout_Rank l _ g) en20 fun x5 g => ?_
 refine D.pq 1 [(4, [])] T ?_
 refine D.ze rfl (.none rfl) (by exact Eff.c [some 0, some 1, some 2, some 3, some 4, some 5, some 6] (v := false) (T_relocate_search_add__p0_v2 ({ l := l, rank := x5, did := 0, whole := 0, before := (-1), shift := ({ From := 0, To := 0 : ApiShift }) : RelocateNode }) s_f_W s_f_H s_f_D s_f_Kind s_f_Out s_r s_goal s_open_ s_done s_best v2 _ g) en19 rfl rfl rfl (.eq rfl) ⟨bX, vL, bX, vL, vL, vL, vL, trivial⟩ rfl rfl rfl rfl rfl rfl (fun h => by cases h) (.inl rfl) (fun _ => rfl) (fun _ => rfl) rfl) (by kernel_rfl) (by kernel_rfl) (fun x6' g => ?_)
 obtain ⟨x6⟩ := x6'
 refine C.xs ?_
 refine C.jn (fun (x7 : Int × Int × Int × List Int × List Int × List Int × Int × Int × Int × List (List Int) × List RelocateNode × List (Int × RelocateNode) × List (Int × Int)) => []) (fun x7 => [(0, .box [.i x7.1, .i x7.2.1, .i x7.2.2.1, .sl 1 eI x7.2.2.2.1, .sl 1 eI x7.2.2.2.2.1, .o 7, .i x7.2.2.2.2.2.2.1, .p 2 0, .o 9, .o 10, .o 11]), (2, .box [.i x7.2.2.2.2.2.2.2.1, .i x7.2.2.2.2.2.2.2.2.1, .o 8]), (7, .val (.os 1 eI x7.2.2.2.2.2.1)), (8, .val (.os 1 eOeI x7.2.2.2.2.2.2.2.2.2.1)), (9, .val (.os 8 eRelocateNode x7.2.2.2.2.2.2.2.2.2.2.1)), (10, .val (.om kI vRelocateNode x7.2.2.2.2.2.2.2.2.2.2.2.1)), (11, .val (.om kI veI x7.2.2.2.2.2.2.2.2.2.2.2.2))]) 12 g (fun x7 g => ?_) fun J8 g j8 => ?_
 refine C.xt (U.pd 2 T (C.nx (C.ret ?_)))
 exact C.fg [some 0, some 1, some 2, some 3, some 4, some 5, some 6, none, some 7, some 9, some 10, some 11, some 8] T o ⟨([], false, x7.1, x7.2.1, x7.2.2.1, x7.2.2.2.1, x7.2.2.2.2.1, x7.2.2.2.2.2.1, x7.2.2.2.2.2.2.1, x7.2.2.2.2.2.2.2.2.2.2.1, x7.2.2.2.2.2.2.2.2.2.2.2.1, x7.2.2.2.2.2.2.2.2.2.2.2.2, ({ cells := x7.2.2.2.2.2.2.2.1, goal := x7.2.2.2.2.2.2.2.2.1, tables := x7.2.2.2.2.2.2.2.2.2.1 : PatternDB })), g, rfl, rfl, rfl⟩
 refine C.block ?_
 refine St.wk (C.loop (fun (s9 : Int × Int × Int × List Int × List Int × List Int × Int × Int × Int × List (List Int) × List RelocateNode × List (Int × RelocateNode) × List (Int × Int)) => [(0, .p 0 0)]) (fun s9 => [(0, .box [.i s9.1, .i s9.2.1, .i s9.2.2.1, .sl 1 eI s9.2.2.2.1, .sl 1 eI s9.2.2.2.2.1, .o 7, .i s9.2.2.2.2.2.2.1, .p 2 0, .o 9, .o 10, .o 11]), (2, .box [.i s9.2.2.2.2.2.2.2.1, .i s9.2.2.2.2.2.2.2.2.1, .o 8]), (7, .val (.os 1 eI s9.2.2.2.2.2.1)), (8, .val (.os 1 eOeI s9.2.2.2.2.2.2.2.2.2.1)), (9, .val (.os 8 eRelocateNode s9.2.2.2.2.2.2.2.2.2.2.1)), (10, .val (.om kI vRelocateNode s9.2.2.2.2.2.2.2.2.2.2.2.1)), (11, .val (.om kI veI s9.2.2.2.2.2.2.2.2.2.2.2.2))]) g (fun s9 Y10 g => ?_)) (Wk.a [some 0, some 1, some 2, some 3, some 4, some 5, some 6, some 15, some 19, some 16, some 17, some 18])
 refine C.seq (C.ss (U.pd 6 T (C.nx ?_)))
 refine C.ite rfl g (fun b13 g => ?_) fun b13 g => ?_
 refine C.skip (C.nx ?_)
 refine C.jn (fun (x14 : Int × Int × Int × List Int × List Int × List Int × Int × Int × Int × List (List Int) × List RelocateNode × List (Int × RelocateNode) × List (Int × Int)) => [(0, .p 0 0)]) (fun x14 => [(0, .box [.i x14.1, .i x14.2.1, .i x14.2.2.1, .sl 1 eI x14.2.2.2.1, .sl 1 eI x14.2.2.2.2.1, .o 7, .i x14.2.2.2.2.2.2.1, .p 2 0, .o 9, .o 10, .o 11]), (2, .box [.i x14.2.2.2.2.2.2.2.1, .i x14.2.2.2.2.2.2.2.2.1, .o 8]), (7, .val (.os 1 eI x14.2.2.2.2.2.1)), (8, .val (.os 1 eOeI x14.2.2.2.2.2.2.2.2.2.1)), (9, .val (.os 8 eRelocateNode x14.2.2.2.2.2.2.2.2.2.2.1)), (10, .val (.om kI vRelocateNode x14.2.2.2.2.2.2.2.2.2.2.2.1)), (11, .val (.om kI veI x14.2.2.2.2.2.2.2.2.2.2.2.2))]) 12 g (fun x14 g => ?_) fun J15 g j15 => ?_
 refine C.nx ?_
 exact St.wk (C.next g) (Wk.a (idR 12))
 refine C.block (C.seq (D.bq mix 13 [0, 9] [] (fun hQ hS ws M' => ?_)))
 refine D.pq 10 (zl [0, 1, 2, 3, 4, 5, 6, 7, 8, 9]) T ?_
 obtain ⟨x18, y18, g⟩ := g
 refine D.q 10 [] hQ hS rfl (.none rfl) rfl rfl (by exact Rd.io T rfl rfl rfl rfl rfl rfl rfl y18) rfl (by kernel_rfl) ?_
 refine D.q 11 [] hQ hS rfl (.none rfl) rfl rfl (by exact Rd.le T rfl rfl rfl (idx_some y18).2.2 rfl rfl rfl) rfl (by kernel_rfl) ?_
 refine D.e1 12 rfl (.none rfl) (by exact Eff1.al T rfl rfl rfl rfl) (by kernel_rfl) rfl rfl ?_
 refine D.ze1 rfl (.none rfl) (by exact Eff1.st T rfl rfl rfl rfl rfl rfl rfl rfl rfl rfl) (by kernel_rfl) (by kernel_rfl) ?_
 refine C.xs (D.bq mix 14 [0] [9] (fun hQ hS ws M' => ?_))
 refine D.pq 11 (zl [0, 1, 2, 3, 4, 5, 6, 7, 8, 9, 10]) T ?_
 obtain ⟨y21, g⟩ := g
 refine D.e1 11 rfl (.none rfl) (by exact Eff1.sw T rfl rfl rfl rfl rfl rfl rfl rfl (.none _) (.some _ rfl) y21) (by kernel_rfl) rfl rfl ?_
 refine D.pq 2 [(12, [13]), (13, [])] T ?_
 refine D.ze1 rfl (.none rfl) (by exact Eff1.st T rfl rfl rfl rfl rfl rfl rfl rfl rfl rfl) (by kernel_rfl) (by kernel_rfl) ?_
 refine C.xs (C.seq (D.bq mix 9999 [0, 11, 12] [] (fun hQ hS ws M' => ?_)))
 refine D.pq 8 (zl [0, 1, 2, 3, 4, 5, 6, 7]) T ?_
 refine D.q 8 [] hQ hS rfl (.none rfl) rfl rfl (by exact Rd.lk T (ke := kI) (ve := veI) (xs := s9.2.2.2.2.2.2.2.2.2.2.2.2) (z0 := 0) (x := x18.rank) rfl rfl kt3 zt3 (fun _ => rfl) rfl (.o rfl) rfl rfl rfl) rfl (by kernel_rfl) ?_
 refine D.pq 1 [(9, [])] T ?_
 refine D.done (by kernel_rfl) ?_
 refine C.nx ?_
 refine C.ite rfl g (fun b24 g => ?_) fun b24 g => ?_
 refine C.exit (C.ex (C.bex ?_))
 exact St.wa [some 0, some 1, some 2, some 3, some 4, some 5, some 6, some 7, some 8, some 13, some 10, some 11] (j15 _ g)
 refine C.skip (C.xs (C.seq (D.bq mix 9999 [0, 12] [] (fun hQ hS ws M' => ?_))))
 refine D.pq 8 (zl [0, 1, 2, 3, 4, 5, 6, 7]) T ?_
 refine D.done (by kernel_rfl) ?_
 refine C.nx ?_
 refine C.ite rfl g (fun b27 g => ?_) fun b27 g => ?_
 refine C.ss (U.ps 2 T rfl ?_)
 refine U.k (T_relocate_search_way ({ f := ({ W := s9.1, H := s9.2.1, D := s9.2.2.1, Kind := s9.2.2.2.1, Out := s9.2.2.2.2.1 : ApiFloor }), r := s9.2.2.2.2.2.1, goal := s9.2.2.2.2.2.2.1, db := ({ cells := s9.2.2.2.2.2.2.2.1, goal := s9.2.2.2.2.2.2.2.2.1, tables := s9.2.2.2.2.2.2.2.2.2.1 : PatternDB }), open_ := (sub s9.2.2.2.2.2.2.2.2.2.2.1 0 (w64 ((s9.2.2.2.2.2.2.2.2.2.2.1.length : Int) - 1))), done := s9.2.2.2.2.2.2.2.2.2.2.2.1, best := s9.2.2.2.2.2.2.2.2.2.2.2.2 : RelocateSearch }) x18 _ g) en21 fun x30 g => ?_
 refine U.pd 2 T (C.nx (C.ret (C.rt (C.brt (C.rt (C.brt (C.rt ?_)))))))
 exact C.fg [some 0, some 1, some 2, some 3, some 4, some 5, some 6, some 14, some 7, some 13, some 10, some 11, some 8] T o ⟨(x30, true, s9.1, s9.2.1, s9.2.2.1, s9.2.2.2.1, s9.2.2.2.2.1, s9.2.2.2.2.2.1, s9.2.2.2.2.2.2.1, (sub s9.2.2.2.2.2.2.2.2.2.2.1 0 (w64 ((s9.2.2.2.2.2.2.2.2.2.2.1.length : Int) - 1))), s9.2.2.2.2.2.2.2.2.2.2.2.1, s9.2.2.2.2.2.2.2.2.2.2.2.2, ({ cells := s9.2.2.2.2.2.2.2.1, goal := s9.2.2.2.2.2.2.2.2.1, tables := s9.2.2.2.2.2.2.2.2.2.1 : PatternDB })), g, rfl, rfl, rfl⟩
 refine C.skip (C.xs (D.bq mix 7 [0, 12] [] (fun hQ hS ws M' => ?_)))
 refine D.pq 7 (zl [0, 1, 2, 3, 4, 5, 6]) T ?_
 refine D.ze1 rfl (.none rfl) (by exact Eff1.mu T (x := x18.rank) (y := x18) (.inl rfl) rfl kt3 (fun _ => rfl) rfl rfl rfl rfl rfl (.inr (.inr ⟨_, rfl, rfl, rfl⟩)) rfl) (by kernel_rfl) (by kernel_rfl) ?_
 refine C.xs (D.bq mix 9999 [0, 12] [] (fun hQ hS ws M' => ?_))
 refine D.pq 11 (zl [0, 1, 2, 3, 4, 5, 6, 7, 8, 9, 12]) T ?_
 refine D.k 10 (T_layout_Shifts ({ W := s9.1, H := s9.2.1, D := s9.2.2.1, Kind := s9.2.2.2.1, Out := s9.2.2.2.2.1 : ApiFloor }) s9.2.2.2.2.2.1 x18.l _ g) en15 fun x35 g => ?_
 refine D.pq 1 [(11, [])] T ?_
 refine D.done (by kernel_rfl) ?_
 refine C.nx ?_
 refine C.jn (fun (x36 : Int × Int × Int × List Int × List Int × List Int × Int × Int × Int × List (List Int) × List RelocateNode × List (Int × RelocateNode) × List (Int × Int)) => [(0, .p 0 0)]) (fun x36 => [(0, .box [.i x36.1, .i x36.2.1, .i x36.2.2.1, .sl 1 eI x36.2.2.2.1, .sl 1 eI x36.2.2.2.2.1, .o 7, .i x36.2.2.2.2.2.2.1, .p 2 0, .o 9, .o 10, .o 11]), (2, .box [.i x36.2.2.2.2.2.2.2.1, .i x36.2.2.2.2.2.2.2.2.1, .o 8]), (7, .val (.os 1 eI x36.2.2.2.2.2.1)), (8, .val (.os 1 eOeI x36.2.2.2.2.2.2.2.2.2.1)), (9, .val (.os 8 eRelocateNode x36.2.2.2.2.2.2.2.2.2.2.1)), (10, .val (.om kI vRelocateNode x36.2.2.2.2.2.2.2.2.2.2.2.1)), (11, .val (.om kI veI x36.2.2.2.2.2.2.2.2.2.2.2.2))]) 12 g (fun x36 g => ?_) fun J37 g j37 => ?_
 refine C.bnx ?_
 exact St.wa (idR 12) (j15 _ g)
 refine C.block ?_
 refine St.wk (C.loop (fun (s38 : Int × Int × Int × List Int × List Int × List Int × Int × Int × Int × List (List Int) × List RelocateNode × List (Int × RelocateNode) × List (Int × Int) × Int) => [(0, .p 0 0), (6, .p 12 0), (87, .o 13), (88, .i (x35.length : Int)), (89, .i s38.2.2.2.2.2.2.2.2.2.2.2.2.2)]) (fun s38 => [(0, .box [.i s38.1, .i s38.2.1, .i s38.2.2.1, .sl 1 eI s38.2.2.2.1, .sl 1 eI s38.2.2.2.2.1, .o 7, .i s38.2.2.2.2.2.2.1, .p 2 0, .o 9, .o 10, .o 11]), (2, .box [.i s38.2.2.2.2.2.2.2.1, .i s38.2.2.2.2.2.2.2.2.1, .o 8]), (7, .val (.os 1 eI s38.2.2.2.2.2.1)), (8, .val (.os 1 eOeI s38.2.2.2.2.2.2.2.2.2.1)), (9, .val (.os 8 eRelocateNode s38.2.2.2.2.2.2.2.2.2.2.1)), (10, .val (.om kI vRelocateNode s38.2.2.2.2.2.2.2.2.2.2.2.1)), (11, .val (.om kI veI s38.2.2.2.2.2.2.2.2.2.2.2.2.1)), (12, .box (eRelocateNode x18)), (13, .val (.os 2 eApiShift x35))]) g (fun s38 Y39 g => ?_)) (Wk.a [some 0, some 1, some 2, some 3, some 4, some 5, some 6, some 7, some 8, some 13, some 10, some 11, some 12, some 14])
 refine C.ss (U.pd 1 T (C.xs ?_))
 refine C.ite rfl g (fun b42 g => ?_) fun b42 g => ?_
 refine C.skip (C.xs (C.block (C.ss ?_)))
 obtain ⟨x45, y45, g⟩ := g
 refine U.r rfl (.none rfl) rfl rfl (by exact Rd.io T rfl rfl rfl rfl rfl rfl rfl y45) ?_
 refine U.r rfl (.none rfl) rfl rfl (by exact Rd.le T rfl rfl rfl (idx_some y45).2.2 rfl rfl rfl) ?_
 refine U.al T ?_
 refine U.st T ?_
 refine U.done (C.xt (U.ps 3 T rfl (U.k (T_layout_Do x18.l x45 _ g) en16 (fun x48 g => ?_))))
 refine U.ps 3 T rfl (U.al T ?_)
 refine U.st T ?_
 refine U.pd 1 T (C.nx ?_)
 refine St.wk (Γ' := [(0, .p 0 0), (6, .p 12 0), (8, .p 13 0), (9, .p 14 0), (10, .i x48.2), (87, .o 15), (88, .i (x35.length : Int)), (89, .i s38.2.2.2.2.2.2.2.2.2.2.2.2.2), (90, .b (decide (s38.2.2.2.2.2.2.2.2.2.2.2.2.2 < (x35.length : Int)))), (91, .ep 15 2 (Int.toNat s38.2.2.2.2.2.2.2.2.2.2.2.2.2) 0), (92, .agg [.i x45.From, .i x45.To]), (93, .tup [.agg [.sl 1 eB x48.1.Full, .i x48.1.Target], .i x48.2]), (94, .p 12 0), (95, .agg [.sl 1 eB x18.l.Full, .i x18.l.Target]), (96, .agg [.i x45.From, .i x45.To]), (97, .tup [.agg [.sl 1 eB x48.1.Full, .i x48.1.Target], .i x48.2]), (98, .agg [.sl 1 eB x48.1.Full, .i x48.1.Target]), (99, .i x48.2)]) (H' := [(0, .box [.i s38.1, .i s38.2.1, .i s38.2.2.1, .sl 1 eI s38.2.2.2.1, .sl 1 eI s38.2.2.2.2.1, .o 7, .i s38.2.2.2.2.2.2.1, .p 2 0, .o 9, .o 10, .o 11]), (2, .box [.i s38.2.2.2.2.2.2.2.1, .i s38.2.2.2.2.2.2.2.2.1, .o 8]), (7, .val (.os 1 eI s38.2.2.2.2.2.1)), (8, .val (.os 1 eOeI s38.2.2.2.2.2.2.2.2.2.1)), (9, .val (.os 8 eRelocateNode s38.2.2.2.2.2.2.2.2.2.2.1)), (10, .val (.om kI vRelocateNode s38.2.2.2.2.2.2.2.2.2.2.2.1)), (11, .val (.om kI veI s38.2.2.2.2.2.2.2.2.2.2.2.2.1)), (12, .box (eRelocateNode x18)), (13, .box [.i x45.From, .i x45.To]), (14, .box [.sl 1 eB x48.1.Full, .i x48.1.Target]), (15, .val (.os 2 eApiShift x35))]) (nl' := 16) ?_ (Wk.mk' [some 0, some 1, some 2, some 3, some 4, some 5, some 6, some 7, some 8, some 9, some 10, some 11, some 12, some 14, some 16, some 13] rfl rfl ⟨⟨_, rfl, (.eq rfl)⟩, ⟨_, rfl, (.eq rfl)⟩, ⟨_, rfl, (.eq rfl)⟩, ⟨_, rfl, (.eq rfl)⟩, ⟨_, rfl, (.eq rfl)⟩, ⟨_, rfl, (.eq rfl)⟩, ⟨_, rfl, (.eq rfl)⟩, ⟨_, rfl, (.eq rfl)⟩, ⟨_, rfl, (.eq rfl)⟩, ⟨_, rfl, (.eq rfl)⟩, ⟨_, rfl, (.eq rfl)⟩, ⟨_, rfl, (.tup (.cons (.agg (.cons (.fz rfl rfl rfl (.os fun _ => .cons (.ro rfl) .nil)) (.eq rfl))) (.eq rfl)))⟩, ⟨_, rfl, (.eq rfl)⟩, ⟨_, rfl, (.eq rfl)⟩, ⟨_, rfl, (.eq rfl)⟩, ⟨_, rfl, (.tup (.cons (.agg (.cons (.fz rfl rfl rfl (.os fun _ => .cons (.ro rfl) .nil)) (.eq rfl))) (.eq rfl)))⟩, ⟨_, rfl, (.agg (.cons (.fz rfl rfl rfl (.os fun _ => .cons (.ro rfl) .nil)) (.eq rfl)))⟩, ChkG.eqs rfl⟩ ⟨bX, bX, vL, vL, vL, vL, vL, bX, bX, ⟨_, rfl, .box rfl (.cons (.fz rfl rfl rfl (.os fun _ => .cons (.ro rfl) .nil)) (.eq rfl))⟩, vL, trivial⟩ rfl)
 refine D.bq mix 11 [12, 13, 14] [] (fun hQ hS ws M' => ?_)
 refine D.pq 9 [(0, []), (1, [10]), (2, [3]), (4, [10, 6, 5]), (5, [10, 6]), (6, [10]), (7, [10, 8]), (8, [10]), (9, [10])] T ?_
 refine D.k 3 (T_layout_Rank x48.1 _ g) en20 fun x51 g => ?_
 refine D.pq 1 [(10, [])] T ?_
 refine D.ze rfl (.none rfl) (by exact Eff.c [some 0, some 7, some 2, some 8, some 9, some 10, some 11] (v := false) (T_relocate_search_add__p0_v2 ({ l := x48.1, rank := x51, did := w64 (x18.did + 1), whole := 0, before := x18.rank, shift := x45 : RelocateNode }) s38.1 s38.2.1 s38.2.2.1 s38.2.2.2.1 s38.2.2.2.2.1 s38.2.2.2.2.2.1 s38.2.2.2.2.2.2.1 s38.2.2.2.2.2.2.2.2.2.2.1 s38.2.2.2.2.2.2.2.2.2.2.2.1 s38.2.2.2.2.2.2.2.2.2.2.2.2.1 ({ cells := s38.2.2.2.2.2.2.2.1, goal := s38.2.2.2.2.2.2.2.2.1, tables := s38.2.2.2.2.2.2.2.2.2.1 : PatternDB }) _ g) en19 rfl rfl rfl (.eq rfl) ⟨bX, vL, bX, vL, vL, vL, vL, trivial⟩ rfl rfl rfl rfl rfl rfl (fun h => by cases h) (.inl rfl) (fun _ => rfl) (fun _ => rfl) rfl) (by kernel_rfl) (by kernel_rfl) (fun x52' g => ?_)
 obtain ⟨x52⟩ := x52'
 refine C.bnx (C.nx (U.start (U.pd 2 T (C.nx ?_))))
 exact St.wk (C.next g) (Wk.a [some 0, some 1, some 2, some 3, some 4, some 5, some 6, some 23, some 27, some 24, some 25, some 26, some 12, some 15])
 refine C.exit (C.ex (C.ex (C.bex ?_)))
 exact St.wa (idR 12) (j37 _ g)
 refine C.exit (C.ex (C.ex (C.bex ?_)))
 exact St.wk (j8 _ g) (Wk.mk' [some 0, some 1, some 2, some 3, some 4, some 5, some 6, some 7, some 8, some 9, some 10, some 11] rfl rfl trivial ⟨bX, bX, vL, vL, vL, vL, vL, trivial⟩ rfl)
theorem T_relocate_Solve__o0 (f : ApiFloor) (l : ApiLayout) (goal : Int) (k : Int) (r : List Int) (post : (List ApiShift × Int) → Prop) (g : V_relocate_Solve__o0 f l goal k r post) :
    Tr Try.prog 7 [.agg (eApiFloor f), .o 0, .agg [.sl 1 eB l.Full, .i l.Target], .i goal, .i k] [(0, .val (.os 1 eI r))] 1 (fun A H' k => ∃ y, post y ∧ A = (.tup [.o 1, .i y.2]) ∧ H' = [(1, .val (.os 2 eApiShift y.1))] ∧ k = 2) := by
 refine Tr.go Try.func7 Try.ntmps7 fun _ _ _ _ o => ?_
 unfold V_relocate_Solve__o0 at g
 refine C.ss (U.bx ?_)
 refine U.bx ?_
 refine U.pd 2 T (C.xs (C.seq ?_))
 refine C.jn (fun (x3 : Bool) => [(1, .o 0), (3, .i goal), (4, .i k), (5, .p 1 0), (7, .p 2 0), (22, .b x3)]) (fun x3 => [(0, .val (.os 1 eI r)), (1, .box (eApiFloor f)), (2, .box [.sl 1 eB l.Full, .i l.Target])]) 3 g (fun x3 g => ?_) fun J4 g j4 => ?_
 refine C.nx ?_
 refine C.ite rfl g (fun b6 g => ?_) fun b6 g => ?_
 refine C.ss (U.pd 2 T (C.nx (C.ret (C.rt ?_))))
 exact C.fg [some 0, none] T o ⟨([], 1), g, rfl, rfl, rfl⟩
 refine C.skip (C.xt (U.ps 8 T rfl ?_))
 refine U.e rfl (.none rfl) (by exact Eff.cS (nl' := fun y => match y with | .inl _ => 3 | .inr _ => 5) [] (v := true) (T_pattern_Build f r (imin k (w64 ((r.length : Int) - 1))) goal _ g) en10 rfl rfl rfl (.cons (.eq rfl) (.cons (.fz rfl rfl rfl (.os fun _ => .cons (.ro rfl) .nil)) (.eq rfl))) trivial rfl rfl rfl rfl rfl rfl (fun _ y => match y with | .inl _ => ⟨(.tup (.cons (.v _) (.cons (.v _) .nil))), trivial⟩ | .inr _ => ⟨(.tup (.cons (.p _ _) (.cons (.v _) .nil))), ⟨.val (.os _ _ _ fun _ => .cons (.os _ _ _ fun _ => (.cons (.v _) .nil)) .nil), .box (.cons (.v _) (.cons (.v _) (.cons (.o _) .nil))), trivial⟩⟩) (.inr ⟨rfl, rfl⟩) (fun _ => rfl) (fun _ => rfl) (fun y => by cases y <;> rfl)) (fun x9' g => ?_)
 obtain ⟨x9 | x9⟩ := x9'
 replace g := sumL g
 refine U.pd 5 T (C.xs (C.ss ?_))
 refine U.pd 2 T (C.nx ?_)
 refine C.ite rfl g (fun b12 g => ?_) fun b12 g => ?_
 refine C.ss (U.pd 3 T (C.nx (C.ret (C.rt ?_))))
 exact C.fg [some 0, none] T o ⟨([], x9.2), g, rfl, rfl, rfl⟩
 refine C.skip (C.xs (C.ss (U.ps 3 T rfl (U.k (T_layout_Shelves l _ g) en12 (fun x17 g => ?_)))))
 refine U.k (T_layout_Count (r.length : Int) x17 _ g) en11 fun x18 g => ?_
 refine U.pd 1 T (C.nx ?_)
 refine C.ite rfl g (fun b19 g => ?_) fun b19 g => ?_
 refine C.ss (U.pd 2 T (C.nx (C.ret (C.rt ?_))))
 exact C.fg [some 0, none] T o ⟨([], 27), g, rfl, rfl, rfl⟩
 refine C.skip (C.xt (U.ps 4 T rfl (U.e1 rfl (.none rfl) (by exact Eff1.mm kI vRelocateNode rfl rfl rfl) ?_)))
 refine U.e1 rfl (.none rfl) (by exact Eff1.mm kI veI rfl rfl rfl) ?_
 refine U.ps 1 T rfl (U.bx ?_)
 refine U.pd 1 T (C.xt ?_)
 refine U.ps 2 T rfl ?_
 exact g.elim
 replace g := sumR g
 refine U.pd 5 T (C.xs (C.ss ?_))
 refine U.pd 2 T (C.nx ?_)
 refine C.ite rfl g (fun b28 g => ?_) fun b28 g => ?_
 refine C.ss (U.pd 3 T (C.nx (C.ret (C.rt ?_))))
 exact C.fg [some 0, none] T o ⟨([], x9.2), g, rfl, rfl, rfl⟩
 refine C.skip (C.xs (C.ss (U.ps 3 T rfl (U.k (T_layout_Shelves l _ g) en12 (fun x33 g => ?_)))))
 refine U.k (T_layout_Count (r.length : Int) x33 _ g) en11 fun x34 g => ?_
 refine U.pd 1 T (C.nx ?_)
 refine C.ite rfl g (fun b35 g => ?_) fun b35 g => ?_
 refine C.ss (U.pd 2 T (C.nx (C.ret (C.rt ?_))))
 exact C.fg [some 0, none] T o ⟨([], 27), g, rfl, rfl, rfl⟩
 refine C.skip (C.xt (U.ps 4 T rfl (U.e1 rfl (.none rfl) (by exact Eff1.mm kI vRelocateNode rfl rfl rfl) ?_)))
 refine U.e1 rfl (.none rfl) (by exact Eff1.mm kI veI rfl rfl rfl) ?_
 refine U.ps 1 T rfl (U.bx ?_)
 refine U.pd 1 T (C.xt ?_)
 refine U.ps 2 T rfl (U.c [some 7, some 0, some 4, some 3, none, some 5, some 6] (T_relocate_search_run__p0_v2 l f.W f.H f.D f.Kind f.Out r goal [] ([] : List (Int × RelocateNode)) ([] : List (Int × Int)) x9.1 _ g) en13 (fun x42 g => ?_))
 refine U.pd 5 T (C.xs (C.ss ?_))
 refine U.pd 2 T (C.nx ?_)
 refine C.ite rfl g (fun b45 g => ?_) fun b45 g => ?_
 refine C.ss (U.pd 2 T (C.nx (C.ret (C.rt ?_))))
 exact C.fg [some 0, none] T o ⟨([], 14), g, rfl, rfl, rfl⟩
 refine C.skip (C.xt (U.pd 3 T (C.nx (C.ret ?_))))
 exact C.fg [some 0, some 15] T o ⟨(x42.1, 0), g, rfl, rfl, rfl⟩
 refine U.start (U.ps 3 T rfl ?_)
 refine g.cs (fun b5 g => ?_) fun b5 g => ?_
 refine U.sk' 2 2 false 19 b5 ?_
 refine U.pk b5 ?_
 refine U.done ?_
 exact St.wa (idR 3) (j4 _ g)
 refine U.pq 2 2 false 19 b5 T ?_
 refine U.pk' b5 ?_
 refine U.done ?_
 exact St.wa (idR 3) (j4 _ g)
theorem T_slices_Index_api_Shift_api_Shift (s_1 : List ApiShift) (v : ApiShift) (post : Int → Prop) (g : V_slices_Index_api_Shift_api_Shift s_1 v post) :
    Tr Try.prog 22 [.sl 2 eApiShift s_1, .agg [.i v.From, .i v.To]] [] 0 (pI post) := by
 refine Tr.go Try.func22 Try.ntmps22 fun _ _ _ _ o => ?_
 unfold V_slices_Index_api_Shift_api_Shift at g
 refine C.ss (U.bx ?_)
 refine U.pd 1 T (C.xs (C.ss ?_))
 refine U.pd 3 T (C.nx ?_)
 refine C.jn (fun (x5 : Unit) => []) (fun x5 => []) 0 g (fun x5 g => ?_) fun J6 g j6 => ?_
 refine C.xt (U.pd 1 T (C.nx (C.ret ?_)))
 exact C.f1 T o (pIi g)
 refine C.block (St.wk (C.loop (fun (s7 : Int) => [(0, .sl 2 eApiShift s_1), (3, .p 0 0), (7, .i (s_1.length : Int)), (8, .i s7)]) (fun s7 => [(0, .box [.i v.From, .i v.To])]) g (fun s7 Y8 g => ?_)) (Wk.a [some 0]))
 refine C.ss (U.pd 1 T (C.xs ?_))
 refine C.ite rfl g (fun b11 g => ?_) fun b11 g => ?_
 refine C.skip (C.xs (C.block (C.ss (U.pd 2 T (C.xs ?_)))))
 refine D.bq mix 9999 [0] [] (fun hQ hS ws M' => ?_)
 refine D.pq 3 (zl [0, 1, 2]) T ?_
 obtain ⟨x16, y16, g⟩ := g
 refine D.ix 3 [] T y16 ?_
 refine D.pq 1 [(4, [])] T ?_
 refine D.q 5 [] hQ hS rfl (.none rfl) rfl rfl (by exact Rd.eqs T rfl rfl eqt28 rfl rfl rfl) rfl (by kernel_rfl) ?_
 refine D.done (by kernel_rfl) ?_
 refine C.nx ?_
 refine C.ite rfl g (fun b17 g => ?_) fun b17 g => ?_
 refine C.ss (U.pd 2 T (C.nx (C.ret (C.brt (C.rt (C.rt (C.brt (C.rt ?_))))))))
 exact C.f1 T o (pIi g)
 refine C.skip (C.bnx (C.nx (U.start (U.pd 2 T (C.nx ?_)))))
 exact St.wk (C.next g) (Wk.a [some 0])
 refine C.exit (C.ex (C.ex (C.bex ?_)))
 exact St.wk (j6 _ g) (Wk.mk' [] rfl rfl trivial trivial rfl)
theorem T_slices_Contains_api_Shift_api_Shift (s_1 : List ApiShift) (v : ApiShift) (post : Bool → Prop) (g : V_slices_Contains_api_Shift_api_Shift s_1 v post) :
    Tr Try.prog 14 [.sl 2 eApiShift s_1, .agg [.i v.From, .i v.To]] [] 0 (pB post) := by
 refine Tr.go Try.func14 Try.ntmps14 fun _ _ _ _ o => ?_
 unfold V_slices_Contains_api_Shift_api_Shift at g
 refine C.ss (U.bx ?_)
 refine U.pd 1 T (C.xt ?_)
 refine U.ps 2 T rfl (U.k (T_slices_Index_api_Shift_api_Shift s_1 v _ g) en22 (fun x5 g => ?_))
 refine U.pd 2 T (C.nx (C.ret ?_))
 exact C.f1 T o (pBi g)
theorem T_relocate_Check (f : ApiFloor) (r : List Int) (l : ApiLayout) (goal : Int) (shifts : List ApiShift) (post : (Int × Int) → Prop) (g : V_relocate_Check f r l goal shifts post) :
    Tr Try.prog 8 [.agg (eApiFloor f), .sl 1 eI r, .agg [.sl 1 eB l.Full, .i l.Target], .i goal, .sl 2 eApiShift shifts] [] 0 (fun A H' k => ∃ y, post y ∧ A = (.tup [.i y.1, .i y.2]) ∧ H' = [] ∧ k = 0) := by
 refine Tr.go Try.func8 Try.ntmps8 fun _ _ _ _ o => ?_
 unfold V_relocate_Check at g
 refine C.ss (U.bx ?_)
 refine U.bx ?_
 refine U.pd 2 T (C.xs (C.ss ?_))
 refine U.pd 3 T (C.nx ?_)
 refine C.jn (fun (x5 : List Bool × Int) => [(3, .i goal), (4, .sl 2 eApiShift shifts), (7, .p 0 0)]) (fun x5 => [(0, .box [.sl 1 eB x5.1, .i x5.2])]) 1 g (fun x5 g => ?_) fun J6 g j6 => ?_
 refine C.xs (C.ss (U.pd 4 T (C.nx ?_)))
 refine C.ite rfl g (fun b29 g => ?_) fun b29 g => ?_
 refine C.ss (U.pd 4 T (C.nx (C.ret (C.rt ?_))))
 exact C.f9 T o ⟨((shifts.length : Int), 14), g, rfl, rfl, rfl⟩
 refine C.skip (C.xt (U.pd 2 T (C.nx (C.ret ?_))))
 exact C.f9 T o ⟨((-1), 0), g, rfl, rfl, rfl⟩
 refine C.block (St.wk (C.loop (fun (s7 : List Bool × Int × Int) => [(1, .sl 1 eI r), (3, .i goal), (4, .sl 2 eApiShift shifts), (5, .p 0 0), (7, .p 1 0), (14, .sl 2 eApiShift shifts), (15, .i (shifts.length : Int)), (16, .i s7.2.2)]) (fun s7 => [(0, .box (eApiFloor f)), (1, .box [.sl 1 eB s7.1, .i s7.2.1])]) g (fun s7 Y8 g => ?_)) (Wk.a (idR 2)))
 refine C.ss (U.pd 1 T (C.xs ?_))
 refine C.ite rfl g (fun b11 g => ?_) fun b11 g => ?_
 refine C.skip (C.xs (C.block (C.ss (U.ps 1 T rfl ?_))))
 obtain ⟨x14, y14, g⟩ := g
 refine U.ix T y14 ?_
 refine U.ps 1 T rfl (U.al T ?_)
 refine U.ps 1 T rfl (U.st T ?_)
 refine U.done (C.xs (C.seq (D.bq mix 9999 [0, 1, 2] [] (fun hQ hS ws M' => ?_))))
 refine D.pq 4 (zl [0, 1, 2, 4]) T ?_
 refine D.k 3 (T_layout_Shifts f r ({ Full := s7.1, Target := s7.2.1 : ApiLayout }) _ g) en15 fun x17 g => ?_
 refine D.k 5 (T_slices_Contains_api_Shift_api_Shift x17 x14 _ g) en14 fun x18 g => ?_
 refine D.pq 1 [(6, [])] T ?_
 refine D.done (by kernel_rfl) ?_
 refine C.nx ?_
 refine C.ite rfl g (fun b19 g => ?_) fun b19 g => ?_
 refine C.ss (U.pd 3 T (C.nx (C.ret (C.rt (C.brt (C.rt (C.rt (C.brt (C.rt ?_)))))))))
 exact C.f9 T o ⟨(s7.2.2, 13), g, rfl, rfl, rfl⟩
 refine C.skip (C.nx (U.start (U.ps 2 T rfl (U.k (T_layout_Do ({ Full := s7.1, Target := s7.2.1 : ApiLayout }) x14 _ g) en16 (fun x24 g => ?_)))))
 refine U.ps 3 T rfl (U.st T ?_)
 refine U.done (C.bnx (C.nx (U.start (U.pd 2 T (C.nx ?_)))))
 exact St.wk (C.next g) (Wk.mk' [some 0, some 1] rfl rfl (.eqs rfl) ⟨bX, ⟨_, rfl, .box rfl (.cons (.fz rfl rfl rfl (.os fun _ => .cons (.ro rfl) .nil)) (.eq rfl))⟩, trivial⟩ rfl)
 refine C.exit (C.ex (C.ex (C.bex ?_)))
 exact St.wa [some 1] (j6 _ g)
theorem T_relocate_Trips (shifts : List ApiShift) (post : (List (List Int)) → Prop) (g : V_relocate_Trips shifts post) :
    Tr Try.prog 5 [.sl 2 eApiShift shifts] [] 0 (fun A H' k => ∃ y, post y ∧ A = (.o 0) ∧ H' = [(0, .val (.os 1 eOeI y))] ∧ k = 1) := by
 refine Tr.go Try.func5 Try.ntmps5 fun _ _ _ _ o => ?_
 unfold V_relocate_Trips at g
 refine C.ss (U.pd 1 T (C.xt ?_))
 refine U.pd 1 T (C.xs (C.ss ?_))
 refine U.pd 3 T (C.nx ?_)
 refine C.jn (fun (x7 : List (List Int)) => [(3, .o 0)]) (fun x7 => [(0, .val (.os 1 eOeI x7))]) 1 g (fun x7 g => ?_) fun J8 g j8 => ?_
 refine C.xt (U.pd 2 T (C.nx (C.ret ?_)))
 exact C.g1 [some 0] T o ⟨x7, g, rfl, rfl, rfl⟩
 refine C.block ?_
 refine St.wk (C.loop (fun (s9 : List (List Int) × Int) => [(0, .sl 2 eApiShift shifts), (3, .o 0), (6, .sl 2 eApiShift shifts), (7, .i (shifts.length : Int)), (8, .i s9.2)]) (fun s9 => [(0, .val (.os 1 eOeI s9.1))]) g (fun s9 Y10 g => ?_)) (Wk.mk' [none] rfl rfl ⟨⟨_, rfl, (.eq rfl)⟩, ⟨_, rfl, (.nilO _ _ ⟨rfl, rfl⟩ rfl)⟩, ChkG.eqs rfl⟩ ⟨⟨_, rfl, .nil _ _⟩, trivial⟩ rfl)
 refine C.ss (U.pd 1 T (C.xs ?_))
 refine C.ite rfl g (fun b13 g => ?_) fun b13 g => ?_
 refine C.skip (C.xs (C.block (C.ss (U.ps 1 T rfl ?_))))
 obtain ⟨x16, y16, g⟩ := g
 refine U.ix T y16 ?_
 refine U.ps 1 T rfl (U.al T ?_)
 refine U.ps 1 T rfl (U.st T ?_)
 refine U.done (C.xs ?_)
 refine C.jn (fun (x17 : Bool) => [(0, .sl 2 eApiShift shifts), (3, .o 0), (5, .p 1 0), (6, .sl 2 eApiShift shifts), (7, .i (shifts.length : Int)), (8, .i s9.2), (25, .b x17)]) (fun x17 => [(0, .val (.os 1 eOeI s9.1)), (1, .box [.i x16.From, .i x16.To])]) 2 g (fun x17 g => ?_) fun J18 g j18 => ?_
 refine C.nx ?_
 refine C.jn (fun (x21 : List (List Int)) => [(0, .sl 2 eApiShift shifts), (3, .o 0), (6, .sl 2 eApiShift shifts), (7, .i (shifts.length : Int)), (8, .i s9.2)]) (fun x21 => [(0, .val (.os 1 eOeI x21))]) 1 g (fun x21 g => ?_) fun J22 g j22 => ?_
 refine C.bnx (C.nx (U.start (U.pd 2 T (C.nx ?_))))
 exact St.wk (C.next g) (Wk.a [some 0])
 refine C.ite rfl g (fun b23 g => ?_) fun b23 g => ?_
 obtain ⟨x26, y26, g⟩ := g
 refine St.lend (l := 0) (i := (Int.toNat (w64 ((s9.1.length : Int) - 1)))) rfl (idx_some y26).2.2 rfl (fun _ => rfl) ?_
 refine D.bq mix 15 [0, 1] [2] (fun hQ hS ws M' => ?_)
 refine D.pq 2 (zl [0, 1]) T ?_
 refine D.q 2 [] hQ hS rfl (.none rfl) rfl rfl (by exact Rd.lnl T rfl rfl rfl rfl) rfl (by kernel_rfl) ?_
 refine D.pq 3 (zl [3, 4, 5]) T ?_
 refine D.q 6 [] hQ hS rfl (.none rfl) rfl rfl (by exact Rd.lnl T rfl rfl rfl rfl) rfl (by kernel_rfl) ?_
 refine D.pq 1 [(7, [])] T ?_
 refine D.q 8 [] hQ hS rfl (.none rfl) rfl rfl (by exact Rd.il T rfl rfl rfl rfl rfl rfl rfl y26) rfl (by kernel_rfl) ?_
 refine D.q 9 [] hQ hS rfl (.none rfl) rfl rfl (by exact Rd.ll T rfl rfl rfl (.head _) rfl rfl rfl rfl) rfl (by kernel_rfl) ?_
 refine D.pq 2 (zl [10, 11]) T ?_
 refine D.e1 12 rfl (.none rfl) (by exact Eff1.bs T (enc := eI) (xs := ([x16.To] : List Int)) rfl rfl rfl rfl rfl rfl rfl rfl rfl rfl (fun _ _ => rfl) rfl rfl) (by kernel_rfl) rfl rfl ?_
 obtain ⟨y27, g⟩ := g
 refine D.e1 13 rfl (.none rfl) (by exact Eff1.ap T rfl rfl rfl rfl rfl rfl (.inr ⟨_, rfl, rfl⟩) rfl rfl rfl (fun _ => rfl) rfl y27) (by kernel_rfl) rfl rfl ?_
 refine D.q 14 [] hQ hS rfl (.none rfl) rfl rfl (by exact Rd.il T rfl rfl rfl rfl rfl rfl rfl y26) rfl (by kernel_rfl) ?_
 refine D.ze1 rfl (.none rfl) (by exact Eff1.sl T rfl rfl rfl (fun _ h => nomatch h) rfl rfl rfl rfl) (by kernel_rfl) (by kernel_rfl) ?_
 refine St.putb (l := 0) (l' := 4) (y := (x26 ++ ([x16.To] : List Int))) rfl rfl rfl (fun _ h => nomatch h) rfl _ rfl ?_
 exact St.wa [some 0] (j22 _ g)
 refine U.start (U.ps 5 T rfl (U.bs T eI ([x16.From, x16.To] : List Int) ?_))
 refine U.e1 rfl (.none rfl) (by exact Eff1.bsl T (enc := eOeI) ([x16.From, x16.To] : List Int) rfl rfl rfl rfl rfl rfl rfl rfl rfl) ?_
 obtain ⟨y30, g⟩ := g
 refine U.e1 rfl (.none rfl) (by exact Eff1.apl T rfl rfl rfl rfl rfl rfl rfl (fun _ => rfl) rfl rfl rfl rfl ⟨_, rfl, rfl⟩ y30) ?_
 refine U.pd 1 T ?_
 refine St.putb (l := 4) (l' := 2) (y := ([x16.From, x16.To] : List Int)) rfl rfl rfl (fun _ h => nomatch h) rfl _ rfl ?_
 exact St.wa [some 4] (j22 _ g)
 refine D.bq mix 9999 [1] [] (fun hQ hS ws M' => ?_)
 refine D.pq 3 (zl [0, 1, 2]) T ?_
 refine g.cs (fun b19 g => ?_) fun b19 g => ?_
 refine D.pt 3 [] 2 true 15 b19 T ?_
 refine D.pt 4 [] 2 true 15 b19 T ?_
 refine D.pt 5 [] 2 true 15 b19 T ?_
 obtain ⟨x20, y20, g⟩ := g
 refine D.q 6 [] hQ hS rfl (.tk 2 true 15 b19) rfl rfl (by exact Rd.ix T rfl rfl rfl rfl rfl rfl y20) rfl (by kernel_rfl) ?_
 refine D.pt 7 [] 2 true 15 b19 T ?_
 refine D.q 8 [] hQ hS rfl (.tk 2 true 15 b19) rfl rfl (by exact Rd.l T rfl rfl rfl) rfl (by kernel_rfl) ?_
 refine D.pt 9 [] 2 true 15 b19 T ?_
 refine D.q 10 [] hQ hS rfl (.tk 2 true 15 b19) rfl rfl (by exact Rd.l T rfl rfl rfl) rfl (by kernel_rfl) ?_
 refine D.pt 11 [] 2 true 15 b19 T ?_
 refine D.kt 12 [] b19 ?_
 refine D.done (by kernel_rfl) ?_
 exact St.wa (idR 2) (j18 _ g)
 refine D.sz 3 [] 2 true 15 b19 ?_
 refine D.sz 4 [] 2 true 15 b19 ?_
 refine D.sz 5 [] 2 true 15 b19 ?_
 refine D.sz 6 [] 2 true 15 b19 ?_
 refine D.sz 7 [] 2 true 15 b19 ?_
 refine D.sz 8 [] 2 true 15 b19 ?_
 refine D.sz 9 [] 2 true 15 b19 ?_
 refine D.sz 10 [] 2 true 15 b19 ?_
 refine D.sz 11 [] 2 true 15 b19 ?_
 refine D.kf 12 [] b19 ?_
 refine D.done (by kernel_rfl) ?_
 exact St.wa (idR 2) (j18 _ g)
 refine C.exit (C.ex (C.ex (C.bex ?_)))
 exact St.wa [some 0] (j8 _ g)
theorem T_taquinref28_SameTrips (a : List (List Int)) (b : List (List Int)) (post : Bool → Prop) (g : V_taquinref28_SameTrips a b post) :
    Tr Try.prog 9 [.sl 1 eLeI a, .sl 1 eLeI b] [] 0 (pB post) := by
 refine Tr.go Try.func9 Try.ntmps9 fun _ _ _ _ o => ?_
 unfold V_taquinref28_SameTrips at g
 refine C.ss (U.pd 1 T (C.xs (C.ss ?_)))
 refine U.pd 5 T (C.nx ?_)
 refine C.ite rfl g (fun b5 g => ?_) fun b5 g => ?_
 refine C.ss (U.pd 1 T (C.nx (C.ret (C.rt ?_))))
 exact C.f1 T o (pBi g)
 refine C.skip (C.xs (C.ss (U.pd 1 T (C.nx ?_))))
 refine C.jn (fun (x10 : Unit) => []) (fun x10 => []) 0 g (fun x10 g => ?_) fun J11 g j11 => ?_
 refine C.xt (U.pd 1 T (C.nx (C.ret ?_)))
 exact C.f1 T o (pBi g)
 refine C.block (St.wk (C.loop (fun (s12 : Int) => [(0, .sl 1 eLeI a), (1, .sl 1 eLeI b), (5, .i s12)]) (fun s12 => []) g (fun s12 Y13 g => ?_)) (Wk.e))
 refine C.seq (C.ss (U.pd 4 T (C.nx ?_)))
 refine C.ite rfl g (fun b16 g => ?_) fun b16 g => ?_
 refine C.skip (C.xs ?_)
 refine C.jn (fun (x17 : Unit) => [(0, .sl 1 eLeI a), (1, .sl 1 eLeI b), (5, .i s12)]) (fun x17 => []) 0 g (fun x17 g => ?_) fun J18 g j18 => ?_
 refine C.nx (U.start (U.pd 3 T (C.nx ?_)))
 exact St.wk (C.next g) (Wk.e)
 refine C.block (C.seq (C.seq (D.bq mix 9999 [] [] (fun hQ hS ws M' => ?_))))
 refine D.pq 2 (zl [0, 1]) T ?_
 obtain ⟨x21, y21, g⟩ := g
 refine D.ix 2 [] T y21 ?_
 refine D.pq 4 (zl [3, 4, 5, 6]) T ?_
 obtain ⟨x22, y22, g⟩ := g
 refine D.ix 7 [] T y22 ?_
 refine D.pq 3 (zl [8, 9, 10]) T ?_
 refine D.done (by kernel_rfl) ?_
 refine C.nx ?_
 refine C.ite rfl g (fun b23 g => ?_) fun b23 g => ?_
 refine C.ss (U.pd 1 T (C.nx (C.ret (C.rt (C.brt (C.rt (C.rt (C.brt (C.rt ?_)))))))))
 exact C.f1 T o (pBi g)
 refine C.skip (C.xt (U.pd 1 T (C.nx ?_)))
 refine C.jn (fun (x28 : Unit) => [(0, .sl 1 eLeI a), (1, .sl 1 eLeI b), (5, .i s12)]) (fun x28 => []) 0 g (fun x28 g => ?_) fun J29 g j29 => ?_
 refine C.bnx ?_
 exact St.wn (j18 _ g)
 refine C.block (St.wk (C.loop (fun (s30 : Int) => [(0, .sl 1 eLeI a), (1, .sl 1 eLeI b), (5, .i s12), (6, .i s30)]) (fun s30 => []) g (fun s30 Y31 g => ?_)) (Wk.e))
 refine C.seq (C.ss (U.ps 3 T rfl ?_))
 obtain ⟨x34, y34, g⟩ := g
 refine U.ix T y34 ?_
 refine U.pd 3 T (C.nx ?_)
 refine C.ite rfl g (fun b35 g => ?_) fun b35 g => ?_
 refine C.skip (C.xs (C.block (C.seq (D.bq mix 9999 [] [] (fun hQ hS ws M' => ?_)))))
 refine D.pq 2 (zl [0, 1]) T ?_
 refine D.ix 2 [] T y34 ?_
 refine D.pq 2 (zl [3, 4]) T ?_
 obtain ⟨x38, y38, g⟩ := g
 refine D.ix 5 [] T y38 ?_
 refine D.pq 3 (zl [6, 7, 8]) T ?_
 obtain ⟨x39, y39, g⟩ := g
 refine D.ix 9 [] T y39 ?_
 refine D.pq 2 (zl [10, 11]) T ?_
 obtain ⟨x40, y40, g⟩ := g
 refine D.ix 12 [] T y40 ?_
 refine D.pq 2 (zl [13, 14]) T ?_
 refine D.done (by kernel_rfl) ?_
 refine C.nx ?_
 refine C.ite rfl g (fun b41 g => ?_) fun b41 g => ?_
 refine C.ss (U.pd 1 T (C.nx (C.ret (C.brt (C.rt (C.rt (C.brt (C.brt (C.rt (C.rt (C.brt (C.rt ?_))))))))))))
 exact C.f1 T o (pBi g)
 refine C.skip (C.bnx (C.nx (U.start (U.pd 3 T (C.nx ?_)))))
 exact St.wk (C.next g) (Wk.e)
 refine C.exit (C.ex (C.ex (C.bex ?_)))
 exact St.wn (j29 _ g)
 refine C.exit (C.ex (C.ex (C.bex ?_)))
 exact St.wk (j11 _ g) (Wk.mk' [] rfl rfl trivial trivial rfl)
end Go.Proofs.Ythbeknnkokooiaa
