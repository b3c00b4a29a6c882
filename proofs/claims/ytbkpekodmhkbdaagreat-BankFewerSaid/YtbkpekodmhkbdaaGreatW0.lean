/- The walks: each Go function does what its verification condition says (written by a program of the prover). -/
import Derived.Test.YtbkpekodmhkbdaaGreatEnc
import Derived.KernelRfl
set_option maxRecDepth 100000
set_option maxHeartbeats 8000000
set_option linter.unusedVariables false
set_option linter.unusedSimpArgs false
namespace Go.Proofs.YtbkpekodmhkbdaaGreat
open Go Go.Taq
theorem T_taquinlaw21_sample (post : (ApiSite × ApiState) → Prop) (hm : V_taquinlaw21_sample post) :
    Tr Tryz.prog 28 [] [] 0 (fun A H' k => ∃ y, post y ∧ A = (.tup [.agg [.i y.1.Floor.W, .i y.1.Floor.H, .i y.1.Floor.D, .o 0, .o 1, .o 2, .o 3, .o 4, .o 5], .agg [.i y.2.Tick, .o 6, .o 7, .o 8, .o 9, .o 10]]) ∧ H' = [(0, .val (.os 1 eI y.1.Floor.Kind)), (1, .val (.os 1 eI y.1.Floor.Out)), (2, .val (.os 5 eApiZone y.1.Zones)), (3, .val (.os 2 eApiApart y.1.Aparts)), (4, .val (.os 2 eApiShelf y.1.Shelves)), (5, .val (.os 2 eApiStart y.1.Robots)), (6, .val (.os 1 eI y.2.Shelves)), (7, .val (.os 6 eApiRobot y.2.Robots)), (8, .val (.os 1 eI y.2.People)), (9, .val (.os 1 eI y.2.Dead)), (10, .val (.os 2 eApiStuck y.2.Stuck))] ∧ k = 11) := by
 refine Tr.intro (n := 17) Tryz.func28 rfl Tryz.ntmps28 rfl (fun w0 ok F β hβ => ?_)
 unfold V_taquinlaw21_sample at hm
 refine C.seq (U.start ?_)
 refine U.e1 rfl (.none rfl) (by exact Eff1.al T rfl rfl rfl rfl) ?_
 refine U.e1 rfl (.none rfl) (by exact Eff1.al T rfl rfl rfl rfl) ?_
 refine U.done (C.nx (C.seq (U.start ?_)))
 refine U.e1 rfl (.none rfl) (by exact Eff1.bs T (enc := eI) (xs := ([3, 1, 1, 1, 1] : List Int)) rfl rfl rfl rfl rfl rfl rfl rfl rfl rfl (fun _ _ => rfl) rfl rfl) ?_
 refine U.e1 rfl (.none rfl) (by exact Eff1.bs T (enc := eI) (xs := ([5, 5, 5, 5, 5] : List Int)) rfl rfl rfl rfl rfl rfl rfl rfl rfl rfl (fun _ _ => rfl) rfl rfl) ?_
 refine U.ps 1 T rfl ?_
 refine U.e1 rfl (.none rfl) (by exact Eff1.al T rfl rfl rfl rfl) ?_
 refine U.e1 rfl (.none rfl) (by exact Eff1.st T rfl rfl rfl rfl rfl rfl rfl rfl rfl rfl) ?_
 refine U.done (C.nx (C.seq (U.start ?_)))
 refine U.ps 3 T rfl ?_
 refine U.e1 rfl (.none rfl) (by exact Eff1.bs T (enc := eApiStart) (xs := ([({ Cell := 1, Charge := 9 : ApiStart }), ({ Cell := 2, Charge := 9 : ApiStart })] : List ApiStart)) rfl rfl rfl rfl rfl rfl rfl rfl rfl rfl (fun _ _ => rfl) rfl rfl) ?_
 refine U.ps 1 T rfl ?_
 refine U.e1 rfl (.none rfl) (by exact Eff1.al T rfl rfl rfl rfl) ?_
 refine U.e1 rfl (.none rfl) (by exact Eff1.st T rfl rfl rfl rfl rfl rfl rfl rfl rfl rfl) ?_
 refine U.done (C.nx (C.seq (U.start ?_)))
 refine U.ps 3 T rfl ?_
 refine U.e1 rfl (.none rfl) (by exact Eff1.bs T (enc := eApiRobot) (xs := ([({ Cell := 1, Load := (-1), Charge := 9, Rest := 0, Mute := 0, Dead := false : ApiRobot }), ({ Cell := 2, Load := (-1), Charge := 9, Rest := 0, Mute := 0, Dead := false : ApiRobot })] : List ApiRobot)) rfl rfl rfl rfl rfl rfl rfl rfl rfl rfl (fun _ _ => rfl) rfl rfl) ?_
 refine U.ps 1 T rfl ?_
 refine U.e1 rfl (.none rfl) (by exact Eff1.st T rfl rfl rfl rfl rfl rfl rfl rfl rfl rfl) ?_
 refine U.e1 rfl (.none rfl) (by exact Eff1.st T rfl rfl rfl rfl rfl rfl rfl rfl rfl rfl) ?_
 refine U.done (C.nx (C.ret ?_))
 exact C.fg [some 2, some 3, none, none, none, some 5, none, some 7, none, none, none] T hβ ⟨(({ Floor := ({ W := 5, H := 1, D := 1, Kind := ([3, 1, 1, 1, 1] : List Int), Out := ([5, 5, 5, 5, 5] : List Int) : ApiFloor }), Zones := [], Aparts := [], Shelves := [], Robots := ([({ Cell := 1, Charge := 9 : ApiStart }), ({ Cell := 2, Charge := 9 : ApiStart })] : List ApiStart) : ApiSite }), ({ Tick := 0, Shelves := [], Robots := ([({ Cell := 1, Load := (-1), Charge := 9, Rest := 0, Mute := 0, Dead := false : ApiRobot }), ({ Cell := 2, Load := (-1), Charge := 9, Rest := 0, Mute := 0, Dead := false : ApiRobot })] : List ApiRobot), People := [], Dead := [], Stuck := [] : ApiState })), hm, rfl, rfl, rfl⟩
theorem T_bank_situation_alive (x_1 : BankSituation) (robot : Int) (post : Bool → Prop) (hm : V_bank_situation_alive x_1 robot post) :
    Tr Tryz.prog 60 [.rp [.i x_1.s.Floor.W, .i x_1.s.Floor.H, .i x_1.s.Floor.D, .sl 1 eI x_1.s.Floor.Kind, .sl 1 eI x_1.s.Floor.Out, .sl 5 eApiZone x_1.s.Zones, .sl 2 eApiApart x_1.s.Aparts, .sl 2 eApiShelf x_1.s.Shelves, .sl 2 eApiStart x_1.s.Robots, .i x_1.st.Tick, .sl 1 eI x_1.st.Shelves, .sl 6 eApiRobot x_1.st.Robots, .sl 1 eI x_1.st.People, .sl 1 eI x_1.st.Dead, .sl 2 eApiStuck x_1.st.Stuck, .sl 1 eI x_1.homes, .rm kI veB x_1.home], .i robot] [] 0 (fun A H' k => ∃ y, post y ∧ A = (.b y) ∧ H' = [] ∧ k = 0) := by
 refine Tr.intro (n := 29) Tryz.func60 rfl Tryz.ntmps60 rfl (fun w0 ok F β hβ => ?_)
 unfold V_bank_situation_alive at hm
 refine C.seq (U.start ?_)
 refine U.pd 1 T (C.nx (C.seq ?_))
 refine C.jn (fun (x3 : Bool) => [(4, .b x3)]) (fun (x3 : Bool) => []) 0 hm (fun x3 hm => ?_) (fun J4 hm hJ4 => ?_)
 refine C.nx (C.ret ?_)
 exact C.f1 T hβ ⟨x3, hm, rfl, rfl, rfl⟩
 refine U.start ?_
 refine U.ps 3 T rfl ?_
 refine hm.cs (fun hb5 hm => ?_) (fun hb5 hm => ?_)
 refine U.pg 8 2 true 7 hb5 T rfl rfl rfl rfl ?_
 refine U.pk hb5 ?_
 refine U.ps 1 T rfl ?_
 refine hm.cs (fun hb6 hm => ?_) (fun hb6 hm => ?_)
 refine U.pg 6 12 true 17 hb6 T rfl rfl rfl rfl ?_
 obtain ⟨x7, hx7, hm⟩ := hm
 refine U.r rfl (.take 12 true 17 _ hb6 rfl rfl rfl) rfl rfl (by exact Rd.ix T rfl rfl rfl rfl rfl rfl hx7) ?_
 refine U.pg 3 12 true 17 hb6 T rfl rfl rfl rfl ?_
 refine U.pk hb6 ?_
 refine U.pd 1 T ?_
 exact St.wn (hJ4 _ hm)
 refine U.sks 10 12 true 17 hb6 rfl rfl rfl ?_
 refine U.pk' hb6 ?_
 refine U.pd 1 T ?_
 exact St.wn (hJ4 _ hm)
 refine U.sks 8 2 true 7 hb5 rfl rfl rfl ?_
 refine U.pk' hb5 ?_
 refine U.ps 1 T rfl ?_
 refine U.sks 10 12 true 17 rfl rfl rfl rfl ?_
 refine U.pk' rfl ?_
 refine U.pd 1 T ?_
 exact St.wn (hJ4 _ hm)
theorem T_bank_newSituation (s_1 : ApiSite) (st : ApiState) (homes : List Int) (gone : List Int) (post : BankSituation → Prop) (hm : V_bank_newSituation s_1 st homes gone post) :
    Tr Tryz.prog 56 [.agg (eApiSite s_1), .agg (eApiState st), .sl 1 eI homes, .sl 1 eI gone] [] 0 (fun A H' k => ∃ y, post y ∧ A = (.p 1 0) ∧ H' = [(0, .val (.om kI veB y.home)), (1, .box [.i y.s.Floor.W, .i y.s.Floor.H, .i y.s.Floor.D, .sl 1 eI y.s.Floor.Kind, .sl 1 eI y.s.Floor.Out, .sl 5 eApiZone y.s.Zones, .sl 2 eApiApart y.s.Aparts, .sl 2 eApiShelf y.s.Shelves, .sl 2 eApiStart y.s.Robots, .i y.st.Tick, .sl 1 eI y.st.Shelves, .sl 6 eApiRobot y.st.Robots, .sl 1 eI y.st.People, .sl 1 eI y.st.Dead, .sl 2 eApiStuck y.st.Stuck, .sl 1 eI y.homes, .o 0])] ∧ k = 2) := by
 refine Tr.intro (n := 34) Tryz.func56 rfl Tryz.ntmps56 rfl (fun w0 ok F β hβ => ?_)
 unfold V_bank_newSituation at hm
 refine C.seq (U.start ?_)
 refine U.bx ?_
 refine U.bx ?_
 refine U.pd 1 T (C.nx (C.seq (U.start ?_)))
 refine U.ps 3 T rfl ?_
 refine U.e1 rfl (.none rfl) (by exact Eff1.mm kI veB rfl rfl rfl) ?_
 refine U.ps 1 T rfl ?_
 refine U.bx ?_
 refine U.pd 1 T (C.nx (C.seq (C.seq (U.start ?_))))
 refine U.pd 3 T (C.nx ?_)
 refine C.jn (fun (x7 : List (Int × Bool)) => [(9, .p 0 0)]) (fun (x7 : List (Int × Bool)) => [(0, .box [.i s_1.Floor.W, .i s_1.Floor.H, .i s_1.Floor.D, .sl 1 eI s_1.Floor.Kind, .sl 1 eI s_1.Floor.Out, .sl 5 eApiZone s_1.Zones, .sl 2 eApiApart s_1.Aparts, .sl 2 eApiShelf s_1.Shelves, .sl 2 eApiStart s_1.Robots, .i st.Tick, .sl 1 eI st.Shelves, .sl 6 eApiRobot st.Robots, .sl 1 eI st.People, .sl 1 eI st.Dead, .sl 2 eApiStuck st.Stuck, .sl 1 eI homes, .o 1]), (1, .val (.om kI veB x7))]) 2 hm (fun x7 hm => ?_) (fun J8 hm hJ8 => ?_)
 refine C.nx (C.seq (U.start ?_))
 refine U.pd 2 T (C.nx (C.ret ?_))
 exact C.g1 [some 1, some 0] T hβ ⟨({ s := s_1, st := st, homes := homes, home := x7 : BankSituation }), hm, rfl, rfl, rfl⟩
 refine C.block ?_
 refine St.wk (C.loop (fun (s9 : List (Int × Bool) × Int) => [(9, .p 0 0), (18, .sl 1 eI gone), (19, .i (gone.length : Int)), (20, .i s9.2)]) (fun (s9 : List (Int × Bool) × Int) => [(0, .box [.i s_1.Floor.W, .i s_1.Floor.H, .i s_1.Floor.D, .sl 1 eI s_1.Floor.Kind, .sl 1 eI s_1.Floor.Out, .sl 5 eApiZone s_1.Zones, .sl 2 eApiApart s_1.Aparts, .sl 2 eApiShelf s_1.Shelves, .sl 2 eApiStart s_1.Robots, .i st.Tick, .sl 1 eI st.Shelves, .sl 6 eApiRobot st.Robots, .sl 1 eI st.People, .sl 1 eI st.Dead, .sl 2 eApiStuck st.Stuck, .sl 1 eI homes, .o 1]), (1, .val (.om kI veB s9.1))]) hm (fun s9 Y10 hm => ?_)) (Wk.a [some 3, some 2])
 refine C.seq (U.start ?_)
 refine U.pd 1 T (C.nx (C.seq ?_))
 refine C.ite rfl hm (fun hb13 hm => ?_) (fun hb13 hm => ?_)
 refine C.skip (C.nx (C.seq (C.block (C.seq (U.start ?_)))))
 obtain ⟨x16, hx16, hm⟩ := hm
 refine U.r rfl (.none rfl) rfl rfl (by exact Rd.ix T rfl rfl rfl rfl rfl rfl hx16) ?_
 refine U.pd 2 T (C.nx (C.seq (U.start ?_)))
 refine U.ps 2 T rfl ?_
 refine U.k (T_bank_situation_alive ({ s := s_1, st := st, homes := homes, home := s9.1 : BankSituation }) x16 _ hm) en60 (fun x19 hm => ?_)
 refine U.done (C.nx ?_)
 refine C.jn (fun (x20 : List (Int × Bool)) => [(9, .p 0 0), (18, .sl 1 eI gone), (19, .i (gone.length : Int)), (20, .i s9.2)]) (fun (x20 : List (Int × Bool)) => [(0, .box [.i s_1.Floor.W, .i s_1.Floor.H, .i s_1.Floor.D, .sl 1 eI s_1.Floor.Kind, .sl 1 eI s_1.Floor.Out, .sl 5 eApiZone s_1.Zones, .sl 2 eApiApart s_1.Aparts, .sl 2 eApiShelf s_1.Shelves, .sl 2 eApiStart s_1.Robots, .i st.Tick, .sl 1 eI st.Shelves, .sl 6 eApiRobot st.Robots, .sl 1 eI st.People, .sl 1 eI st.Dead, .sl 2 eApiStuck st.Stuck, .sl 1 eI homes, .o 1]), (1, .val (.om kI veB x20))]) 2 hm (fun x20 hm => ?_) (fun J21 hm hJ21 => ?_)
 refine C.bnx (C.nx (U.start ?_))
 refine U.pd 2 T (C.nx ?_)
 exact St.wk (C.next hm) (Wk.a (idR 2))
 refine C.ite rfl hm (fun hb22 hm => ?_) (fun hb22 hm => ?_)
 refine U.start ?_
 refine U.ps 5 T rfl ?_
 refine U.e1 rfl (.none rfl) (by exact Eff1.mu T (x := x16) (y := true) (.inl rfl) rfl kt3 (fun _ => rfl) rfl rfl rfl rfl rfl (.inl rfl) rfl) ?_
 refine U.done ?_
 exact St.wa (idR 2) (hJ21 _ hm)
 refine C.skip ?_
 exact St.wa (idR 2) (hJ21 _ hm)
 refine C.exit (C.ex (C.ex (C.bex ?_)))
 exact St.wa (idR 2) (hJ8 _ hm)
set_option maxHeartbeats 4000000 in
theorem gr130 : GrowRaw Tryz.prog 130 1 := fun w n hn => by
  have u0 := run_underlying Tryz.underlying0; have u3 := run_underlying Tryz.underlying3; have u4 := run_underlying Tryz.underlying4; have uS := run_underlying Tryz.underlying22
  have zE := Tryz.sizeOf3
  obtain ⟨_, inf, z, hinf, hsz, hby, hz0, hzc, _, hzl, _⟩ := teok3
  have hzs : z.cells.size = 1 := by rw [← Array.length_toList, hzc]; exact hzl
  have hby2 : inf.bytes ≤ 128 := by rw [hby]; decide
  have hsz2 : inf.size = 1 := hsz
  have hw0 : IntKind.i64.wrap ((0 : Int) - 0) = 0 := IntWalk.i64_in _ (by omega)
  have hw1 : IntKind.i64.wrap ((n : Int) - 0) = (n : Int) := (IntWalk.i64_in _ (by omega)).trans (by omega)
  have hneg : ¬ ((n : Int) < 0) := by omega
  rcases Nat.eq_zero_or_pos n with h0 | h0
  · subst h0
    go_enter Tryz.func130, Tryz.ntmps130
    go_wp2
    go_ret
    exact Or.inl ⟨rfl, rfl⟩
  · have hpos : (0 : Int) < (n : Int) := by omega
    obtain ⟨G, hG⟩ : ∃ G, G = grownCap w (0 + n) 0 3 := ⟨_, rfl⟩
    have hGn : n ≤ G := by rw [hG]; have := grownCap_ge w (0 + n) 0 3; omega
    obtain ⟨row, hrow⟩ : ∃ row : Array Value, row = ([] : List Value).toArray ++ Builtin.zeroCells z.cells n ++ Builtin.zeroCells z.cells (G - (0 + n)) := ⟨_, rfl⟩
    have hold : (Builtin.firstCells inf.size 0 (.slice none 0 0)).run Tryz.prog w.drew = .ok ([] : List Value).toArray w.drew := by simp [Builtin.firstCells]
    have hN : n * inf.bytes ≤ 1099511627776 * 128 := Nat.mul_le_mul hn hby2
    have hrz : ∀ ty, (Builtin.append_ #[22, 3] ty #[.slice none 0 0, .int .i64 (n : Int)]).run Tryz.prog w = .ok (.slice (some ⟨w.heap.size, 0, none⟩) (0 + n) G) (w.drew.alloc (.cells row 3)) := fun ty => by
      have h := Lib.run_append_grow_zeros w 22 3 ty 3 inf z .i64 .i64 Tryz.underlying22 Tryz.underlying3 hinf hz0 none 0 0 [] hold n h0 (by rw [hsz2]; decide) (by omega) (by omega) (by omega) (growslice_fits (by omega) (by rw [Nat.zero_add]; omega))
      rw [hrow, hG]
      exact h
    have hrs : row.size = G * 1 := by
      have : (G - (0 + n)) * 1 = G * 1 - n * 1 := by rw [Nat.zero_add, Nat.sub_mul]
      have : n * 1 ≤ G * 1 := Nat.mul_le_mul_right _ hGn
      rw [hrow]; simp only [Array.size_append, size_zeroCells, hzs, List.size_toArray, List.length_nil]; omega
    clear hrow hG hold
    go_enter Tryz.func130, Tryz.ntmps130
    go_wp2_with (first
      | (at_builtin; refine Lib.wpList_append_run _ rfl _ _ _ _ rfl _ _ rfl rfl _ _ (hrz _) ?_))
    go_ret
    exact Or.inr ⟨G, row, 3, rfl, hrs, rfl, rfl, rfl, rfl, Nat.le_succ _⟩
theorem T_slices_Grow_int_int (n : Int) (post : List Int → Prop) (hm : V_slices_Grow_int_int n post) :
    Tr Tryz.prog 130 [.v (.slice none 0 0), .i n] [] 0 (fun A H' k => ∃ y, post y ∧ A = (.o 0) ∧ H' = [(0, .val (.os 1 eI y))] ∧ k = 1) := by
 unfold V_slices_Grow_int_int at hm
 obtain ⟨h0, h1, hp⟩ := hm
 obtain ⟨n, rfl⟩ := Int.eq_ofNat_of_zero_le h0
 exact Tr.grow gr130 n h1 hp
theorem T_slices_Concat_int_int (slices : List (List Int)) (post : (List Int) → Prop) (hm : V_slices_Concat_int_int slices post) :
    Tr Tryz.prog 97 [.sl 1 eLeI slices] [] 0 (fun A H' k => ∃ y, post y ∧ A = (.o 0) ∧ H' = [(0, .val (.os 1 eI y))] ∧ k = 1) := by
 refine Tr.intro (n := 36) Tryz.func97 rfl Tryz.ntmps97 rfl (fun w0 ok F β hβ => ?_)
 unfold V_slices_Concat_int_int at hm
 refine C.seq (U.start ?_)
 refine U.pd 1 T (C.nx (C.seq (U.start ?_)))
 refine U.pd 1 T (C.nx (C.seq (C.seq (U.start ?_))))
 refine U.pd 3 T (C.nx ?_)
 refine C.jn (fun (x7 : Int) => [(0, .sl 1 eLeI slices), (3, .i x7)]) (fun (x7 : Int) => []) 0 hm (fun x7 hm => ?_) (fun J8 hm hJ8 => ?_)
 refine C.nx (C.seq (U.start ?_))
 refine U.ps 1 T rfl ?_
 refine U.k (T_slices_Grow_int_int x7 _ hm) en130 (fun x30 hm => ?_)
 refine U.pd 1 T (C.nx (C.seq (C.seq (U.start ?_))))
 refine U.pd 3 T (C.nx ?_)
 refine C.jn (fun (x33 : List Int) => [(6, .o 0)]) (fun (x33 : List Int) => [(0, .val (.os 1 eI x33))]) 1 hm (fun x33 hm => ?_) (fun J34 hm hJ34 => ?_)
 refine C.nx (C.seq (U.start ?_))
 refine U.pd 2 T (C.nx (C.ret ?_))
 exact C.g1 [some 0] T hβ ⟨x33, hm, rfl, rfl, rfl⟩
 refine C.block ?_
 refine St.wk (C.loop (fun (s35 : List Int × Int) => [(6, .o 0), (25, .sl 1 eLeI slices), (26, .i (slices.length : Int)), (27, .i s35.2)]) (fun (s35 : List Int × Int) => [(0, .val (.os 1 eI s35.1))]) hm (fun s35 Y36 hm => ?_)) (Wk.a [some 0])
 refine C.seq (U.start ?_)
 refine U.pd 1 T (C.nx (C.seq ?_))
 refine C.ite rfl hm (fun hb39 hm => ?_) (fun hb39 hm => ?_)
 refine C.skip (C.nx (C.seq (C.block (C.seq (U.start ?_)))))
 obtain ⟨x42, hx42, hm⟩ := hm
 refine U.r rfl (.none rfl) rfl rfl (by exact Rd.ix T rfl rfl rfl rfl rfl rfl hx42) ?_
 refine U.pd 2 T (C.nx (U.start ?_))
 refine U.ps 2 T rfl ?_
 obtain ⟨hx45, hm⟩ := hm
 refine U.e1 rfl (.none rfl) (by exact Eff1.ap T rfl rfl rfl rfl rfl rfl (.inl rfl) rfl rfl rfl (fun _ => rfl) rfl hx45) ?_
 refine U.pd 1 T (C.bnx (C.nx (U.start ?_)))
 refine U.pd 2 T (C.nx ?_)
 exact St.wk (C.next hm) (Wk.a [some 1])
 refine C.exit (C.ex (C.ex (C.bex ?_)))
 exact St.wa [some 0] (hJ34 _ hm)
 refine C.block ?_
 refine St.wk (C.loop (fun (s9 : Int × Int) => [(0, .sl 1 eLeI slices), (3, .i s9.1), (9, .sl 1 eLeI slices), (10, .i (slices.length : Int)), (11, .i s9.2)]) (fun (s9 : Int × Int) => []) hm (fun s9 Y10 hm => ?_)) (Wk.e)
 refine C.seq (U.start ?_)
 refine U.pd 1 T (C.nx (C.seq ?_))
 refine C.ite rfl hm (fun hb13 hm => ?_) (fun hb13 hm => ?_)
 refine C.skip (C.nx (C.seq (C.block (C.seq (U.start ?_)))))
 obtain ⟨x16, hx16, hm⟩ := hm
 refine U.r rfl (.none rfl) rfl rfl (by exact Rd.ix T rfl rfl rfl rfl rfl rfl hx16) ?_
 refine U.pd 2 T (C.nx (C.seq (U.start ?_)))
 refine U.pd 5 T (C.nx (C.seq (U.start ?_)))
 refine U.pd 2 T (C.nx ?_)
 refine C.ite rfl hm (fun hb23 hm => ?_) (fun hb23 hm => ?_)
 refine U.start ?_
 exact hm.elim
 refine C.skip (C.bnx (C.nx (U.start ?_)))
 refine U.pd 2 T (C.nx ?_)
 exact St.wk (C.next hm) (Wk.e)
 refine C.exit (C.ex (C.ex (C.bex ?_)))
 exact St.wn (hJ8 _ hm)
theorem T_rules_Carried_1 (r : ApiRobot) (c0 : Int) (post : Bool → Prop) (hm : V_rules_Carried_1 r c0 post) :
    Tr Tryz.prog 131 [.agg (eApiRobot r), .rp [.i c0]] [] 0 (fun A H' k => ∃ y, post y ∧ A = (.b y) ∧ H' = [] ∧ k = 0) := by
 refine Tr.intro (n := 8) Tryz.func131 rfl Tryz.ntmps131 rfl (fun w0 ok F β hβ => ?_)
 unfold V_rules_Carried_1 at hm
 refine C.seq (U.start ?_)
 refine U.bx ?_
 refine U.pd 1 T (C.nx (C.seq (U.start ?_)))
 refine U.pd 5 T (C.nx (C.ret ?_))
 exact C.f1 T hβ ⟨(r.Load == c0), hm, rfl, rfl, rfl⟩
theorem T_slices_IndexFunc_api_Robot_api_Robot__rules_Carried_1 (s_1 : List ApiRobot) (f_c0 : Int) (post : Int → Prop) (hm : V_slices_IndexFunc_api_Robot_api_Robot__rules_Carried_1 s_1 f_c0 post) :
    Tr Tryz.prog 82 [.sl 6 eApiRobot s_1, .fn (.func 131) [] [.rp [.i f_c0]]] [] 0 (fun A H' k => ∃ y, post y ∧ A = (.i y) ∧ H' = [] ∧ k = 0) := by
 refine Tr.intro (n := 19) Tryz.func82 rfl Tryz.ntmps82 rfl (fun w0 ok F β hβ => ?_)
 unfold V_slices_IndexFunc_api_Robot_api_Robot__rules_Carried_1 at hm
 refine C.seq (U.start ?_)
 refine U.pd 1 T (C.nx (C.seq (C.seq (U.start ?_))))
 refine U.pd 3 T (C.nx ?_)
 refine C.jn (fun (x5 : Unit) => []) (fun (x5 : Unit) => []) 0 hm (fun x5 hm => ?_) (fun J6 hm hJ6 => ?_)
 refine C.nx (C.seq (U.start ?_))
 refine U.pd 1 T (C.nx (C.ret ?_))
 exact C.f1 T hβ ⟨(-1), hm, rfl, rfl, rfl⟩
 refine C.block ?_
 refine St.wk (C.loop (fun (s7 : Int) => [(0, .sl 6 eApiRobot s_1), (1, .fn (.func 131) [] [.rp [.i f_c0]]), (7, .i (s_1.length : Int)), (8, .i s7)]) (fun (s7 : Int) => []) hm (fun s7 Y8 hm => ?_)) (Wk.e)
 refine C.seq (U.start ?_)
 refine U.pd 1 T (C.nx (C.seq ?_))
 refine C.ite rfl hm (fun hb11 hm => ?_) (fun hb11 hm => ?_)
 refine C.skip (C.nx (C.seq (C.block (C.seq (U.start ?_)))))
 refine U.pd 2 T (C.nx (C.seq (U.start ?_)))
 refine U.ps 3 T rfl ?_
 obtain ⟨x16, hx16, hm⟩ := hm
 refine U.r rfl (.none rfl) rfl rfl (by exact Rd.ix T rfl rfl rfl rfl rfl rfl hx16) ?_
 refine U.ps 1 T rfl ?_
 refine U.k (T_rules_Carried_1 x16 f_c0 _ hm) en131 (fun x17 hm => ?_)
 refine U.done (C.nx ?_)
 refine C.ite rfl hm (fun hb18 hm => ?_) (fun hb18 hm => ?_)
 refine C.seq (U.start ?_)
 refine U.pd 2 T (C.nx (C.ret (C.brt (C.rt (C.rt (C.brt (C.rt ?_)))))))
 exact C.f1 T hβ ⟨s7, hm, rfl, rfl, rfl⟩
 refine C.skip (C.bnx (C.nx (U.start ?_)))
 refine U.pd 2 T (C.nx ?_)
 exact St.wk (C.next hm) (Wk.e)
 refine C.exit (C.ex (C.ex (C.bex ?_)))
 exact St.wk (hJ6 _ hm) (Wk.mk' [] rfl rfl trivial trivial rfl)
theorem T_rules_Carried (st : ApiState) (shelf : Int) (post : Int → Prop) (hm : V_rules_Carried st shelf post) :
    Tr Tryz.prog 98 [.agg (eApiState st), .i shelf] [] 0 (fun A H' k => ∃ y, post y ∧ A = (.i y) ∧ H' = [] ∧ k = 0) := by
 refine Tr.intro (n := 11) Tryz.func98 rfl Tryz.ntmps98 rfl (fun w0 ok F β hβ => ?_)
 unfold V_rules_Carried at hm
 refine C.seq (U.start ?_)
 refine U.bx ?_
 refine U.bx ?_
 refine U.pd 1 T (C.nx (C.seq (C.seq (U.start ?_))))
 refine U.pd 2 T (C.nx ?_)
 refine C.ite rfl hm (fun hb5 hm => ?_) (fun hb5 hm => ?_)
 refine C.seq (U.start ?_)
 refine U.pd 1 T (C.nx (C.ret (C.rt ?_)))
 exact C.f1 T hβ ⟨(-1), hm, rfl, rfl, rfl⟩
 refine C.skip (C.nx (C.seq (U.start ?_)))
 refine U.ps 3 T rfl ?_
 refine U.k (T_slices_IndexFunc_api_Robot_api_Robot__rules_Carried_1 st.Robots shelf _ hm) en82 (fun x10 hm => ?_)
 refine U.pd 1 T (C.nx (C.ret ?_))
 exact C.f1 T hβ ⟨x10, hm, rfl, rfl, rfl⟩
theorem T_bank_situation_way_1 (c : Int) (c0 : ApiRobot) (post : Bool → Prop) (hm : V_bank_situation_way_1 c c0 post) :
    Tr Tryz.prog 99 [.i c, .rp [.i c0.Cell, .i c0.Load, .i c0.Charge, .i c0.Rest, .i c0.Mute, .b c0.Dead]] [] 0 (fun A H' k => ∃ y, post y ∧ A = (.b y) ∧ H' = [] ∧ k = 0) := by
 refine Tr.intro (n := 8) Tryz.func99 rfl Tryz.ntmps99 rfl (fun w0 ok F β hβ => ?_)
 unfold V_bank_situation_way_1 at hm
 refine C.seq (U.start ?_)
 refine U.pd 1 T (C.nx (C.seq (U.start ?_)))
 refine U.pd 5 T (C.nx (C.ret ?_))
 exact C.f1 T hβ ⟨(c == c0.Cell), hm, rfl, rfl, rfl⟩
theorem T_slices_IndexFunc_int_int__bank_situation_way_1 (s_1 : List Int) (f_c0 : ApiRobot) (post : Int → Prop) (hm : V_slices_IndexFunc_int_int__bank_situation_way_1 s_1 f_c0 post) :
    Tr Tryz.prog 94 [.sl 1 eI s_1, .fn (.func 99) [] [.rp [.i f_c0.Cell, .i f_c0.Load, .i f_c0.Charge, .i f_c0.Rest, .i f_c0.Mute, .b f_c0.Dead]]] [] 0 (fun A H' k => ∃ y, post y ∧ A = (.i y) ∧ H' = [] ∧ k = 0) := by
 refine Tr.intro (n := 19) Tryz.func94 rfl Tryz.ntmps94 rfl (fun w0 ok F β hβ => ?_)
 unfold V_slices_IndexFunc_int_int__bank_situation_way_1 at hm
 refine C.seq (U.start ?_)
 refine U.pd 1 T (C.nx (C.seq (C.seq (U.start ?_))))
 refine U.pd 3 T (C.nx ?_)
 refine C.jn (fun (x5 : Unit) => []) (fun (x5 : Unit) => []) 0 hm (fun x5 hm => ?_) (fun J6 hm hJ6 => ?_)
 refine C.nx (C.seq (U.start ?_))
 refine U.pd 1 T (C.nx (C.ret ?_))
 exact C.f1 T hβ ⟨(-1), hm, rfl, rfl, rfl⟩
 refine C.block ?_
 refine St.wk (C.loop (fun (s7 : Int) => [(0, .sl 1 eI s_1), (1, .fn (.func 99) [] [.rp [.i f_c0.Cell, .i f_c0.Load, .i f_c0.Charge, .i f_c0.Rest, .i f_c0.Mute, .b f_c0.Dead]]), (7, .i (s_1.length : Int)), (8, .i s7)]) (fun (s7 : Int) => []) hm (fun s7 Y8 hm => ?_)) (Wk.e)
 refine C.seq (U.start ?_)
 refine U.pd 1 T (C.nx (C.seq ?_))
 refine C.ite rfl hm (fun hb11 hm => ?_) (fun hb11 hm => ?_)
 refine C.skip (C.nx (C.seq (C.block (C.seq (U.start ?_)))))
 refine U.pd 2 T (C.nx (C.seq (U.start ?_)))
 refine U.ps 3 T rfl ?_
 obtain ⟨x16, hx16, hm⟩ := hm
 refine U.r rfl (.none rfl) rfl rfl (by exact Rd.ix T rfl rfl rfl rfl rfl rfl hx16) ?_
 refine U.ps 1 T rfl ?_
 refine U.k (T_bank_situation_way_1 x16 f_c0 _ hm) en99 (fun x17 hm => ?_)
 refine U.done (C.nx ?_)
 refine C.ite rfl hm (fun hb18 hm => ?_) (fun hb18 hm => ?_)
 refine C.seq (U.start ?_)
 refine U.pd 2 T (C.nx (C.ret (C.brt (C.rt (C.rt (C.brt (C.rt ?_)))))))
 exact C.f1 T hβ ⟨s7, hm, rfl, rfl, rfl⟩
 refine C.skip (C.bnx (C.nx (U.start ?_)))
 refine U.pd 2 T (C.nx ?_)
 exact St.wk (C.next hm) (Wk.e)
 refine C.exit (C.ex (C.ex (C.bex ?_)))
 exact St.wk (hJ6 _ hm) (Wk.mk' [] rfl rfl trivial trivial rfl)
theorem T_slices_DeleteFunc_int_int__o0_bank_situation_way_1 (del_c0 : ApiRobot) (s_1 : List Int) (post : (List Int) → Prop) (hm : V_slices_DeleteFunc_int_int__o0_bank_situation_way_1 del_c0 s_1 post) :
    Tr Tryz.prog 89 [.o 0, .fn (.func 99) [] [.rp [.i del_c0.Cell, .i del_c0.Load, .i del_c0.Charge, .i del_c0.Rest, .i del_c0.Mute, .b del_c0.Dead]]] [(0, .val (.os 1 eI s_1))] 1 (fun A H' k => ∃ y, post y ∧ A = (.o 1) ∧ H' = [(1, .val (.os 1 eI y))] ∧ k = 2) := by
 refine Tr.intro (n := 42) Tryz.func89 rfl Tryz.ntmps89 rfl (fun w0 ok F β hβ => ?_)
 unfold V_slices_DeleteFunc_int_int__o0_bank_situation_way_1 at hm
 refine C.seq (U.start ?_)
 refine U.pd 1 T (C.nx (C.seq (U.start ?_)))
 refine U.ps 2 T rfl ?_
 refine U.k (T_slices_IndexFunc_int_int__bank_situation_way_1 s_1 del_c0 _ hm) en94 (fun x5 hm => ?_)
 refine U.pd 1 T (C.nx (C.seq (C.seq (U.start ?_))))
 refine U.pd 2 T (C.nx ?_)
 refine C.ite rfl hm (fun hb8 hm => ?_) (fun hb8 hm => ?_)
 refine C.seq (U.start ?_)
 refine U.pd 2 T (C.nx (C.ret (C.rt ?_)))
 exact C.g1 [some 0, some 0] T hβ ⟨s_1, hm, rfl, rfl, rfl⟩
 refine C.skip (C.nx (C.seq (C.seq (U.start ?_))))
 refine U.pd 3 T (C.nx ?_)
 refine C.jn (fun (x13 : List Int × Int) => [(0, .o 0), (5, .i x13.2)]) (fun (x13 : List Int × Int) => [(0, .val (.os 1 eI x13.1))]) 1 hm (fun x13 hm => ?_) (fun J14 hm hJ14 => ?_)
 refine C.nx (C.seq (U.start ?_))
 refine U.ps 2 T rfl ?_
 obtain ⟨hx38, hm⟩ := hm
 refine U.r rfl (.none rfl) rfl rfl (by exact Rd.vw T rfl rfl rfl rfl rfl rfl (.some _ rfl) (.none _) hx38) ?_
 obtain ⟨hx39, hm⟩ := hm
 refine U.e1 rfl (.none rfl) (by exact Eff1.clv T (z0 := 0) rfl rfl rfl rfl rfl rfl rfl (fun _ => rfl) rfl hx39) ?_
 refine U.done (C.nx (C.seq (U.start ?_)))
 refine U.ps 2 T rfl ?_
 obtain ⟨hx42, hm⟩ := hm
 refine U.e1 rfl (.none rfl) (by exact Eff1.sw T rfl rfl rfl rfl rfl rfl rfl rfl (.none _) (.some _ rfl) hx42) ?_
 refine U.pd 1 T (C.nx (C.ret ?_))
 exact C.g1 (idR 2) T hβ ⟨(sub (x13.1.take (Int.toNat x13.2) ++ (List.replicate (Int.toNat ((x13.1.length : Int) - x13.2)) 0 ++ x13.1.drop ((Int.toNat x13.2) + (Int.toNat ((x13.1.length : Int) - x13.2))))) 0 x13.2), hm, rfl, rfl, rfl⟩
 refine C.block ?_
 refine St.wk (C.loop (fun (s15 : List Int × Int × Int) => [(0, .o 0), (1, .fn (.func 99) [] [.rp [.i del_c0.Cell, .i del_c0.Load, .i del_c0.Charge, .i del_c0.Rest, .i del_c0.Mute, .b del_c0.Dead]]), (5, .i s15.2.1), (6, .i s15.2.2)]) (fun (s15 : List Int × Int × Int) => [(0, .val (.os 1 eI s15.1))]) hm (fun s15 Y16 hm => ?_)) (Wk.a [some 0])
 refine C.seq (C.seq (U.start ?_))
 refine U.pd 4 T (C.nx ?_)
 refine C.ite rfl hm (fun hb19 hm => ?_) (fun hb19 hm => ?_)
 refine C.skip (C.nx (C.seq (C.block (C.seq (U.start ?_)))))
 refine U.ps 2 T rfl ?_
 obtain ⟨x22, hx22, hm⟩ := hm
 refine U.r rfl (.none rfl) rfl rfl (by exact Rd.io T rfl rfl rfl rfl rfl rfl rfl hx22) ?_
 refine U.r rfl (.none rfl) rfl rfl (by exact Rd.le T rfl rfl rfl (idx_some hx22).2.2 rfl rfl rfl) ?_
 refine U.pd 1 T (C.nx (C.seq (U.start ?_)))
 refine U.ps 2 T rfl ?_
 refine U.k (T_bank_situation_way_1 x22 del_c0 _ hm) en99 (fun x25 hm => ?_)
 refine U.pd 1 T (C.nx ?_)
 refine C.jn (fun (x26 : List Int × Int) => [(0, .o 0), (1, .fn (.func 99) [] [.rp [.i del_c0.Cell, .i del_c0.Load, .i del_c0.Charge, .i del_c0.Rest, .i del_c0.Mute, .b del_c0.Dead]]), (5, .i x26.2), (6, .i s15.2.2)]) (fun (x26 : List Int × Int) => [(0, .val (.os 1 eI x26.1))]) 1 hm (fun x26 hm => ?_) (fun J27 hm hJ27 => ?_)
 refine C.bnx (C.nx (U.start ?_))
 refine U.pd 3 T (C.nx ?_)
 exact St.wk (C.next hm) (Wk.a [some 0])
 refine C.ite rfl hm (fun hb28 hm => ?_) (fun hb28 hm => ?_)
 refine C.seq (U.start ?_)
 refine U.ps 3 T rfl ?_
 obtain ⟨x31, hx31, hm⟩ := hm
 refine U.r rfl (.none rfl) rfl rfl (by exact Rd.io T rfl rfl rfl rfl rfl rfl rfl hx31) ?_
 refine U.e1 rfl (.none rfl) (by exact Eff1.se T (z' := x22) rfl rfl rfl (idx_some hx31).2.2 rfl rfl rfl rfl rfl rfl rfl rfl (fun _ => rfl) rfl) ?_
 refine U.done (C.nx (U.start ?_))
 refine U.pd 3 T ?_
 exact St.wa [some 0] (hJ27 _ hm)
 refine C.skip ?_
 exact St.wa [some 0] (hJ27 _ hm)
 refine C.exit (C.ex (C.ex (C.bex ?_)))
 exact St.wa [some 0] (hJ14 _ hm)
theorem T_floor_size (f : ApiFloor) (post : Int → Prop) (hm : V_floor_size f post) :
    Tr Tryz.prog 72 [.agg (eApiFloor f)] [] 0 (fun A H' k => ∃ y, post y ∧ A = (.i y) ∧ H' = [] ∧ k = 0) := by
 refine Tr.intro (n := 11) Tryz.func72 rfl Tryz.ntmps72 rfl (fun w0 ok F β hβ => ?_)
 unfold V_floor_size at hm
 refine C.seq (U.start ?_)
 refine U.bx ?_
 refine U.pd 1 T (C.nx (C.seq (U.start ?_)))
 refine U.pd 9 T (C.nx (C.ret ?_))
 exact C.f1 T hβ ⟨w64 ((w64 (f.W * f.H)) * f.D), hm, rfl, rfl, rfl⟩
theorem T_floor_is (f : ApiFloor) (c : Int) (post : Bool → Prop) (hm : V_floor_is f c post) :
    Tr Tryz.prog 103 [.agg (eApiFloor f), .i c] [] 0 (fun A H' k => ∃ y, post y ∧ A = (.b y) ∧ H' = [] ∧ k = 0) := by
 refine Tr.intro (n := 13) Tryz.func103 rfl Tryz.ntmps103 rfl (fun w0 ok F β hβ => ?_)
 unfold V_floor_is at hm
 refine C.seq (U.start ?_)
 refine U.bx ?_
 refine U.pd 1 T (C.nx (C.seq ?_))
 refine C.jn (fun (x3 : Bool) => [(4, .b x3)]) (fun (x3 : Bool) => []) 0 hm (fun x3 hm => ?_) (fun J4 hm hJ4 => ?_)
 refine C.nx (C.ret ?_)
 exact C.f1 T hβ ⟨x3, hm, rfl, rfl, rfl⟩
 refine U.start ?_
 refine U.ps 3 T rfl ?_
 refine hm.cs (fun hb5 hm => ?_) (fun hb5 hm => ?_)
 refine U.pg 2 2 true 7 hb5 T rfl rfl rfl rfl ?_
 refine U.k (T_floor_size f _ hm) en72 (fun x6 hm => ?_) (hw := .take 2 true 7 _ hb5 rfl rfl rfl)
 refine U.pg 1 2 true 7 hb5 T rfl rfl rfl rfl ?_
 refine U.pk hb5 ?_
 refine U.pd 1 T ?_
 exact St.wn (hJ4 _ hm)
 refine U.sks 4 2 true 7 hb5 rfl rfl rfl ?_
 refine U.pk' hb5 ?_
 refine U.pd 1 T ?_
 exact St.wn (hJ4 _ hm)
theorem T_floor_spread_1__p0_p2_p4 (c : Int) (n : Int) (c0 : List Bool) (c1 : List Int) (c2 : List Int) (post : (List Bool × List Int × List Int) → Prop) (hm : V_floor_spread_1__p0_p2_p4 c n c0 c1 c2 post) :
    Tr Tryz.prog 166 [.i c, .i n, .p 0 0, .p 2 0, .p 4 0] [(0, .box [.o 1]), (1, .val (.os 1 eB c0)), (2, .box [.o 3]), (3, .val (.os 1 eI c1)), (4, .box [.o 5]), (5, .val (.os 1 eI c2))] 6 (fun A H' k => ∃ y, post y ∧ A = (.tup []) ∧ H' = [(0, .box [.o 6]), (2, .box [.o 7]), (4, .box [.o 8]), (6, .val (.os 1 eB y.1)), (7, .val (.os 1 eI y.2.1)), (8, .val (.os 1 eI y.2.2))] ∧ k = 9) := by
 refine Tr.intro (n := 22) Tryz.func166 rfl Tryz.ntmps166 rfl (fun w0 ok F β hβ => ?_)
 unfold V_floor_spread_1__p0_p2_p4 at hm
 refine C.seq (U.start ?_)
 refine U.ps 2 T rfl ?_
 obtain ⟨x3, hx3, hm⟩ := hm
 refine U.r rfl (.none rfl) rfl rfl (by exact Rd.io T rfl rfl rfl rfl rfl rfl rfl hx3) ?_
 refine U.r rfl (.none rfl) rfl rfl (by exact Rd.le T rfl rfl rfl (idx_some hx3).2.2 rfl rfl rfl) ?_
 refine U.done (C.nx ?_)
 refine C.jn (fun (x4 : List Bool × List Int × List Int) => []) (fun (x4 : List Bool × List Int × List Int) => [(0, .box [.o 1]), (1, .val (.os 1 eB x4.1)), (2, .box [.o 3]), (3, .val (.os 1 eI x4.2.1)), (4, .box [.o 6]), (6, .val (.os 1 eI x4.2.2))]) 7 hm (fun x4 hm => ?_) (fun J5 hm hJ5 => ?_)
 exact C.fg [some 0, some 1, some 2, some 3, some 4, some 5, some 1, some 3, some 6] T hβ ⟨(x4.1, x4.2.1, x4.2.2), hm, rfl, rfl, rfl⟩
 refine C.ite rfl hm (fun hb6 hm => ?_) (fun hb6 hm => ?_)
 refine C.seq ?_
 refine D.beg 8 [0, 2] [1] mix rfl rfl (by kernel_rfl) (by repeat (first | exact NoPanicQ.body | exact NoPanicQ.rnd | refine NoPanicQ.th ?_ | refine NoPanicQ.blk ?_ | refine NoPanicQ.ng ?_)) (fun hQ hS ws M' => ?_)
 refine D.ps 5 [(0, []), (1, []), (2, []), (3, []), (4, [])] rfl hQ hS T rfl rfl (by kernel_rfl) ?_
 refine D.q 5 [] hQ hS rfl (.none rfl) rfl rfl (by exact Rd.io T rfl rfl rfl rfl rfl rfl rfl hx3) rfl (by kernel_rfl) ?_
 refine D.e1 6 rfl (.none rfl) (by exact Eff1.se T (z' := false) rfl rfl rfl (idx_some hx3).2.2 rfl rfl rfl rfl rfl rfl rfl rfl (fun _ => rfl) rfl) (by kernel_rfl) rfl rfl ?_
 obtain ⟨x9, hx9, hm⟩ := hm
 refine D.q 7 [] hQ hS rfl (.none rfl) rfl rfl (by exact Rd.io T rfl rfl rfl rfl rfl rfl rfl hx9) rfl (by kernel_rfl) ?_
 refine D.ze1 rfl (.none rfl) (by exact Eff1.se T (z' := n) rfl rfl rfl (idx_some hx9).2.2 rfl rfl rfl rfl rfl rfl rfl rfl (fun _ => rfl) rfl) (by kernel_rfl) (by kernel_rfl) ?_
 refine C.nx (U.start ?_)
 refine U.ps 2 T rfl ?_
 refine U.e1 rfl (.none rfl) (by exact Eff1.bs T (enc := eI) (xs := ([c] : List Int)) rfl rfl rfl rfl rfl rfl rfl rfl rfl rfl (fun _ _ => rfl) rfl rfl) ?_
 obtain ⟨hx12, hm⟩ := hm
 refine U.e1 rfl (.none rfl) (by exact Eff1.ap T rfl rfl rfl rfl rfl rfl (.inr ⟨_, rfl, rfl⟩) rfl rfl rfl (fun _ => rfl) rfl hx12) ?_
 refine U.e1 rfl (.none rfl) (by exact Eff1.st T rfl rfl rfl rfl rfl rfl rfl rfl rfl rfl) ?_
 refine U.done ?_
 exact St.wk (hJ5 _ hm) (Wk.mk' [some 0, some 1, some 2, some 3, some 4, some 5, some 7] rfl rfl trivial ⟨bX, vL, bX, vL, bX, vL, trivial⟩ rfl)
 refine C.skip ?_
 exact St.wk (hJ5 _ hm) (Wk.mk' [some 0, some 1, some 2, some 3, some 4, some 5, some 5] rfl rfl trivial ⟨bX, vL, bX, vL, bX, vL, trivial⟩ rfl)
theorem T_floor_Opposite (d : Int) (post : Int → Prop) (hm : V_floor_Opposite d post) :
    Tr Tryz.prog 167 [.i d] [] 0 (fun A H' k => ∃ y, post y ∧ A = (.i y) ∧ H' = [] ∧ k = 0) := by
 refine Tr.intro (n := 12) Tryz.func167 rfl Tryz.ntmps167 rfl (fun w0 ok F β hβ => ?_)
 unfold V_floor_Opposite at hm
 refine C.seq (U.start ?_)
 refine U.pd 1 T (C.nx (C.seq (C.seq ?_)))
 refine C.jn (fun (x3 : Bool) => [(0, .i d), (8, .b x3)]) (fun (x3 : Bool) => []) 0 hm (fun x3 hm => ?_) (fun J4 hm hJ4 => ?_)
 refine C.nx ?_
 refine C.ite rfl hm (fun hb6 hm => ?_) (fun hb6 hm => ?_)
 refine C.seq (U.start ?_)
 refine U.pd 1 T (C.nx (C.ret (C.rt ?_)))
 exact C.f1 T hβ ⟨(-1), hm, rfl, rfl, rfl⟩
 refine C.skip (C.nx (C.seq (U.start ?_)))
 refine U.ps 2 T rfl ?_
 obtain ⟨x11, hx11, hm⟩ := hm
 refine U.r rfl (.none rfl) rfl rfl (by exact Rd.ia1 T (enc := eI) rfl rfl rfl rfl rfl rfl rfl rfl rfl (fun _ => rfl) rfl hx11) ?_
 refine U.pd 1 T (C.nx (C.ret ?_))
 exact C.f1 T hβ ⟨x11, hm, rfl, rfl, rfl⟩
 refine U.start ?_
 refine U.ps 3 T rfl ?_
 refine hm.cs (fun hb5 hm => ?_) (fun hb5 hm => ?_)
 refine U.sks 2 2 false 5 hb5 rfl rfl rfl ?_
 refine U.pk hb5 ?_
 refine U.done ?_
 exact St.wn (hJ4 _ hm)
 refine U.pg 2 2 false 5 hb5 T rfl rfl rfl rfl ?_
 refine U.pk' hb5 ?_
 refine U.done ?_
 exact St.wn (hJ4 _ hm)
theorem T_floor_At (f : ApiFloor) (c : Int) (post : (Int × Int × Int) → Prop) (hm : V_floor_At f c post) :
    Tr Tryz.prog 78 [.agg (eApiFloor f), .i c] [] 0 (fun A H' k => ∃ y, post y ∧ A = (.tup [.i y.1, .i y.2.1, .i y.2.2]) ∧ H' = [] ∧ k = 0) := by
 refine Tr.intro (n := 29) Tryz.func78 rfl Tryz.ntmps78 rfl (fun w0 ok F β hβ => ?_)
 unfold V_floor_At at hm
 refine C.seq (U.start ?_)
 refine U.bx ?_
 refine U.pd 3 T (C.nx (C.seq (C.seq (U.start ?_))))
 refine U.ps 2 T rfl ?_
 refine U.k (T_floor_is f c _ hm) en103 (fun x5 hm => ?_)
 refine U.pd 1 T (C.nx ?_)
 refine C.ite rfl hm (fun hb6 hm => ?_) (fun hb6 hm => ?_)
 refine C.seq (U.start ?_)
 refine U.pd 3 T (C.nx (C.ret (C.rt ?_)))
 exact C.f9 T hβ ⟨(0, 0, 0), hm, rfl, rfl, rfl⟩
 refine C.skip (C.nx (C.seq ?_))
 refine D.beg 9999 [0] [] mix rfl rfl (by kernel_rfl) (by repeat (first | exact NoPanicQ.body | exact NoPanicQ.rnd | refine NoPanicQ.th ?_ | refine NoPanicQ.blk ?_ | refine NoPanicQ.ng ?_)) (fun hQ hS ws M' => ?_)
 refine D.ps 3 [(0, []), (1, []), (2, [])] rfl hQ hS T rfl rfl (by kernel_rfl) ?_
 obtain ⟨hx11, hm⟩ := hm
 refine D.q 3 [] hQ hS rfl (.none rfl) rfl rfl (by exact Rd.rm rfl rfl rfl rfl hx11) rfl (by kernel_rfl) ?_
 refine D.ps 3 [(4, []), (5, []), (6, [])] rfl hQ hS T rfl rfl (by kernel_rfl) ?_
 obtain ⟨hx12, hm⟩ := hm
 refine D.q 7 [] hQ hS rfl (.none rfl) rfl rfl (by exact Rd.dv rfl rfl rfl rfl hx12) rfl (by kernel_rfl) ?_
 refine D.ps 2 [(8, []), (9, [])] rfl hQ hS T rfl rfl (by kernel_rfl) ?_
 obtain ⟨hx13, hm⟩ := hm
 refine D.q 10 [] hQ hS rfl (.none rfl) rfl rfl (by exact Rd.rm rfl rfl rfl rfl hx13) rfl (by kernel_rfl) ?_
 refine D.ps 6 [(11, []), (12, []), (13, []), (14, []), (15, []), (16, [])] rfl hQ hS T rfl rfl (by kernel_rfl) ?_
 obtain ⟨hx14, hm⟩ := hm
 refine D.q 17 [] hQ hS rfl (.none rfl) rfl rfl (by exact Rd.dv rfl rfl rfl rfl hx14) rfl (by kernel_rfl) ?_
 refine D.ps 3 [(18, []), (19, []), (20, [])] rfl hQ hS T rfl rfl (by kernel_rfl) ?_
 refine D.done (by kernel_rfl) ?_
 refine C.nx (C.ret ?_)
 exact C.f9 T hβ ⟨(c.tmod f.W, (w64 (c.tdiv f.W)).tmod f.H, w64 (c.tdiv (w64 (f.W * f.H)))), hm, rfl, rfl, rfl⟩
theorem T_floor_steps (post : Arr6FloorStep → Prop) (hm : V_floor_steps post) :
    Tr Tryz.prog 104 [] [] 0 (fun A H' k => ∃ y, post y ∧ A = (.agg [.i y.e0.x, .i y.e0.y, .i y.e0.z, .i y.e1.x, .i y.e1.y, .i y.e1.z, .i y.e2.x, .i y.e2.y, .i y.e2.z, .i y.e3.x, .i y.e3.y, .i y.e3.z, .i y.e4.x, .i y.e4.y, .i y.e4.z, .i y.e5.x, .i y.e5.y, .i y.e5.z]) ∧ H' = [] ∧ k = 0) := by
 refine Tr.intro (n := 8) Tryz.func104 rfl Tryz.ntmps104 rfl (fun w0 ok F β hβ => ?_)
 unfold V_floor_steps at hm
 refine C.seq (U.start ?_)
 refine U.e1 rfl (.none rfl) (by exact Eff1.al T rfl rfl rfl rfl) ?_
 refine U.done (C.nx (C.seq (U.start ?_)))
 refine U.ps 7 T rfl ?_
 refine U.e1 rfl (.none rfl) (by exact Eff1.st T rfl rfl rfl rfl rfl rfl rfl rfl rfl rfl) ?_
 refine U.done (C.nx (C.ret ?_))
 exact C.f1 T hβ ⟨({ e0 := ({ x := 1, y := 0, z := 0 : FloorStep }), e1 := ({ x := 0, y := 1, z := 0 : FloorStep }), e2 := ({ x := (-1), y := 0, z := 0 : FloorStep }), e3 := ({ x := 0, y := (-1), z := 0 : FloorStep }), e4 := ({ x := 0, y := 0, z := 1 : FloorStep }), e5 := ({ x := 0, y := 0, z := (-1) : FloorStep }) : Arr6FloorStep }), hm, rfl, rfl, rfl⟩
theorem T_floor_Cell (f : ApiFloor) (x_1 : Int) (y_1 : Int) (z : Int) (post : Int → Prop) (hm : V_floor_Cell f x_1 y_1 z post) :
    Tr Tryz.prog 79 [.agg (eApiFloor f), .i x_1, .i y_1, .i z] [] 0 (fun A H' k => ∃ y, post y ∧ A = (.i y) ∧ H' = [] ∧ k = 0) := by
 refine Tr.intro (n := 43) Tryz.func79 rfl Tryz.ntmps79 rfl (fun w0 ok F β hβ => ?_)
 unfold V_floor_Cell at hm
 refine C.seq (U.start ?_)
 refine U.bx ?_
 refine U.pd 1 T (C.nx (C.seq (C.seq ?_)))
 refine C.jn (fun (x3 : Bool) => [(1, .i x_1), (2, .i y_1), (3, .i z), (4, .p 0 0), (31, .b x3)]) (fun (x3 : Bool) => [(0, .box (eApiFloor f))]) 1 hm (fun x3 hm => ?_) (fun J4 hm hJ4 => ?_)
 refine C.nx ?_
 refine C.ite rfl hm (fun hb8 hm => ?_) (fun hb8 hm => ?_)
 refine C.seq (U.start ?_)
 refine U.pd 1 T (C.nx (C.ret (C.rt ?_)))
 exact C.f1 T hβ ⟨(-1), hm, rfl, rfl, rfl⟩
 refine C.skip (C.nx (C.seq (U.start ?_)))
 refine U.pd 12 T (C.nx (C.ret ?_))
 exact C.f1 T hβ ⟨w64 ((w64 ((w64 ((w64 (z * f.H)) + y_1)) * f.W)) + x_1), hm, rfl, rfl, rfl⟩
 refine U.start ?_
 refine U.ps 6 T rfl ?_
 refine hm.cs (fun hb5 hm => ?_) (fun hb5 hm => ?_)
 refine U.sks 4 5 false 14 hb5 rfl rfl rfl ?_
 refine U.pk hb5 ?_
 refine U.ps 1 T rfl ?_
 refine U.sks 4 11 false 20 rfl rfl rfl rfl ?_
 refine U.pk rfl ?_
 refine U.ps 1 T rfl ?_
 refine U.sks 4 17 false 26 rfl rfl rfl rfl ?_
 refine U.pk rfl ?_
 refine U.done ?_
 exact St.wa [some 0] (hJ4 _ hm)
 refine U.pg 4 5 false 14 hb5 T rfl rfl rfl rfl ?_
 refine U.pk' hb5 ?_
 refine U.ps 1 T rfl ?_
 refine hm.cs (fun hb6 hm => ?_) (fun hb6 hm => ?_)
 refine U.sks 4 11 false 20 hb6 rfl rfl rfl ?_
 refine U.pk hb6 ?_
 refine U.ps 1 T rfl ?_
 refine U.sks 4 17 false 26 rfl rfl rfl rfl ?_
 refine U.pk rfl ?_
 refine U.done ?_
 exact St.wa [some 0] (hJ4 _ hm)
 refine U.pg 4 11 false 20 hb6 T rfl rfl rfl rfl ?_
 refine U.pk' hb6 ?_
 refine U.ps 1 T rfl ?_
 refine hm.cs (fun hb7 hm => ?_) (fun hb7 hm => ?_)
 refine U.sks 4 17 false 26 hb7 rfl rfl rfl ?_
 refine U.pk hb7 ?_
 refine U.done ?_
 exact St.wa [some 0] (hJ4 _ hm)
 refine U.pg 4 17 false 26 hb7 T rfl rfl rfl rfl ?_
 refine U.pk' hb7 ?_
 refine U.done ?_
 exact St.wa [some 0] (hJ4 _ hm)
theorem T_floor_beside (f : ApiFloor) (c : Int) (d : Int) (post : Int → Prop) (hm : V_floor_beside f c d post) :
    Tr Tryz.prog 64 [.agg (eApiFloor f), .i c, .i d] [] 0 (fun A H' k => ∃ y, post y ∧ A = (.i y) ∧ H' = [] ∧ k = 0) := by
 refine Tr.intro (n := 47) Tryz.func64 rfl Tryz.ntmps64 rfl (fun w0 ok F β hβ => ?_)
 unfold V_floor_beside at hm
 refine C.seq (U.start ?_)
 refine U.bx ?_
 refine U.pd 1 T (C.nx (C.seq (C.seq ?_)))
 refine C.jn (fun (x3 : Bool) => [(1, .i c), (2, .i d), (3, .p 0 0), (22, .b x3)]) (fun (x3 : Bool) => [(0, .box (eApiFloor f))]) 1 hm (fun x3 hm => ?_) (fun J4 hm hJ4 => ?_)
 refine C.nx ?_
 refine C.ite rfl hm (fun hb8 hm => ?_) (fun hb8 hm => ?_)
 refine C.seq (U.start ?_)
 refine U.pd 1 T (C.nx (C.ret (C.rt ?_)))
 exact C.f1 T hβ ⟨(-1), hm, rfl, rfl, rfl⟩
 refine C.skip (C.nx (C.seq (U.start ?_)))
 refine U.ps 2 T rfl ?_
 refine U.k (T_floor_At f c _ hm) en78 (fun x13 hm => ?_)
 refine U.pd 7 T (C.nx (C.seq (U.start ?_)))
 refine U.k (T_floor_steps _ hm) en104 (fun x16 hm => ?_)
 refine U.ps 1 T rfl ?_
 obtain ⟨x17, hx17, hm⟩ := hm
 refine U.r rfl (.none rfl) rfl rfl (by exact Rd.ia T (enc := eFloorStep) rfl rfl rfl rfl rfl rfl rfl rfl rfl (fun _ _ => rfl) hx17) ?_
 refine U.e1 rfl (.none rfl) (by exact Eff1.al T rfl rfl rfl rfl) ?_
 refine U.e1 rfl (.none rfl) (by exact Eff1.st T rfl rfl rfl rfl rfl rfl rfl rfl rfl rfl) ?_
 refine U.done (C.nx (C.seq (U.start ?_)))
 refine U.ps 13 T rfl ?_
 refine U.k (T_floor_Cell f (w64 (x13.1 + x17.x)) (w64 (x13.2.1 + x17.y)) (w64 (x13.2.2 + x17.z)) _ hm) en79 (fun x20 hm => ?_)
 refine U.pd 1 T (C.nx (C.ret ?_))
 exact C.f1 T hβ ⟨x20, hm, rfl, rfl, rfl⟩
 refine U.start ?_
 refine U.ps 2 T rfl ?_
 refine U.k (T_floor_is f c _ hm) en103 (fun x5 hm => ?_)
 refine U.ps 2 T rfl ?_
 refine hm.cs (fun hb6 hm => ?_) (fun hb6 hm => ?_)
 refine U.pg 2 4 false 15 (ntF hb6) T rfl rfl rfl rfl ?_
 refine U.r rfl (.none rfl) rfl rfl (by exact Rd.pk' rfl rfl (ntF hb6) rfl) ?_
 refine U.ps 1 T rfl ?_
 refine hm.cs (fun hb7 hm => ?_) (fun hb7 hm => ?_)
 refine U.sks 2 8 false 19 hb7 rfl rfl rfl ?_
 refine U.pk hb7 ?_
 refine U.done ?_
 exact St.wa [some 0] (hJ4 _ hm)
 refine U.pg 2 8 false 19 hb7 T rfl rfl rfl rfl ?_
 refine U.pk' hb7 ?_
 refine U.done ?_
 exact St.wa [some 0] (hJ4 _ hm)
 refine U.sks 2 4 false 15 (ntT hb6) rfl rfl rfl ?_
 refine U.r rfl (.none rfl) rfl rfl (by exact Rd.pk rfl rfl (ntT hb6) rfl) ?_
 refine U.ps 1 T rfl ?_
 refine U.sks 2 8 false 19 rfl rfl rfl rfl ?_
 refine U.pk rfl ?_
 refine U.done ?_
 exact St.wa [some 0] (hJ4 _ hm)
theorem T_floor_Next (f : ApiFloor) (c : Int) (d : Int) (post : (Int × Bool) → Prop) (hm : V_floor_Next f c d post) :
    Tr Tryz.prog 24 [.agg (eApiFloor f), .i c, .i d] [] 0 (fun A H' k => ∃ y, post y ∧ A = (.tup [.i y.1, .b y.2]) ∧ H' = [] ∧ k = 0) := by
 refine Tr.intro (n := 65) Tryz.func24 rfl Tryz.ntmps24 rfl (fun w0 ok F β hβ => ?_)
 unfold V_floor_Next at hm
 refine C.seq (U.start ?_)
 refine U.bx ?_
 refine U.pd 2 T (C.nx (C.seq (U.start ?_)))
 refine U.ps 3 T rfl ?_
 refine U.k (T_floor_beside f c d _ hm) en64 (fun x5 hm => ?_)
 refine U.pd 1 T (C.nx (C.seq (C.seq ?_)))
 refine C.jn (fun (x6 : Bool) => [(1, .i c), (2, .i d), (3, .p 0 0), (8, .i x5), (41, .b x6)]) (fun (x6 : Bool) => [(0, .box (eApiFloor f))]) 1 hm (fun x6 hm => ?_) (fun J7 hm hJ7 => ?_)
 refine C.nx ?_
 refine C.ite rfl hm (fun hb15 hm => ?_) (fun hb15 hm => ?_)
 refine C.seq (U.start ?_)
 refine U.pd 2 T (C.nx (C.ret (C.rt ?_)))
 exact C.f9 T hβ ⟨(0, false), hm, rfl, rfl, rfl⟩
 refine C.skip (C.nx (C.seq (C.seq ?_)))
 refine C.jn (fun (x18 : Bool) => [(8, .i x5), (63, .b x18)]) (fun (x18 : Bool) => []) 0 hm (fun x18 hm => ?_) (fun J19 hm hJ19 => ?_)
 refine C.nx ?_
 refine C.ite rfl hm (fun hb28 hm => ?_) (fun hb28 hm => ?_)
 refine C.seq (U.start ?_)
 refine U.pd 2 T (C.nx (C.ret (C.rt ?_)))
 exact C.f9 T hβ ⟨(0, false), hm, rfl, rfl, rfl⟩
 refine C.skip (C.nx (C.seq (U.start ?_)))
 refine U.pd 3 T (C.nx (C.ret ?_))
 exact C.f9 T hβ ⟨(x5, true), hm, rfl, rfl, rfl⟩
 refine U.start ?_
 refine U.ps 3 T rfl ?_
 refine hm.cs (fun hb20 hm => ?_) (fun hb20 hm => ?_)
 refine U.sks 2 2 false 44 hb20 rfl rfl rfl ?_
 refine U.pk hb20 ?_
 refine U.ps 1 T rfl ?_
 refine U.pg 3 6 true 48 rfl T rfl rfl rfl rfl ?_
 obtain ⟨x21, hx21, hm⟩ := hm
 refine U.r rfl (.take 6 true 48 _ rfl rfl rfl rfl) rfl rfl (by exact Rd.ix T rfl rfl rfl rfl rfl rfl hx21) ?_
 refine U.pg 3 6 true 48 rfl T rfl rfl rfl rfl ?_
 refine hm.cs (fun hb22 hm => ?_) (fun hb22 hm => ?_)
 refine U.sks 6 13 false 55 hb22 rfl rfl rfl ?_
 refine U.r rfl (.take 6 true 48 _ rfl rfl rfl rfl) rfl rfl (by exact Rd.pk rfl rfl hb22 rfl) ?_
 refine U.pk rfl ?_
 refine U.done ?_
 exact St.wn (hJ19 _ hm)
 refine U.pg 3 13 false 55 hb22 T rfl rfl rfl rfl ?_
 obtain ⟨x23, hx23, hm⟩ := hm
 refine U.r rfl (.take 13 false 55 _ hb22 rfl rfl rfl) rfl rfl (by exact Rd.ix T rfl rfl rfl rfl rfl rfl hx23) ?_
 refine U.pg 2 13 false 55 hb22 T rfl rfl rfl rfl ?_
 refine U.r rfl (.take 6 true 48 _ rfl rfl rfl rfl) rfl rfl (by exact Rd.pk' rfl rfl hb22 rfl) ?_
 refine U.pk rfl ?_
 refine U.done ?_
 exact St.wn (hJ19 _ hm)
 refine U.pg 2 2 false 44 hb20 T rfl rfl rfl rfl ?_
 refine U.pk' hb20 ?_
 refine U.ps 1 T rfl ?_
 refine hm.cs (fun hb24 hm => ?_) (fun hb24 hm => ?_)
 refine U.pg 3 6 true 48 hb24 T rfl rfl rfl rfl ?_
 obtain ⟨x25, hx25, hm⟩ := hm
 refine U.r rfl (.take 6 true 48 _ hb24 rfl rfl rfl) rfl rfl (by exact Rd.ix T rfl rfl rfl rfl rfl rfl hx25) ?_
 refine U.pg 3 6 true 48 hb24 T rfl rfl rfl rfl ?_
 refine hm.cs (fun hb26 hm => ?_) (fun hb26 hm => ?_)
 refine U.sks 6 13 false 55 hb26 rfl rfl rfl ?_
 refine U.r rfl (.take 6 true 48 _ hb24 rfl rfl rfl) rfl rfl (by exact Rd.pk rfl rfl hb26 rfl) ?_
 refine U.pk hb24 ?_
 refine U.done ?_
 exact St.wn (hJ19 _ hm)
 refine U.pg 3 13 false 55 hb26 T rfl rfl rfl rfl ?_
 obtain ⟨x27, hx27, hm⟩ := hm
 refine U.r rfl (.take 13 false 55 _ hb26 rfl rfl rfl) rfl rfl (by exact Rd.ix T rfl rfl rfl rfl rfl rfl hx27) ?_
 refine U.pg 2 13 false 55 hb26 T rfl rfl rfl rfl ?_
 refine U.r rfl (.take 6 true 48 _ hb24 rfl rfl rfl) rfl rfl (by exact Rd.pk' rfl rfl hb26 rfl) ?_
 refine U.pk hb24 ?_
 refine U.done ?_
 exact St.wn (hJ19 _ hm)
 refine U.sks 7 6 true 48 hb24 rfl rfl rfl ?_
 refine U.sku 6 13 false 55 rfl rfl rfl ?_
 refine U.sks 1 6 true 48 hb24 rfl rfl rfl ?_
 refine U.pk' hb24 ?_
 refine U.done ?_
 exact St.wn (hJ19 _ hm)
 refine U.start ?_
 refine U.ps 3 T rfl ?_
 refine hm.cs (fun hb8 hm => ?_) (fun hb8 hm => ?_)
 refine U.sks 6 2 false 15 hb8 rfl rfl rfl ?_
 refine U.pk hb8 ?_
 refine U.ps 1 T rfl ?_
 refine U.sks 6 10 false 23 rfl rfl rfl rfl ?_
 refine U.pk rfl ?_
 refine U.ps 1 T rfl ?_
 refine U.sks 9 18 false 31 rfl rfl rfl rfl ?_
 refine U.pk rfl ?_
 refine U.done ?_
 exact St.wa [some 0] (hJ7 _ hm)
 refine U.pg 3 2 false 15 hb8 T rfl rfl rfl rfl ?_
 obtain ⟨x9, hx9, hm⟩ := hm
 refine U.r rfl (.take 2 false 15 _ hb8 rfl rfl rfl) rfl rfl (by exact Rd.ix T rfl rfl rfl rfl rfl rfl hx9) ?_
 refine U.pg 2 2 false 15 hb8 T rfl rfl rfl rfl ?_
 refine U.pk' hb8 ?_
 refine U.ps 1 T rfl ?_
 refine hm.cs (fun hb10 hm => ?_) (fun hb10 hm => ?_)
 refine U.sks 6 10 false 23 hb10 rfl rfl rfl ?_
 refine U.pk hb10 ?_
 refine U.ps 1 T rfl ?_
 refine U.sks 9 18 false 31 rfl rfl rfl rfl ?_
 refine U.pk rfl ?_
 refine U.done ?_
 exact St.wa [some 0] (hJ7 _ hm)
 refine U.pg 3 10 false 23 hb10 T rfl rfl rfl rfl ?_
 obtain ⟨x11, hx11, hm⟩ := hm
 refine U.r rfl (.take 10 false 23 _ hb10 rfl rfl rfl) rfl rfl (by exact Rd.ix T rfl rfl rfl rfl rfl rfl hx11) ?_
 refine U.pg 2 10 false 23 hb10 T rfl rfl rfl rfl ?_
 refine U.pk' hb10 ?_
 refine U.ps 1 T rfl ?_
 refine hm.cs (fun hb12 hm => ?_) (fun hb12 hm => ?_)
 refine U.sks 9 18 false 31 hb12 rfl rfl rfl ?_
 refine U.pk hb12 ?_
 refine U.done ?_
 exact St.wa [some 0] (hJ7 _ hm)
 refine U.pg 3 18 false 31 hb12 T rfl rfl rfl rfl ?_
 obtain ⟨x13, hx13, hm⟩ := hm
 refine U.r rfl (.take 18 false 31 _ hb12 rfl rfl rfl) rfl rfl (by exact Rd.ix T rfl rfl rfl rfl rfl rfl hx13) ?_
 refine U.pg 2 18 false 31 hb12 T rfl rfl rfl rfl ?_
 obtain ⟨hx14, hm⟩ := hm
 refine U.r rfl (.take 18 false 31 _ hb12 rfl rfl rfl) rfl rfl (by exact Rd.sh rfl rfl rfl rfl hx14) ?_
 refine U.pg 2 18 false 31 hb12 T rfl rfl rfl rfl ?_
 refine U.pk' hb12 ?_
 refine U.done ?_
 exact St.wa [some 0] (hJ7 _ hm)
theorem T_floor_Back (f : ApiFloor) (c : Int) (d : Int) (post : (Int × Bool) → Prop) (hm : V_floor_Back f c d post) :
    Tr Tryz.prog 133 [.agg (eApiFloor f), .i c, .i d] [] 0 (fun A H' k => ∃ y, post y ∧ A = (.tup [.i y.1, .b y.2]) ∧ H' = [] ∧ k = 0) := by
 refine Tr.intro (n := 28) Tryz.func133 rfl Tryz.ntmps133 rfl (fun w0 ok F β hβ => ?_)
 unfold V_floor_Back at hm
 refine C.seq (U.start ?_)
 refine U.bx ?_
 refine U.pd 2 T (C.nx (C.seq ?_))
 refine D.beg 9999 [0] [] mix rfl rfl (by kernel_rfl) (by repeat (first | exact NoPanicQ.body | exact NoPanicQ.rnd | refine NoPanicQ.th ?_ | refine NoPanicQ.blk ?_ | refine NoPanicQ.ng ?_)) (fun hQ hS ws M' => ?_)
 refine D.ps 3 [(0, []), (1, []), (2, [])] rfl hQ hS T rfl rfl (by kernel_rfl) ?_
 refine D.k 3 (T_floor_Opposite d _ hm) en167 (fun x5 hm => ?_)
 refine D.k 4 (T_floor_beside f c x5 _ hm) en64 (fun x6 hm => ?_)
 refine D.ps 1 [(5, [])] rfl hQ hS T rfl rfl (by kernel_rfl) ?_
 refine D.done (by kernel_rfl) ?_
 refine C.nx (C.seq (C.seq (U.start ?_)))
 refine U.pd 2 T (C.nx ?_)
 refine C.ite rfl hm (fun hb9 hm => ?_) (fun hb9 hm => ?_)
 refine C.seq (U.start ?_)
 refine U.pd 2 T (C.nx (C.ret (C.rt ?_)))
 exact C.f9 T hβ ⟨(0, false), hm, rfl, rfl, rfl⟩
 refine C.skip (C.nx (C.seq (C.seq (U.start ?_))))
 refine U.ps 3 T rfl ?_
 refine U.k (T_floor_Next f x6 d _ hm) en24 (fun x14 hm => ?_)
 refine U.pd 5 T (C.nx (C.seq (U.start ?_)))
 refine U.pd 2 T (C.nx ?_)
 refine C.ite rfl hm (fun hb17 hm => ?_) (fun hb17 hm => ?_)
 refine C.seq (U.start ?_)
 refine U.pd 2 T (C.nx (C.ret (C.rt ?_)))
 exact C.f9 T hβ ⟨(0, false), hm, rfl, rfl, rfl⟩
 refine C.skip (C.nx (C.seq (U.start ?_)))
 refine U.pd 3 T (C.nx (C.ret ?_))
 exact C.f9 T hβ ⟨(x6, true), hm, rfl, rfl, rfl⟩
theorem T_floor_spread__floor_Back (f : ApiFloor) (from_1 : List Int) (avoid : List Int) (post : (List Int) → Prop) (hm : V_floor_spread__floor_Back f from_1 avoid post) :
    Tr Tryz.prog 132 [.agg (eApiFloor f), .sl 1 eI from_1, .sl 1 eI avoid, .fn (.func 133) [] []] [] 0 (fun A H' k => ∃ y, post y ∧ A = (.o 0) ∧ H' = [(0, .val (.os 1 eI y))] ∧ k = 1) := by
 refine Tr.intro (n := 103) Tryz.func132 rfl Tryz.ntmps132 rfl (fun w0 ok F β hβ => ?_)
 unfold V_floor_spread__floor_Back at hm
 refine C.seq (U.start ?_)
 refine U.bx ?_
 refine U.pd 1 T (C.nx (C.seq (U.start ?_)))
 refine U.ps 1 T rfl ?_
 refine U.k (T_floor_size f _ hm) en72 (fun x5 hm => ?_)
 obtain ⟨hx6, hm⟩ := hm
 refine U.e1 rfl (.none rfl) (by exact Eff1.mk T (enc := eI) (z0 := 0) rfl rfl rfl rfl rfl rfl rfl rfl rfl rfl hx6) ?_
 refine U.e1 rfl (.none rfl) (by exact Eff1.al T rfl rfl rfl rfl) ?_
 refine U.e1 rfl (.none rfl) (by exact Eff1.st T rfl rfl rfl rfl rfl rfl rfl rfl rfl rfl) ?_
 refine U.done (C.nx (C.seq (U.start ?_)))
 refine U.ps 1 T rfl ?_
 refine U.k (T_floor_size f _ hm) en72 (fun x9 hm => ?_)
 obtain ⟨hx10, hm⟩ := hm
 refine U.e1 rfl (.none rfl) (by exact Eff1.mk T (enc := eB) (z0 := false) rfl rfl rfl rfl rfl rfl rfl rfl rfl rfl hx10) ?_
 refine U.e1 rfl (.none rfl) (by exact Eff1.al T rfl rfl rfl rfl) ?_
 refine U.e1 rfl (.none rfl) (by exact Eff1.st T rfl rfl rfl rfl rfl rfl rfl rfl rfl rfl) ?_
 refine U.done (C.nx (C.seq (C.seq (U.start ?_))))
 refine U.pd 4 T (C.nx ?_)
 refine C.jn (fun (x13 : List Int × List Bool) => [(1, .sl 1 eI from_1), (2, .sl 1 eI avoid), (3, .fn (.func 133) [] []), (4, .p 0 0), (9, .p 1 0), (10, .p 3 0)]) (fun (x13 : List Int × List Bool) => [(0, .box (eApiFloor f)), (1, .box [.o 2]), (2, .val (.os 1 eI x13.1)), (3, .box [.o 4]), (4, .val (.os 1 eB x13.2))]) 5 hm (fun x13 hm => ?_) (fun J14 hm hJ14 => ?_)
 refine C.nx (C.seq (C.seq (U.start ?_)))
 refine U.pd 3 T (C.nx ?_)
 refine C.jn (fun (x31 : List Bool) => [(1, .sl 1 eI from_1), (3, .fn (.func 133) [] []), (4, .p 0 0), (9, .p 1 0), (10, .p 3 0)]) (fun (x31 : List Bool) => [(0, .box (eApiFloor f)), (1, .box [.o 2]), (2, .val (.os 1 eI x13.1)), (3, .box [.o 4]), (4, .val (.os 1 eB x31))]) 5 hm (fun x31 hm => ?_) (fun J32 hm hJ32 => ?_)
 refine C.nx (C.seq (U.start ?_))
 refine U.e1 rfl (.none rfl) (by exact Eff1.al T rfl rfl rfl rfl) ?_
 refine U.done (C.nx (C.seq (U.start ?_)))
 refine U.pd 2 T (C.nx (C.seq (C.seq (U.start ?_))))
 refine U.pd 3 T (C.nx ?_)
 refine C.jn (fun (x58 : List Int × List Int × List Bool) => [(3, .fn (.func 133) [] []), (4, .p 0 0), (9, .p 1 0), (15, .p 3 0), (16, .fn (.func 166) [] [.p 5 0, .p 1 0, .p 3 0])]) (fun (x58 : List Int × List Int × List Bool) => [(0, .box (eApiFloor f)), (1, .box [.o 2]), (2, .val (.os 1 eI x58.1)), (3, .box [.o 4]), (4, .val (.os 1 eI x58.2.1)), (5, .box [.o 6]), (6, .val (.os 1 eB x58.2.2))]) 7 hm (fun x58 hm => ?_) (fun J59 hm hJ59 => ?_)
 refine C.nx (C.seq ?_)
 refine C.jn (fun (x79 : List Int) => [(9, .p 0 0)]) (fun (x79 : List Int) => [(0, .box [.o 1]), (1, .val (.os 1 eI x79))]) 2 hm (fun x79 hm => ?_) (fun J80 hm hJ80 => ?_)
 refine C.nx (C.seq (U.start ?_))
 refine U.pd 2 T (C.nx (C.ret ?_))
 exact C.g1 [some 1] T hβ ⟨x79, hm, rfl, rfl, rfl⟩
 refine C.block ?_
 refine St.wk (C.loop (fun (s81 : List Int × List Int × List Bool) => [(3, .fn (.func 133) [] []), (4, .p 0 0), (9, .p 1 0), (15, .p 3 0), (16, .fn (.func 166) [] [.p 5 0, .p 1 0, .p 3 0])]) (fun (s81 : List Int × List Int × List Bool) => [(0, .box (eApiFloor f)), (1, .box [.o 2]), (2, .val (.os 1 eI s81.1)), (3, .box [.o 4]), (4, .val (.os 1 eI s81.2.1)), (5, .box [.o 6]), (6, .val (.os 1 eB s81.2.2))]) hm (fun s81 Y82 hm => ?_)) (Wk.a (idR 7))
 refine C.seq (C.seq (U.start ?_))
 refine U.pd 3 T (C.nx ?_)
 refine C.ite rfl hm (fun hb85 hm => ?_) (fun hb85 hm => ?_)
 refine C.skip (C.nx ?_)
 refine C.jn (fun (x86 : List Int × List Int × List Bool) => [(3, .fn (.func 133) [] []), (4, .p 0 0), (9, .p 1 0), (15, .p 3 0), (16, .fn (.func 166) [] [.p 5 0, .p 1 0, .p 3 0])]) (fun (x86 : List Int × List Int × List Bool) => [(0, .box (eApiFloor f)), (1, .box [.o 2]), (2, .val (.os 1 eI x86.1)), (3, .box [.o 4]), (4, .val (.os 1 eI x86.2.1)), (5, .box [.o 6]), (6, .val (.os 1 eB x86.2.2))]) 7 hm (fun x86 hm => ?_) (fun J87 hm hJ87 => ?_)
 refine C.nx ?_
 exact St.wk (C.next hm) (Wk.a (idR 7))
 refine C.block (C.seq (U.start ?_))
 refine U.ps 1 T rfl ?_
 obtain ⟨x90, hx90, hm⟩ := hm
 refine U.r rfl (.none rfl) rfl rfl (by exact Rd.io T rfl rfl rfl rfl rfl rfl rfl hx90) ?_
 refine U.r rfl (.none rfl) rfl rfl (by exact Rd.le T rfl rfl rfl (idx_some hx90).2.2 rfl rfl rfl) ?_
 refine U.pd 1 T (C.nx (C.seq (U.start ?_)))
 refine U.ps 1 T rfl ?_
 obtain ⟨hx93, hm⟩ := hm
 refine U.e1 rfl (.none rfl) (by exact Eff1.sw T rfl rfl rfl rfl rfl rfl rfl rfl (.some _ rfl) (.none _) hx93) ?_
 refine U.e1 rfl (.none rfl) (by exact Eff1.st T rfl rfl rfl rfl rfl rfl rfl rfl rfl rfl) ?_
 refine U.done (C.nx (C.seq (U.start ?_)))
 refine U.pd 1 T (C.nx ?_)
 refine C.jn (fun (x96 : List Int × List Int × List Bool) => [(3, .fn (.func 133) [] []), (4, .p 0 0), (9, .p 1 0), (15, .p 3 0), (16, .fn (.func 166) [] [.p 5 0, .p 1 0, .p 3 0])]) (fun (x96 : List Int × List Int × List Bool) => [(0, .box (eApiFloor f)), (1, .box [.o 2]), (2, .val (.os 1 eI x96.1)), (3, .box [.o 4]), (4, .val (.os 1 eI x96.2.1)), (5, .box [.o 6]), (6, .val (.os 1 eB x96.2.2))]) 7 hm (fun x96 hm => ?_) (fun J97 hm hJ97 => ?_)
 refine C.bnx ?_
 exact St.wa (idR 7) (hJ87 _ hm)
 refine C.block ?_
 refine St.wk (C.loop (fun (s98 : List Int × List Int × List Bool × Int) => [(3, .fn (.func 133) [] []), (4, .p 0 0), (9, .p 1 0), (15, .p 3 0), (16, .fn (.func 166) [] [.p 5 0, .p 1 0, .p 3 0]), (19, .i x90), (81, .i s98.2.2.2)]) (fun (s98 : List Int × List Int × List Bool × Int) => [(0, .box (eApiFloor f)), (1, .box [.o 2]), (2, .val (.os 1 eI s98.1)), (3, .box [.o 4]), (4, .val (.os 1 eI s98.2.1)), (5, .box [.o 6]), (6, .val (.os 1 eB s98.2.2.1))]) hm (fun s98 Y99 hm => ?_)) (Wk.a [some 0, some 1, some 2, some 3, some 7, some 5, some 6])
 refine C.seq (U.start ?_)
 refine U.pd 1 T (C.nx (C.seq ?_))
 refine C.ite rfl hm (fun hb102 hm => ?_) (fun hb102 hm => ?_)
 refine C.skip (C.nx (C.seq (C.block (C.seq (U.start ?_)))))
 refine U.pd 2 T (C.nx (C.seq (U.start ?_)))
 refine U.ps 4 T rfl ?_
 refine U.k (T_floor_Back f x90 s98.2.2.2 _ hm) en133 (fun x107 hm => ?_)
 refine U.pd 5 T (C.nx (C.seq (U.start ?_)))
 refine U.pd 1 T (C.nx ?_)
 refine C.jn (fun (x110 : List Int × List Int × List Bool) => [(3, .fn (.func 133) [] []), (4, .p 0 0), (9, .p 1 0), (15, .p 3 0), (16, .fn (.func 166) [] [.p 5 0, .p 1 0, .p 3 0]), (19, .i x90), (81, .i s98.2.2.2)]) (fun (x110 : List Int × List Int × List Bool) => [(0, .box (eApiFloor f)), (1, .box [.o 2]), (2, .val (.os 1 eI x110.1)), (3, .box [.o 4]), (4, .val (.os 1 eI x110.2.1)), (5, .box [.o 6]), (6, .val (.os 1 eB x110.2.2))]) 7 hm (fun x110 hm => ?_) (fun J111 hm hJ111 => ?_)
 refine C.bnx (C.nx (U.start ?_))
 refine U.pd 2 T (C.nx ?_)
 exact St.wk (C.next hm) (Wk.a (idR 7))
 refine C.ite rfl hm (fun hb112 hm => ?_) (fun hb112 hm => ?_)
 refine U.start ?_
 refine U.ps 4 T rfl ?_
 obtain ⟨x115, hx115, hm⟩ := hm
 refine U.r rfl (.none rfl) rfl rfl (by exact Rd.io T rfl rfl rfl rfl rfl rfl rfl hx115) ?_
 refine U.r rfl (.none rfl) rfl rfl (by exact Rd.le T rfl rfl rfl (idx_some hx115).2.2 rfl rfl rfl) ?_
 refine U.ps 1 T rfl ?_
 refine U.c [some 5, some 6, some 1, some 2, some 3, some 4] (T_floor_spread_1__p0_p2_p4 x107.1 (w64 (x115 + 1)) s98.2.2.1 s98.1 s98.2.1 _ hm) en166 (fun x116 hm => ?_)
 refine U.done ?_
 exact St.wa [some 0, some 1, some 14, some 3, some 15, some 5, some 13] (hJ111 _ hm)
 refine C.skip ?_
 exact St.wa (idR 7) (hJ111 _ hm)
 refine C.exit (C.ex (C.ex (C.bex ?_)))
 exact St.wa (idR 7) (hJ97 _ hm)
 refine C.exit (C.ex (C.ex (C.bex ?_)))
 exact St.wa (sqR 1 2) (hJ80 _ hm)
 refine C.block ?_
 refine St.wk (C.loop (fun (s60 : List Int × List Int × List Bool × Int) => [(3, .fn (.func 133) [] []), (4, .p 0 0), (9, .p 1 0), (15, .p 3 0), (16, .fn (.func 166) [] [.p 5 0, .p 1 0, .p 3 0]), (60, .sl 1 eI from_1), (61, .i (from_1.length : Int)), (62, .i s60.2.2.2)]) (fun (s60 : List Int × List Int × List Bool × Int) => [(0, .box (eApiFloor f)), (1, .box [.o 2]), (2, .val (.os 1 eI s60.1)), (3, .box [.o 4]), (4, .val (.os 1 eI s60.2.1)), (5, .box [.o 6]), (6, .val (.os 1 eB s60.2.2.1))]) hm (fun s60 Y61 hm => ?_)) (Wk.mk' [some 0, some 1, some 2, some 5, none, some 3, some 4] rfl rfl (.eqs rfl) ⟨bX, bX, vL, ⟨_, rfl, .box rfl (.cons (.nilO _ _ ⟨rfl, rfl⟩ rfl) .nil)⟩, ⟨_, rfl, .nil _ _⟩, bX, vL, trivial⟩ rfl)
 refine C.seq (U.start ?_)
 refine U.pd 1 T (C.nx (C.seq ?_))
 refine C.ite rfl hm (fun hb64 hm => ?_) (fun hb64 hm => ?_)
 refine C.skip (C.nx (C.seq (C.block (C.seq (U.start ?_)))))
 obtain ⟨x67, hx67, hm⟩ := hm
 refine U.r rfl (.none rfl) rfl rfl (by exact Rd.ix T rfl rfl rfl rfl rfl rfl hx67) ?_
 refine U.pd 2 T (C.nx (C.seq (U.start ?_)))
 refine U.ps 2 T rfl ?_
 refine U.k (T_floor_is f x67 _ hm) en103 (fun x70 hm => ?_)
 refine U.done (C.nx ?_)
 refine C.jn (fun (x71 : List Int × List Int × List Bool) => [(3, .fn (.func 133) [] []), (4, .p 0 0), (9, .p 1 0), (15, .p 3 0), (16, .fn (.func 166) [] [.p 5 0, .p 1 0, .p 3 0]), (60, .sl 1 eI from_1), (61, .i (from_1.length : Int)), (62, .i s60.2.2.2)]) (fun (x71 : List Int × List Int × List Bool) => [(0, .box (eApiFloor f)), (1, .box [.o 2]), (2, .val (.os 1 eI x71.1)), (3, .box [.o 4]), (4, .val (.os 1 eI x71.2.1)), (5, .box [.o 6]), (6, .val (.os 1 eB x71.2.2))]) 7 hm (fun x71 hm => ?_) (fun J72 hm hJ72 => ?_)
 refine C.bnx (C.nx (U.start ?_))
 refine U.pd 2 T (C.nx ?_)
 exact St.wk (C.next hm) (Wk.a (idR 7))
 refine C.ite rfl hm (fun hb73 hm => ?_) (fun hb73 hm => ?_)
 refine U.start ?_
 refine U.ps 2 T rfl ?_
 refine U.c [some 5, some 6, some 1, some 2, some 3, some 4] (T_floor_spread_1__p0_p2_p4 x67 0 s60.2.2.1 s60.1 s60.2.1 _ hm) en166 (fun x76 hm => ?_)
 refine U.done ?_
 exact St.wa [some 0, some 1, some 14, some 3, some 15, some 5, some 13] (hJ72 _ hm)
 refine C.skip ?_
 exact St.wa (idR 7) (hJ72 _ hm)
 refine C.exit (C.ex (C.ex (C.bex ?_)))
 exact St.wa (idR 7) (hJ59 _ hm)
 refine C.block ?_
 refine St.wk (C.loop (fun (s33 : List Bool × Int) => [(1, .sl 1 eI from_1), (3, .fn (.func 133) [] []), (4, .p 0 0), (9, .p 1 0), (10, .p 3 0), (46, .sl 1 eI avoid), (47, .i (avoid.length : Int)), (48, .i s33.2)]) (fun (s33 : List Bool × Int) => [(0, .box (eApiFloor f)), (1, .box [.o 2]), (2, .val (.os 1 eI x13.1)), (3, .box [.o 4]), (4, .val (.os 1 eB s33.1))]) hm (fun s33 Y34 hm => ?_)) (Wk.a (idR 5))
 refine C.seq (U.start ?_)
 refine U.pd 1 T (C.nx (C.seq ?_))
 refine C.ite rfl hm (fun hb37 hm => ?_) (fun hb37 hm => ?_)
 refine C.skip (C.nx (C.seq (C.block (C.seq (U.start ?_)))))
 obtain ⟨x40, hx40, hm⟩ := hm
 refine U.r rfl (.none rfl) rfl rfl (by exact Rd.ix T rfl rfl rfl rfl rfl rfl hx40) ?_
 refine U.pd 2 T (C.nx (C.seq (U.start ?_)))
 refine U.ps 2 T rfl ?_
 refine U.k (T_floor_is f x40 _ hm) en103 (fun x43 hm => ?_)
 refine U.done (C.nx ?_)
 refine C.jn (fun (x44 : List Bool) => [(1, .sl 1 eI from_1), (3, .fn (.func 133) [] []), (4, .p 0 0), (9, .p 1 0), (10, .p 3 0), (46, .sl 1 eI avoid), (47, .i (avoid.length : Int)), (48, .i s33.2)]) (fun (x44 : List Bool) => [(0, .box (eApiFloor f)), (1, .box [.o 2]), (2, .val (.os 1 eI x13.1)), (3, .box [.o 4]), (4, .val (.os 1 eB x44))]) 5 hm (fun x44 hm => ?_) (fun J45 hm hJ45 => ?_)
 refine C.bnx (C.nx (U.start ?_))
 refine U.pd 2 T (C.nx ?_)
 exact St.wk (C.next hm) (Wk.a (idR 5))
 refine C.ite rfl hm (fun hb46 hm => ?_) (fun hb46 hm => ?_)
 refine U.start ?_
 refine U.ps 2 T rfl ?_
 obtain ⟨x49, hx49, hm⟩ := hm
 refine U.r rfl (.none rfl) rfl rfl (by exact Rd.io T rfl rfl rfl rfl rfl rfl rfl hx49) ?_
 refine U.e1 rfl (.none rfl) (by exact Eff1.se T (z' := false) rfl rfl rfl (idx_some hx49).2.2 rfl rfl rfl rfl rfl rfl rfl rfl (fun _ => rfl) rfl) ?_
 refine U.done ?_
 exact St.wa (idR 5) (hJ45 _ hm)
 refine C.skip ?_
 exact St.wa (idR 5) (hJ45 _ hm)
 refine C.exit (C.ex (C.ex (C.bex ?_)))
 exact St.wa (idR 5) (hJ32 _ hm)
 refine C.block ?_
 refine St.wk (C.loop (fun (s15 : List Int × List Bool × Int) => [(1, .sl 1 eI from_1), (2, .sl 1 eI avoid), (3, .fn (.func 133) [] []), (4, .p 0 0), (9, .p 1 0), (10, .p 3 0), (30, .sl 1 eI f.Kind), (31, .i (f.Kind.length : Int)), (32, .i s15.2.2)]) (fun (s15 : List Int × List Bool × Int) => [(0, .box (eApiFloor f)), (1, .box [.o 2]), (2, .val (.os 1 eI s15.1)), (3, .box [.o 4]), (4, .val (.os 1 eB s15.2.1))]) hm (fun s15 Y16 hm => ?_)) (Wk.a [some 0, some 2, some 1, some 4, some 3])
 refine C.seq (U.start ?_)
 refine U.pd 1 T (C.nx (C.seq ?_))
 refine C.ite rfl hm (fun hb19 hm => ?_) (fun hb19 hm => ?_)
 refine C.skip (C.nx (C.seq (C.block (C.seq (U.start ?_)))))
 refine U.ps 1 T rfl ?_
 obtain ⟨x22, hx22, hm⟩ := hm
 refine U.r rfl (.none rfl) rfl rfl (by exact Rd.ix T rfl rfl rfl rfl rfl rfl hx22) ?_
 refine U.pd 3 T (C.nx ?_)
 refine D.beg 9 [1, 3] [2] mix rfl rfl (by kernel_rfl) (by repeat (first | exact NoPanicQ.body | exact NoPanicQ.rnd | refine NoPanicQ.th ?_ | refine NoPanicQ.blk ?_ | refine NoPanicQ.ng ?_)) (fun hQ hS ws M' => ?_)
 refine D.ps 6 [(0, []), (1, []), (2, []), (3, []), (4, []), (5, [])] rfl hQ hS T rfl rfl (by kernel_rfl) ?_
 obtain ⟨x25, hx25, hm⟩ := hm
 refine D.q 6 [] hQ hS rfl (.none rfl) rfl rfl (by exact Rd.io T rfl rfl rfl rfl rfl rfl rfl hx25) rfl (by kernel_rfl) ?_
 refine D.e1 7 rfl (.none rfl) (by exact Eff1.se T (z' := (-1)) rfl rfl rfl (idx_some hx25).2.2 rfl rfl rfl rfl rfl rfl rfl rfl (fun _ => rfl) rfl) (by kernel_rfl) rfl rfl ?_
 obtain ⟨x26, hx26, hm⟩ := hm
 refine D.q 8 [] hQ hS rfl (.none rfl) rfl rfl (by exact Rd.io T rfl rfl rfl rfl rfl rfl rfl hx26) rfl (by kernel_rfl) ?_
 refine D.ze1 rfl (.none rfl) (by exact Eff1.se T (z' := (x22 != 0)) rfl rfl rfl (idx_some hx26).2.2 rfl rfl rfl rfl rfl rfl rfl rfl (fun _ => rfl) rfl) (by kernel_rfl) (by kernel_rfl) ?_
 refine C.bnx (C.nx (U.start ?_))
 refine U.pd 2 T (C.nx ?_)
 exact St.wk (C.next hm) (Wk.a (idR 5))
 refine C.exit (C.ex (C.ex (C.bex ?_)))
 exact St.wa (idR 5) (hJ14 _ hm)
theorem T_floor_Path (f : ApiFloor) (a : Int) (b : Int) (avoid : List Int) (post : (List Int) → Prop) (hm : V_floor_Path f a b avoid post) :
    Tr Tryz.prog 100 [.agg (eApiFloor f), .i a, .i b, .sl 1 eI avoid] [] 0 (fun A H' k => ∃ y, post y ∧ A = (.o 0) ∧ H' = [(0, .val (.os 1 eI y))] ∧ k = 1) := by
 refine Tr.intro (n := 73) Tryz.func100 rfl Tryz.ntmps100 rfl (fun w0 ok F β hβ => ?_)
 unfold V_floor_Path at hm
 refine C.seq (U.start ?_)
 refine U.bx ?_
 refine U.pd 1 T (C.nx (C.seq (C.seq ?_)))
 refine C.jn (fun (x3 : Bool) => [(1, .i a), (2, .i b), (3, .sl 1 eI avoid), (4, .p 0 0), (24, .b x3)]) (fun (x3 : Bool) => [(0, .box (eApiFloor f))]) 1 hm (fun x3 hm => ?_) (fun J4 hm hJ4 => ?_)
 refine C.nx ?_
 refine C.ite rfl hm (fun hb8 hm => ?_) (fun hb8 hm => ?_)
 refine C.seq (U.start ?_)
 refine U.pd 1 T (C.nx (C.ret (C.rt ?_)))
 exact C.g1 [none] T hβ ⟨[], hm, rfl, rfl, rfl⟩
 refine C.skip (C.nx (C.seq (U.start ?_)))
 refine U.ps 2 T rfl ?_
 refine U.e1 rfl (.none rfl) (by exact Eff1.bs T (enc := eI) (xs := ([b] : List Int)) rfl rfl rfl rfl rfl rfl rfl rfl rfl rfl (fun _ _ => rfl) rfl rfl) ?_
 refine U.ps 1 T rfl ?_
 refine U.k (T_floor_spread__floor_Back f ([b] : List Int) avoid _ hm) en132 (fun x13 hm => ?_)
 refine U.pd 1 T (C.nx (C.seq (C.seq (U.start ?_))))
 refine U.ps 2 T rfl ?_
 obtain ⟨x16, hx16, hm⟩ := hm
 refine U.r rfl (.none rfl) rfl rfl (by exact Rd.io T rfl rfl rfl rfl rfl rfl rfl hx16) ?_
 refine U.r rfl (.none rfl) rfl rfl (by exact Rd.le T rfl rfl rfl (idx_some hx16).2.2 rfl rfl rfl) ?_
 refine U.pd 1 T (C.nx ?_)
 refine C.ite rfl hm (fun hb17 hm => ?_) (fun hb17 hm => ?_)
 refine C.seq (U.start ?_)
 refine U.pd 1 T (C.nx (C.ret (C.rt ?_)))
 exact C.g1 [none] T hβ ⟨[], hm, rfl, rfl, rfl⟩
 refine C.skip (C.nx (C.seq (U.start ?_)))
 refine U.ps 1 T rfl ?_
 refine U.e1 rfl (.none rfl) (by exact Eff1.bs T (enc := eI) (xs := ([a] : List Int)) rfl rfl rfl rfl rfl rfl rfl rfl rfl rfl (fun _ _ => rfl) rfl rfl) ?_
 refine U.pd 1 T (C.nx (C.seq (C.seq (U.start ?_))))
 refine U.pd 2 T (C.nx ?_)
 refine C.jn (fun (x24 : List Int) => [(10, .o 0)]) (fun (x24 : List Int) => [(0, .val (.os 1 eI x24))]) 1 hm (fun x24 hm => ?_) (fun J25 hm hJ25 => ?_)
 refine C.nx (C.seq (U.start ?_))
 refine U.pd 2 T (C.nx (C.ret ?_))
 exact C.g1 [some 0] T hβ ⟨x24, hm, rfl, rfl, rfl⟩
 refine C.block ?_
 refine St.wk (C.loop (fun (s26 : List Int × Int) => [(4, .p 0 0), (9, .o 1), (10, .o 2), (11, .i s26.2)]) (fun (s26 : List Int × Int) => [(0, .box (eApiFloor f)), (1, .val (.os 1 eI x13)), (2, .val (.os 1 eI s26.1))]) hm (fun s26 Y27 hm => ?_)) (Wk.a [some 0, some 2, some 3])
 refine C.seq (C.seq (U.start ?_))
 refine U.ps 2 T rfl ?_
 obtain ⟨x30, hx30, hm⟩ := hm
 refine U.r rfl (.none rfl) rfl rfl (by exact Rd.io T rfl rfl rfl rfl rfl rfl rfl hx30) ?_
 refine U.r rfl (.none rfl) rfl rfl (by exact Rd.le T rfl rfl rfl (idx_some hx30).2.2 rfl rfl rfl) ?_
 refine U.pd 1 T (C.nx ?_)
 refine C.ite rfl hm (fun hb31 hm => ?_) (fun hb31 hm => ?_)
 refine C.skip (C.nx ?_)
 refine C.jn (fun (x32 : List Int × Int) => [(4, .p 0 0), (9, .o 1), (10, .o 2), (11, .i x32.2)]) (fun (x32 : List Int × Int) => [(0, .box (eApiFloor f)), (1, .val (.os 1 eI x13)), (2, .val (.os 1 eI x32.1))]) 3 hm (fun x32 hm => ?_) (fun J33 hm hJ33 => ?_)
 refine C.nx ?_
 exact St.wk (C.next hm) (Wk.a (idR 3))
 refine C.block (C.seq (C.seq (U.start ?_)))
 refine U.pd 1 T (C.nx ?_)
 refine C.jn (fun (x36 : Int) => [(4, .p 0 0), (9, .o 1), (10, .o 2), (11, .i x36)]) (fun (x36 : Int) => [(0, .box (eApiFloor f)), (1, .val (.os 1 eI x13)), (2, .val (.os 1 eI s26.1))]) 3 hm (fun x36 hm => ?_) (fun J37 hm hJ37 => ?_)
 refine C.nx (U.start ?_)
 refine U.ps 2 T rfl ?_
 refine U.e1 rfl (.none rfl) (by exact Eff1.bs T (enc := eI) (xs := ([x36] : List Int)) rfl rfl rfl rfl rfl rfl rfl rfl rfl rfl (fun _ _ => rfl) rfl rfl) ?_
 obtain ⟨hx60, hm⟩ := hm
 refine U.e1 rfl (.none rfl) (by exact Eff1.ap T rfl rfl rfl rfl rfl rfl (.inr ⟨_, rfl, rfl⟩) rfl rfl rfl (fun _ => rfl) rfl hx60) ?_
 refine U.pd 1 T (C.bnx ?_)
 exact St.wa [some 0, some 1, some 4] (hJ33 _ hm)
 refine C.block ?_
 refine St.wk (C.loop (fun (s38 : Int) => [(4, .p 0 0), (9, .o 1), (10, .o 2), (11, .i s26.2), (43, .i s38)]) (fun (s38 : Int) => [(0, .box (eApiFloor f)), (1, .val (.os 1 eI x13)), (2, .val (.os 1 eI s26.1))]) hm (fun s38 Y39 hm => ?_)) (Wk.a (idR 3))
 refine C.seq (U.start ?_)
 refine U.pd 1 T (C.nx (C.seq ?_))
 refine C.ite rfl hm (fun hb42 hm => ?_) (fun hb42 hm => ?_)
 refine C.skip (C.nx (C.seq (C.block (C.seq (U.start ?_)))))
 refine U.pd 2 T (C.nx (C.seq (U.start ?_)))
 refine U.ps 3 T rfl ?_
 refine U.k (T_floor_Next f s26.2 s38 _ hm) en24 (fun x47 hm => ?_)
 refine U.pd 5 T (C.nx (C.seq ?_))
 refine C.jn (fun (x48 : Bool) => [(4, .p 0 0), (9, .o 1), (10, .o 2), (11, .i s26.2), (13, .i x47.1), (43, .i s38), (65, .b x48)]) (fun (x48 : Bool) => [(0, .box (eApiFloor f)), (1, .val (.os 1 eI x13)), (2, .val (.os 1 eI s26.1))]) 3 hm (fun x48 hm => ?_) (fun J49 hm hJ49 => ?_)
 refine C.nx ?_
 refine C.ite rfl hm (fun hb53 hm => ?_) (fun hb53 hm => ?_)
 refine C.seq (U.start ?_)
 refine U.pd 2 T (C.nx (C.exit ?_))
 refine C.bex' rfl ?_
 refine C.ex (C.ex (C.bex ?_))
 exact St.wa (idR 3) (hJ37 _ hm)
 refine C.skip (C.bnx (C.nx (U.start ?_)))
 refine U.pd 2 T (C.nx ?_)
 exact St.wk (C.next hm) (Wk.a (idR 3))
 refine D.beg 9999 [1] [] mix rfl rfl (by kernel_rfl) (by repeat (first | exact NoPanicQ.body | exact NoPanicQ.rnd | refine NoPanicQ.th ?_ | refine NoPanicQ.blk ?_ | refine NoPanicQ.ng ?_)) (fun hQ hS ws M' => ?_)
 refine D.ps 2 [(0, []), (1, [])] rfl hQ hS T rfl rfl (by kernel_rfl) ?_
 refine hm.cs (fun hb50 hm => ?_) (fun hb50 hm => ?_)
 refine D.q 2 [] hQ hS rfl (.take 1 true 54 _ hb50 rfl rfl rfl) rfl rfl (by exact Rd.p T rfl) rfl (by kernel_rfl) ?_
 refine D.q 3 [] hQ hS rfl (.take 1 true 54 _ hb50 rfl rfl rfl) rfl rfl (by exact Rd.p T rfl) rfl (by kernel_rfl) ?_
 obtain ⟨x51, hx51, hm⟩ := hm
 refine D.q 4 [] hQ hS rfl (.take 1 true 54 _ hb50 rfl rfl rfl) rfl rfl (by exact Rd.io T rfl rfl rfl rfl rfl rfl rfl hx51) rfl (by kernel_rfl) ?_
 refine D.q 5 [] hQ hS rfl (.take 1 true 54 _ hb50 rfl rfl rfl) rfl rfl (by exact Rd.le T rfl rfl rfl (idx_some hx51).2.2 rfl rfl rfl) rfl (by kernel_rfl) ?_
 refine D.q 6 [] hQ hS rfl (.take 1 true 54 _ hb50 rfl rfl rfl) rfl rfl (by exact Rd.p T rfl) rfl (by kernel_rfl) ?_
 refine D.q 7 [] hQ hS rfl (.take 1 true 54 _ hb50 rfl rfl rfl) rfl rfl (by exact Rd.p T rfl) rfl (by kernel_rfl) ?_
 obtain ⟨x52, hx52, hm⟩ := hm
 refine D.q 8 [] hQ hS rfl (.take 1 true 54 _ hb50 rfl rfl rfl) rfl rfl (by exact Rd.io T rfl rfl rfl rfl rfl rfl rfl hx52) rfl (by kernel_rfl) ?_
 refine D.q 9 [] hQ hS rfl (.take 1 true 54 _ hb50 rfl rfl rfl) rfl rfl (by exact Rd.le T rfl rfl rfl (idx_some hx52).2.2 rfl rfl rfl) rfl (by kernel_rfl) ?_
 refine D.q 10 [] hQ hS rfl (.take 1 true 54 _ hb50 rfl rfl rfl) rfl rfl (by exact Rd.p T rfl) rfl (by kernel_rfl) ?_
 refine D.q 11 [] hQ hS rfl (.take 1 true 54 _ hb50 rfl rfl rfl) rfl rfl (by exact Rd.p T rfl) rfl (by kernel_rfl) ?_
 refine D.q 12 [] hQ hS rfl (.none rfl) rfl rfl (by exact Rd.pk rfl rfl hb50 rfl) rfl (by kernel_rfl) ?_
 refine D.done (by kernel_rfl) ?_
 exact St.wa (idR 3) (hJ49 _ hm)
 refine D.sx 2 [] hQ hS (.skip 1 true 54 _ hb50 rfl rfl rfl) ?_
 refine D.sx 3 [] hQ hS (.skip 1 true 54 _ hb50 rfl rfl rfl) ?_
 refine D.sx 4 [] hQ hS (.skip 1 true 54 _ hb50 rfl rfl rfl) ?_
 refine D.sx 5 [] hQ hS (.skip 1 true 54 _ hb50 rfl rfl rfl) ?_
 refine D.sx 6 [] hQ hS (.skip 1 true 54 _ hb50 rfl rfl rfl) ?_
 refine D.sx 7 [] hQ hS (.skip 1 true 54 _ hb50 rfl rfl rfl) ?_
 refine D.sx 8 [] hQ hS (.skip 1 true 54 _ hb50 rfl rfl rfl) ?_
 refine D.sx 9 [] hQ hS (.skip 1 true 54 _ hb50 rfl rfl rfl) ?_
 refine D.sx 10 [] hQ hS (.skip 1 true 54 _ hb50 rfl rfl rfl) ?_
 refine D.sx 11 [] hQ hS (.skip 1 true 54 _ hb50 rfl rfl rfl) ?_
 refine D.q 12 [] hQ hS rfl (.none rfl) rfl rfl (by exact Rd.pk' rfl rfl hb50 rfl) rfl (by kernel_rfl) ?_
 refine D.done (by kernel_rfl) ?_
 exact St.wa (idR 3) (hJ49 _ hm)
 refine C.exit (C.ex (C.ex (C.bex ?_)))
 exact St.wa (idR 3) (hJ37 _ hm)
 refine C.exit (C.ex (C.ex (C.bex ?_)))
 exact St.wa [some 2] (hJ25 _ hm)
 refine U.start ?_
 refine U.ps 2 T rfl ?_
 refine U.k (T_floor_is f a _ hm) en103 (fun x5 hm => ?_)
 refine U.ps 2 T rfl ?_
 refine hm.cs (fun hb6 hm => ?_) (fun hb6 hm => ?_)
 refine U.pg 2 4 false 19 (ntF hb6) T rfl rfl rfl rfl ?_
 refine U.k (T_floor_is f b _ hm) en103 (fun x7 hm => ?_) (hw := .take 4 false 19 _ (ntF hb6) rfl rfl rfl)
 refine U.pg 1 4 false 19 (ntF hb6) T rfl rfl rfl rfl ?_
 refine U.r rfl (.none rfl) rfl rfl (by exact Rd.pk' rfl rfl (ntF hb6) rfl) ?_
 refine U.done ?_
 exact St.wa [some 0] (hJ4 _ hm)
 refine U.sks 4 4 false 19 (ntT hb6) rfl rfl rfl ?_
 refine U.r rfl (.none rfl) rfl rfl (by exact Rd.pk rfl rfl (ntT hb6) rfl) ?_
 refine U.done ?_
 exact St.wa [some 0] (hJ4 _ hm)
theorem T_bank_situation_way (x_1 : BankSituation) (robot : Int) (post : (List Int) → Prop) (hm : V_bank_situation_way x_1 robot post) :
    Tr Tryz.prog 57 [.rp [.i x_1.s.Floor.W, .i x_1.s.Floor.H, .i x_1.s.Floor.D, .sl 1 eI x_1.s.Floor.Kind, .sl 1 eI x_1.s.Floor.Out, .sl 5 eApiZone x_1.s.Zones, .sl 2 eApiApart x_1.s.Aparts, .sl 2 eApiShelf x_1.s.Shelves, .sl 2 eApiStart x_1.s.Robots, .i x_1.st.Tick, .sl 1 eI x_1.st.Shelves, .sl 6 eApiRobot x_1.st.Robots, .sl 1 eI x_1.st.People, .sl 1 eI x_1.st.Dead, .sl 2 eApiStuck x_1.st.Stuck, .sl 1 eI x_1.homes, .rm kI veB x_1.home], .i robot] [] 0 (fun A H' k => ∃ y, post y ∧ A = (.o 0) ∧ H' = [(0, .val (.os 1 eI y))] ∧ k = 1) := by
 refine Tr.intro (n := 125) Tryz.func57 rfl Tryz.ntmps57 rfl (fun w0 ok F β hβ => ?_)
 unfold V_bank_situation_way at hm
 refine C.seq (U.start ?_)
 refine U.pd 1 T (C.nx (C.seq (C.seq ?_)))
 refine C.jn (fun (x3 : Bool) => [(0, .rp [.i x_1.s.Floor.W, .i x_1.s.Floor.H, .i x_1.s.Floor.D, .sl 1 eI x_1.s.Floor.Kind, .sl 1 eI x_1.s.Floor.Out, .sl 5 eApiZone x_1.s.Zones, .sl 2 eApiApart x_1.s.Aparts, .sl 2 eApiShelf x_1.s.Shelves, .sl 2 eApiStart x_1.s.Robots, .i x_1.st.Tick, .sl 1 eI x_1.st.Shelves, .sl 6 eApiRobot x_1.st.Robots, .sl 1 eI x_1.st.People, .sl 1 eI x_1.st.Dead, .sl 2 eApiStuck x_1.st.Stuck, .sl 1 eI x_1.homes, .rm kI veB x_1.home]), (1, .i robot), (22, .b x3)]) (fun (x3 : Bool) => []) 0 hm (fun x3 hm => ?_) (fun J4 hm hJ4 => ?_)
 refine C.nx ?_
 refine C.ite rfl hm (fun hb7 hm => ?_) (fun hb7 hm => ?_)
 refine C.seq (U.start ?_)
 refine U.pd 1 T (C.nx (C.ret (C.rt ?_)))
 exact C.g1 [none] T hβ ⟨[], hm, rfl, rfl, rfl⟩
 refine C.skip (C.nx (C.seq (U.start ?_)))
 refine U.ps 6 T rfl ?_
 obtain ⟨x12, hx12, hm⟩ := hm
 refine U.r rfl (.none rfl) rfl rfl (by exact Rd.ix T rfl rfl rfl rfl rfl rfl hx12) ?_
 refine U.ps 1 T rfl ?_
 refine U.e1 rfl (.none rfl) (by exact Eff1.al T rfl rfl rfl rfl) ?_
 refine U.e1 rfl (.none rfl) (by exact Eff1.st T rfl rfl rfl rfl rfl rfl rfl rfl rfl rfl) ?_
 refine U.done (C.nx (C.seq ?_))
 refine D.beg 9999 [] [] mix rfl rfl (by kernel_rfl) (by repeat (first | exact NoPanicQ.body | exact NoPanicQ.rnd | refine NoPanicQ.th ?_ | refine NoPanicQ.blk ?_ | refine NoPanicQ.ng ?_)) (fun hQ hS ws M' => ?_)
 refine D.ps 10 [(0, []), (1, []), (2, []), (3, []), (4, []), (5, []), (6, []), (7, []), (8, []), (9, [])] rfl hQ hS T rfl rfl (by kernel_rfl) ?_
 refine D.e1 10 rfl (.none rfl) (by exact Eff1.bs T (enc := eLeI) (xs := ([x_1.st.Dead, x_1.st.People] : List (List Int))) rfl rfl rfl rfl rfl rfl rfl rfl rfl rfl (fun _ _ => rfl) rfl rfl) (by kernel_rfl) rfl rfl ?_
 refine D.k 11 (T_slices_Concat_int_int ([x_1.st.Dead, x_1.st.People] : List (List Int)) _ hm) en97 (fun x15 hm => ?_)
 refine D.ps 1 [(12, [])] rfl hQ hS T rfl rfl (by kernel_rfl) ?_
 refine D.done (by kernel_rfl) ?_
 refine C.nx (C.seq (C.seq (U.start ?_)))
 refine U.pd 7 T (C.nx ?_)
 refine C.jn (fun (x18 : List Int) => [(0, .rp [.i x_1.s.Floor.W, .i x_1.s.Floor.H, .i x_1.s.Floor.D, .sl 1 eI x_1.s.Floor.Kind, .sl 1 eI x_1.s.Floor.Out, .sl 5 eApiZone x_1.s.Zones, .sl 2 eApiApart x_1.s.Aparts, .sl 2 eApiShelf x_1.s.Shelves, .sl 2 eApiStart x_1.s.Robots, .i x_1.st.Tick, .sl 1 eI x_1.st.Shelves, .sl 6 eApiRobot x_1.st.Robots, .sl 1 eI x_1.st.People, .sl 1 eI x_1.st.Dead, .sl 2 eApiStuck x_1.st.Stuck, .sl 1 eI x_1.homes, .rm kI veB x_1.home]), (1, .i robot), (5, .p 0 0), (6, .o 1)]) (fun (x18 : List Int) => [(0, .box (eApiRobot x12)), (1, .val (.os 1 eI x18))]) 2 hm (fun x18 hm => ?_) (fun J19 hm hJ19 => ?_)
 refine C.nx (C.seq (C.seq (U.start ?_)))
 refine U.pd 3 T (C.nx ?_)
 refine C.jn (fun (x49 : List Int) => [(0, .rp [.i x_1.s.Floor.W, .i x_1.s.Floor.H, .i x_1.s.Floor.D, .sl 1 eI x_1.s.Floor.Kind, .sl 1 eI x_1.s.Floor.Out, .sl 5 eApiZone x_1.s.Zones, .sl 2 eApiApart x_1.s.Aparts, .sl 2 eApiShelf x_1.s.Shelves, .sl 2 eApiStart x_1.s.Robots, .i x_1.st.Tick, .sl 1 eI x_1.st.Shelves, .sl 6 eApiRobot x_1.st.Robots, .sl 1 eI x_1.st.People, .sl 1 eI x_1.st.Dead, .sl 2 eApiStuck x_1.st.Stuck, .sl 1 eI x_1.homes, .rm kI veB x_1.home]), (1, .i robot), (5, .p 0 0), (6, .o 1)]) (fun (x49 : List Int) => [(0, .box (eApiRobot x12)), (1, .val (.os 1 eI x49))]) 2 hm (fun x49 hm => ?_) (fun J50 hm hJ50 => ?_)
 refine C.nx (C.seq (U.start ?_))
 refine U.ps 2 T rfl ?_
 refine U.e rfl (.none rfl) (by exact Eff.c [some 1] (v := true) (T_slices_DeleteFunc_int_int__o0_bank_situation_way_1 x12 x49 _ hm) en89 rfl rfl rfl (.cons (.eq rfl) (.cons (.fn (.eq rfl) (.cons (.fzp rfl rfl rfl rfl (.eq rfl) rfl) .nil)) .nil)) ⟨vL, trivial⟩ rfl rfl rfl rfl rfl rfl (fun _ _ => ⟨(.o _), ⟨.val (.os _ _ _ fun _ => (.cons (.v _) .nil)), trivial⟩⟩) (.inl rfl) (fun _ => rfl) (fun _ => rfl) rfl) (fun x77' hm => ?_)
 obtain ⟨x77⟩ := x77'
 refine U.pd 1 T (C.nx (C.seq ?_))
 refine D.beg 9999 [0] [] mix rfl rfl (by kernel_rfl) (by repeat (first | exact NoPanicQ.body | exact NoPanicQ.rnd | refine NoPanicQ.th ?_ | refine NoPanicQ.blk ?_ | refine NoPanicQ.ng ?_)) (fun hQ hS ws M' => ?_)
 refine D.ps 12 [(0, []), (1, []), (2, []), (3, []), (4, []), (5, []), (6, []), (7, []), (8, []), (9, []), (10, []), (11, [])] rfl hQ hS T rfl rfl (by kernel_rfl) ?_
 obtain ⟨x80, hx80, hm⟩ := hm
 refine D.q 12 [] hQ hS rfl (.none rfl) rfl rfl (by exact Rd.ix T rfl rfl rfl rfl rfl rfl hx80) rfl (by kernel_rfl) ?_
 refine D.ps 2 [(13, []), (14, [])] rfl hQ hS T rfl rfl (by kernel_rfl) ?_
 refine D.k 15 (T_floor_Path x_1.s.Floor x12.Cell x80 x77 _ hm) en100 (fun x81 hm => ?_)
 refine D.ps 1 [(16, [])] rfl hQ hS T rfl rfl (by kernel_rfl) ?_
 refine D.done (by kernel_rfl) ?_
 refine C.nx (C.ret ?_)
 exact C.g1 [some 4] T hβ ⟨x81, hm, rfl, rfl, rfl⟩
 refine C.ite rfl hm (fun hb51 hm => ?_) (fun hb51 hm => ?_)
 refine C.seq (U.start ?_)
 refine U.pd 7 T (C.nx ?_)
 refine C.jn (fun (x54 : List Int) => [(0, .rp [.i x_1.s.Floor.W, .i x_1.s.Floor.H, .i x_1.s.Floor.D, .sl 1 eI x_1.s.Floor.Kind, .sl 1 eI x_1.s.Floor.Out, .sl 5 eApiZone x_1.s.Zones, .sl 2 eApiApart x_1.s.Aparts, .sl 2 eApiShelf x_1.s.Shelves, .sl 2 eApiStart x_1.s.Robots, .i x_1.st.Tick, .sl 1 eI x_1.st.Shelves, .sl 6 eApiRobot x_1.st.Robots, .sl 1 eI x_1.st.People, .sl 1 eI x_1.st.Dead, .sl 2 eApiStuck x_1.st.Stuck, .sl 1 eI x_1.homes, .rm kI veB x_1.home]), (1, .i robot), (5, .p 0 0), (6, .o 1)]) (fun (x54 : List Int) => [(0, .box (eApiRobot x12)), (1, .val (.os 1 eI x54))]) 2 hm (fun x54 hm => ?_) (fun J55 hm hJ55 => ?_)
 exact St.wa (idR 2) (hJ50 _ hm)
 refine C.block ?_
 refine St.wk (C.loop (fun (s56 : List Int × Int) => [(0, .rp [.i x_1.s.Floor.W, .i x_1.s.Floor.H, .i x_1.s.Floor.D, .sl 1 eI x_1.s.Floor.Kind, .sl 1 eI x_1.s.Floor.Out, .sl 5 eApiZone x_1.s.Zones, .sl 2 eApiApart x_1.s.Aparts, .sl 2 eApiShelf x_1.s.Shelves, .sl 2 eApiStart x_1.s.Robots, .i x_1.st.Tick, .sl 1 eI x_1.st.Shelves, .sl 6 eApiRobot x_1.st.Robots, .sl 1 eI x_1.st.People, .sl 1 eI x_1.st.Dead, .sl 2 eApiStuck x_1.st.Stuck, .sl 1 eI x_1.homes, .rm kI veB x_1.home]), (1, .i robot), (5, .p 0 0), (6, .o 1), (87, .sl 1 eI x_1.st.Shelves), (88, .i (x_1.st.Shelves.length : Int)), (89, .i s56.2)]) (fun (s56 : List Int × Int) => [(0, .box (eApiRobot x12)), (1, .val (.os 1 eI s56.1))]) hm (fun s56 Y57 hm => ?_)) (Wk.a (idR 2))
 refine C.seq (U.start ?_)
 refine U.pd 1 T (C.nx (C.seq ?_))
 refine C.ite rfl hm (fun hb60 hm => ?_) (fun hb60 hm => ?_)
 refine C.skip (C.nx (C.seq (C.block (C.seq (U.start ?_)))))
 refine U.ps 1 T rfl ?_
 obtain ⟨x63, hx63, hm⟩ := hm
 refine U.r rfl (.none rfl) rfl rfl (by exact Rd.ix T rfl rfl rfl rfl rfl rfl hx63) ?_
 refine U.pd 3 T (C.nx (C.seq (U.start ?_)))
 refine U.ps 5 T rfl ?_
 refine U.k (T_rules_Carried x_1.st s56.2 _ hm) en98 (fun x66 hm => ?_)
 refine U.pd 1 T (C.nx ?_)
 refine C.jn (fun (x67 : List Int) => [(0, .rp [.i x_1.s.Floor.W, .i x_1.s.Floor.H, .i x_1.s.Floor.D, .sl 1 eI x_1.s.Floor.Kind, .sl 1 eI x_1.s.Floor.Out, .sl 5 eApiZone x_1.s.Zones, .sl 2 eApiApart x_1.s.Aparts, .sl 2 eApiShelf x_1.s.Shelves, .sl 2 eApiStart x_1.s.Robots, .i x_1.st.Tick, .sl 1 eI x_1.st.Shelves, .sl 6 eApiRobot x_1.st.Robots, .sl 1 eI x_1.st.People, .sl 1 eI x_1.st.Dead, .sl 2 eApiStuck x_1.st.Stuck, .sl 1 eI x_1.homes, .rm kI veB x_1.home]), (1, .i robot), (5, .p 0 0), (6, .o 1), (87, .sl 1 eI x_1.st.Shelves), (88, .i (x_1.st.Shelves.length : Int)), (89, .i s56.2)]) (fun (x67 : List Int) => [(0, .box (eApiRobot x12)), (1, .val (.os 1 eI x67))]) 2 hm (fun x67 hm => ?_) (fun J68 hm hJ68 => ?_)
 refine C.bnx (C.nx (U.start ?_))
 refine U.pd 2 T (C.nx ?_)
 exact St.wk (C.next hm) (Wk.a (idR 2))
 refine C.ite rfl hm (fun hb69 hm => ?_) (fun hb69 hm => ?_)
 refine U.start ?_
 refine U.ps 2 T rfl ?_
 refine U.e1 rfl (.none rfl) (by exact Eff1.bs T (enc := eI) (xs := ([x63] : List Int)) rfl rfl rfl rfl rfl rfl rfl rfl rfl rfl (fun _ _ => rfl) rfl rfl) ?_
 obtain ⟨hx72, hm⟩ := hm
 refine U.e1 rfl (.none rfl) (by exact Eff1.ap T rfl rfl rfl rfl rfl rfl (.inr ⟨_, rfl, rfl⟩) rfl rfl rfl (fun _ => rfl) rfl hx72) ?_
 refine U.pd 1 T ?_
 exact St.wa [some 0, some 3] (hJ68 _ hm)
 refine C.skip ?_
 exact St.wa (idR 2) (hJ68 _ hm)
 refine C.exit (C.ex (C.ex (C.bex ?_)))
 exact St.wa (idR 2) (hJ55 _ hm)
 refine C.skip ?_
 exact St.wa (idR 2) (hJ50 _ hm)
 refine C.block ?_
 refine St.wk (C.loop (fun (s20 : List Int × Int) => [(0, .rp [.i x_1.s.Floor.W, .i x_1.s.Floor.H, .i x_1.s.Floor.D, .sl 1 eI x_1.s.Floor.Kind, .sl 1 eI x_1.s.Floor.Out, .sl 5 eApiZone x_1.s.Zones, .sl 2 eApiApart x_1.s.Aparts, .sl 2 eApiShelf x_1.s.Shelves, .sl 2 eApiStart x_1.s.Robots, .i x_1.st.Tick, .sl 1 eI x_1.st.Shelves, .sl 6 eApiRobot x_1.st.Robots, .sl 1 eI x_1.st.People, .sl 1 eI x_1.st.Dead, .sl 2 eApiStuck x_1.st.Stuck, .sl 1 eI x_1.homes, .rm kI veB x_1.home]), (1, .i robot), (5, .p 0 0), (6, .o 1), (47, .sl 6 eApiRobot x_1.st.Robots), (48, .i (x_1.st.Robots.length : Int)), (49, .i s20.2)]) (fun (s20 : List Int × Int) => [(0, .box (eApiRobot x12)), (1, .val (.os 1 eI s20.1))]) hm (fun s20 Y21 hm => ?_)) (Wk.a [some 0, some 2])
 refine C.seq (U.start ?_)
 refine U.pd 1 T (C.nx (C.seq ?_))
 refine C.ite rfl hm (fun hb24 hm => ?_) (fun hb24 hm => ?_)
 refine C.skip (C.nx (C.seq ?_))
 refine C.jn (fun (x25 : List Int) => [(0, .rp [.i x_1.s.Floor.W, .i x_1.s.Floor.H, .i x_1.s.Floor.D, .sl 1 eI x_1.s.Floor.Kind, .sl 1 eI x_1.s.Floor.Out, .sl 5 eApiZone x_1.s.Zones, .sl 2 eApiApart x_1.s.Aparts, .sl 2 eApiShelf x_1.s.Shelves, .sl 2 eApiStart x_1.s.Robots, .i x_1.st.Tick, .sl 1 eI x_1.st.Shelves, .sl 6 eApiRobot x_1.st.Robots, .sl 1 eI x_1.st.People, .sl 1 eI x_1.st.Dead, .sl 2 eApiStuck x_1.st.Stuck, .sl 1 eI x_1.homes, .rm kI veB x_1.home]), (1, .i robot), (5, .p 0 0), (6, .o 1), (47, .sl 6 eApiRobot x_1.st.Robots), (48, .i (x_1.st.Robots.length : Int)), (49, .i s20.2)]) (fun (x25 : List Int) => [(0, .box (eApiRobot x12)), (1, .val (.os 1 eI x25))]) 2 hm (fun x25 hm => ?_) (fun J26 hm hJ26 => ?_)
 refine C.nx (U.start ?_)
 refine U.pd 2 T (C.nx ?_)
 exact St.wk (C.next hm) (Wk.a (idR 2))
 refine C.block (C.seq (U.start ?_))
 refine U.ps 1 T rfl ?_
 obtain ⟨x29, hx29, hm⟩ := hm
 refine U.r rfl (.none rfl) rfl rfl (by exact Rd.ix T rfl rfl rfl rfl rfl rfl hx29) ?_
 refine U.ps 1 T rfl ?_
 refine U.e1 rfl (.none rfl) (by exact Eff1.al T rfl rfl rfl rfl) ?_
 refine U.ps 1 T rfl ?_
 refine U.e1 rfl (.none rfl) (by exact Eff1.st T rfl rfl rfl rfl rfl rfl rfl rfl rfl rfl) ?_
 refine U.done (C.nx (C.seq (C.seq (U.start ?_))))
 refine U.pd 3 T (C.nx ?_)
 refine C.ite rfl hm (fun hb32 hm => ?_) (fun hb32 hm => ?_)
 refine C.exit (C.ex (C.bex ?_))
 exact St.wa (idR 2) (hJ26 _ hm)
 refine C.skip (C.nx (C.seq (U.start ?_)))
 refine U.ps 6 T rfl ?_
 obtain ⟨x35, hx35, hm⟩ := hm
 refine U.r rfl (.none rfl) rfl rfl (by exact Rd.ix T rfl rfl rfl rfl rfl rfl hx35) ?_
 refine U.ps 1 T rfl ?_
 refine U.e1 rfl (.none rfl) (by exact Eff1.bs T (enc := eI) (xs := ([x35] : List Int)) rfl rfl rfl rfl rfl rfl rfl rfl rfl rfl (fun _ _ => rfl) rfl rfl) ?_
 obtain ⟨hx36, hm⟩ := hm
 refine U.e1 rfl (.none rfl) (by exact Eff1.ap T rfl rfl rfl rfl rfl rfl (.inr ⟨_, rfl, rfl⟩) rfl rfl rfl (fun _ => rfl) rfl hx36) ?_
 refine U.pd 1 T (C.nx (C.seq (U.start ?_)))
 refine U.ps 5 T rfl ?_
 refine U.r rfl (.none rfl) rfl rfl (by exact Rd.lk T (ke := kI) (ve := veB) (xs := x_1.home) (z0 := false) (x := s20.2) rfl rfl kt3 zt4 (fun _ => rfl) rfl .rm rfl rfl rfl) ?_
 refine U.pd 1 T (C.nx ?_)
 refine C.jn (fun (x39 : List Int) => [(0, .rp [.i x_1.s.Floor.W, .i x_1.s.Floor.H, .i x_1.s.Floor.D, .sl 1 eI x_1.s.Floor.Kind, .sl 1 eI x_1.s.Floor.Out, .sl 5 eApiZone x_1.s.Zones, .sl 2 eApiApart x_1.s.Aparts, .sl 2 eApiShelf x_1.s.Shelves, .sl 2 eApiStart x_1.s.Robots, .i x_1.st.Tick, .sl 1 eI x_1.st.Shelves, .sl 6 eApiRobot x_1.st.Robots, .sl 1 eI x_1.st.People, .sl 1 eI x_1.st.Dead, .sl 2 eApiStuck x_1.st.Stuck, .sl 1 eI x_1.homes, .rm kI veB x_1.home]), (1, .i robot), (5, .p 0 0), (6, .o 1), (47, .sl 6 eApiRobot x_1.st.Robots), (48, .i (x_1.st.Robots.length : Int)), (49, .i s20.2)]) (fun (x39 : List Int) => [(0, .box (eApiRobot x12)), (1, .val (.os 1 eI x39))]) 2 hm (fun x39 hm => ?_) (fun J40 hm hJ40 => ?_)
 refine C.bnx ?_
 exact St.wa (idR 2) (hJ26 _ hm)
 refine C.ite rfl hm (fun hb41 hm => ?_) (fun hb41 hm => ?_)
 refine U.start ?_
 refine U.ps 3 T rfl ?_
 refine U.e1 rfl (.none rfl) (by exact Eff1.bs T (enc := eI) (xs := ([x29.Cell] : List Int)) rfl rfl rfl rfl rfl rfl rfl rfl rfl rfl (fun _ _ => rfl) rfl rfl) ?_
 obtain ⟨hx44, hm⟩ := hm
 refine U.e1 rfl (.none rfl) (by exact Eff1.ap T rfl rfl rfl rfl rfl rfl (.inr ⟨_, rfl, rfl⟩) rfl rfl rfl (fun _ => rfl) rfl hx44) ?_
 refine U.pd 1 T ?_
 exact St.wa [some 0, some 6] (hJ40 _ hm)
 refine C.skip ?_
 exact St.wa [some 0, some 4] (hJ40 _ hm)
 refine C.exit (C.ex (C.ex (C.bex ?_)))
 exact St.wa (idR 2) (hJ19 _ hm)
 refine U.start ?_
 refine U.ps 2 T rfl ?_
 refine U.k (T_bank_situation_alive x_1 robot _ hm) en60 (fun x5 hm => ?_)
 refine U.ps 2 T rfl ?_
 refine hm.cs (fun hb6 hm => ?_) (fun hb6 hm => ?_)
 refine U.pg 5 4 false 15 (ntF hb6) T rfl rfl rfl rfl ?_
 refine U.r rfl (.take 4 false 15 _ (ntF hb6) rfl rfl rfl) rfl rfl (by exact Rd.lk T (ke := kI) (ve := veB) (xs := x_1.home) (z0 := false) (x := robot) rfl rfl kt3 zt4 (fun _ => rfl) rfl .rm rfl rfl rfl) ?_
 refine U.r rfl (.none rfl) rfl rfl (by exact Rd.pk' rfl rfl (ntF hb6) rfl) ?_
 refine U.done ?_
 exact St.wn (hJ4 _ hm)
 refine U.sks 6 4 false 15 (ntT hb6) rfl rfl rfl ?_
 refine U.r rfl (.none rfl) rfl rfl (by exact Rd.pk rfl rfl (ntT hb6) rfl) ?_
 refine U.done ?_
 exact St.wn (hJ4 _ hm)
theorem T_bank_situation_all (x_1 : BankSituation) (post : Bool → Prop) (hm : V_bank_situation_all x_1 post) :
    Tr Tryz.prog 58 [.rp [.i x_1.s.Floor.W, .i x_1.s.Floor.H, .i x_1.s.Floor.D, .sl 1 eI x_1.s.Floor.Kind, .sl 1 eI x_1.s.Floor.Out, .sl 5 eApiZone x_1.s.Zones, .sl 2 eApiApart x_1.s.Aparts, .sl 2 eApiShelf x_1.s.Shelves, .sl 2 eApiStart x_1.s.Robots, .i x_1.st.Tick, .sl 1 eI x_1.st.Shelves, .sl 6 eApiRobot x_1.st.Robots, .sl 1 eI x_1.st.People, .sl 1 eI x_1.st.Dead, .sl 2 eApiStuck x_1.st.Stuck, .sl 1 eI x_1.homes, .rm kI veB x_1.home]] [] 0 (fun A H' k => ∃ y, post y ∧ A = (.b y) ∧ H' = [] ∧ k = 0) := by
 refine Tr.intro (n := 26) Tryz.func58 rfl Tryz.ntmps58 rfl (fun w0 ok F β hβ => ?_)
 unfold V_bank_situation_all at hm
 refine C.seq (U.start ?_)
 refine U.pd 1 T (C.nx (C.seq (C.seq (U.start ?_))))
 refine U.pd 7 T (C.nx ?_)
 refine C.jn (fun (x5 : Unit) => []) (fun (x5 : Unit) => []) 0 hm (fun x5 hm => ?_) (fun J6 hm hJ6 => ?_)
 refine C.nx (C.seq (U.start ?_))
 refine U.pd 1 T (C.nx (C.ret ?_))
 exact C.f1 T hβ ⟨true, hm, rfl, rfl, rfl⟩
 refine C.block ?_
 refine St.wk (C.loop (fun (s7 : Int) => [(0, .rp [.i x_1.s.Floor.W, .i x_1.s.Floor.H, .i x_1.s.Floor.D, .sl 1 eI x_1.s.Floor.Kind, .sl 1 eI x_1.s.Floor.Out, .sl 5 eApiZone x_1.s.Zones, .sl 2 eApiApart x_1.s.Aparts, .sl 2 eApiShelf x_1.s.Shelves, .sl 2 eApiStart x_1.s.Robots, .i x_1.st.Tick, .sl 1 eI x_1.st.Shelves, .sl 6 eApiRobot x_1.st.Robots, .sl 1 eI x_1.st.People, .sl 1 eI x_1.st.Dead, .sl 2 eApiStuck x_1.st.Stuck, .sl 1 eI x_1.homes, .rm kI veB x_1.home]), (9, .i (x_1.st.Robots.length : Int)), (10, .i s7)]) (fun (s7 : Int) => []) hm (fun s7 Y8 hm => ?_)) (Wk.e)
 refine C.seq (U.start ?_)
 refine U.pd 1 T (C.nx (C.seq ?_))
 refine C.ite rfl hm (fun hb11 hm => ?_) (fun hb11 hm => ?_)
 refine C.skip (C.nx (C.seq (C.block (C.seq (U.start ?_)))))
 refine U.pd 2 T (C.nx (C.seq ?_))
 refine C.jn (fun (x14 : Bool) => [(0, .rp [.i x_1.s.Floor.W, .i x_1.s.Floor.H, .i x_1.s.Floor.D, .sl 1 eI x_1.s.Floor.Kind, .sl 1 eI x_1.s.Floor.Out, .sl 5 eApiZone x_1.s.Zones, .sl 2 eApiApart x_1.s.Aparts, .sl 2 eApiShelf x_1.s.Shelves, .sl 2 eApiStart x_1.s.Robots, .i x_1.st.Tick, .sl 1 eI x_1.st.Shelves, .sl 6 eApiRobot x_1.st.Robots, .sl 1 eI x_1.st.People, .sl 1 eI x_1.st.Dead, .sl 2 eApiStuck x_1.st.Stuck, .sl 1 eI x_1.homes, .rm kI veB x_1.home]), (9, .i (x_1.st.Robots.length : Int)), (10, .i s7), (24, .b x14)]) (fun (x14 : Bool) => []) 0 hm (fun x14 hm => ?_) (fun J15 hm hJ15 => ?_)
 refine C.nx ?_
 refine C.ite rfl hm (fun hb18 hm => ?_) (fun hb18 hm => ?_)
 refine C.seq (U.start ?_)
 refine U.pd 1 T (C.nx (C.ret (C.brt (C.rt (C.rt (C.brt (C.rt ?_)))))))
 exact C.f1 T hβ ⟨false, hm, rfl, rfl, rfl⟩
 refine C.skip (C.bnx (C.nx (U.start ?_)))
 refine U.pd 2 T (C.nx ?_)
 exact St.wk (C.next hm) (Wk.e)
 refine U.start ?_
 refine U.ps 2 T rfl ?_
 refine U.k (T_bank_situation_alive x_1 s7 _ hm) en60 (fun x16 hm => ?_)
 refine U.ps 1 T rfl ?_
 refine hm.cs (fun hb17 hm => ?_) (fun hb17 hm => ?_)
 refine U.pg 5 3 true 16 hb17 T rfl rfl rfl rfl ?_
 refine U.r rfl (.take 3 true 16 _ hb17 rfl rfl rfl) rfl rfl (by exact Rd.lk T (ke := kI) (ve := veB) (xs := x_1.home) (z0 := false) (x := s7) rfl rfl kt3 zt4 (fun _ => rfl) rfl .rm rfl rfl rfl) ?_
 refine U.pg 1 3 true 16 hb17 T rfl rfl rfl rfl ?_
 refine U.pk hb17 ?_
 refine U.done ?_
 exact St.wn (hJ15 _ hm)
 refine U.sks 7 3 true 16 hb17 rfl rfl rfl ?_
 refine U.pk' hb17 ?_
 refine U.done ?_
 exact St.wn (hJ15 _ hm)
 refine C.exit (C.ex (C.ex (C.bex ?_)))
 exact St.wk (hJ6 _ hm) (Wk.mk' [] rfl rfl trivial trivial rfl)
theorem T_bank_Safe (s_1 : ApiSite) (st : ApiState) (homes : List Int) (post : (List Int × Bool) → Prop) (hm : V_bank_Safe s_1 st homes post) :
    Tr Tryz.prog 15 [.agg (eApiSite s_1), .agg (eApiState st), .sl 1 eI homes] [] 0 (fun A H' k => ∃ y, post y ∧ A = (.tup [.o 0, .b y.2]) ∧ H' = [(0, .val (.os 1 eI y.1))] ∧ k = 1) := by
 refine Tr.intro (n := 39) Tryz.func15 rfl Tryz.ntmps15 rfl (fun w0 ok F β hβ => ?_)
 unfold V_bank_Safe at hm
 refine C.seq (U.start ?_)
 refine U.bx ?_
 refine U.bx ?_
 refine U.pd 2 T (C.nx (C.seq (U.start ?_)))
 refine U.ps 3 T rfl ?_
 refine U.e rfl (.none rfl) (by exact Eff.c [] (v := false) (T_bank_newSituation s_1 st homes [] _ hm) en56 rfl rfl rfl (.cons (.eq rfl) (.cons (.eq rfl) (.cons (.eq rfl) (.cons (.nil _ _ _ _ ⟨rfl, rfl⟩) .nil)))) trivial rfl rfl rfl rfl rfl rfl (fun h => by cases h) (.inr ⟨rfl, rfl⟩) (fun _ => rfl) (fun _ => rfl) rfl) (fun x5' hm => ?_)
 obtain ⟨x5⟩ := x5'
 refine U.pd 1 T (C.nx (C.seq (U.start ?_)))
 refine U.pd 1 T (C.nx (C.seq (C.seq (U.start ?_))))
 refine U.pd 1 T (C.nx ?_)
 refine C.jn (fun (x10 : List (Int × Bool) × List Int) => [(8, .p 0 0), (9, .o 2)]) (fun (x10 : List (Int × Bool) × List Int) => [(0, .box [.i x5.s.Floor.W, .i x5.s.Floor.H, .i x5.s.Floor.D, .sl 1 eI x5.s.Floor.Kind, .sl 1 eI x5.s.Floor.Out, .sl 5 eApiZone x5.s.Zones, .sl 2 eApiApart x5.s.Aparts, .sl 2 eApiShelf x5.s.Shelves, .sl 2 eApiStart x5.s.Robots, .i x5.st.Tick, .sl 1 eI x5.st.Shelves, .sl 6 eApiRobot x5.st.Robots, .sl 1 eI x5.st.People, .sl 1 eI x5.st.Dead, .sl 2 eApiStuck x5.st.Stuck, .sl 1 eI x5.homes, .o 1]), (1, .val (.om kI veB x10.1)), (2, .val (.os 1 eI x10.2))]) 3 hm (fun x10 hm => ?_) (fun J11 hm hJ11 => ?_)
 refine C.nx (C.seq (U.start ?_))
 refine U.ps 2 T rfl ?_
 refine U.k (T_bank_situation_all ({ s := x5.s, st := x5.st, homes := x5.homes, home := x10.1 : BankSituation }) _ hm) en58 (fun x34 hm => ?_)
 refine U.pd 2 T (C.nx (C.ret ?_))
 exact C.fg [some 2] T hβ ⟨(x10.2, x34), hm, rfl, rfl, rfl⟩
 refine C.block ?_
 refine St.wk (C.loop (fun (s12 : List (Int × Bool) × List Int × Int) => [(4, .p 0 0), (8, .p 1 0), (9, .o 3), (10, .i s12.2.2)]) (fun (s12 : List (Int × Bool) × List Int × Int) => [(0, .box (eApiState st)), (1, .box [.i x5.s.Floor.W, .i x5.s.Floor.H, .i x5.s.Floor.D, .sl 1 eI x5.s.Floor.Kind, .sl 1 eI x5.s.Floor.Out, .sl 5 eApiZone x5.s.Zones, .sl 2 eApiApart x5.s.Aparts, .sl 2 eApiShelf x5.s.Shelves, .sl 2 eApiStart x5.s.Robots, .i x5.st.Tick, .sl 1 eI x5.st.Shelves, .sl 6 eApiRobot x5.st.Robots, .sl 1 eI x5.st.People, .sl 1 eI x5.st.Dead, .sl 2 eApiStuck x5.st.Stuck, .sl 1 eI x5.homes, .o 2]), (2, .val (.om kI veB s12.1)), (3, .val (.os 1 eI s12.2.1))]) hm (fun s12 Y13 hm => ?_)) (Wk.mk' [some 1, some 3, some 2, none] rfl rfl ⟨⟨_, rfl, (.eq rfl)⟩, ⟨_, rfl, (.eq rfl)⟩, ⟨_, rfl, (.nilO _ _ ⟨rfl, rfl⟩ rfl)⟩, ChkG.eqs rfl⟩ ⟨bX, bX, vL, ⟨_, rfl, .nil _ _⟩, trivial⟩ rfl)
 refine C.seq (C.seq (U.start ?_))
 refine U.pd 5 T (C.nx ?_)
 refine C.ite rfl hm (fun hb16 hm => ?_) (fun hb16 hm => ?_)
 refine C.skip (C.nx (C.seq (C.block (C.seq (U.start ?_)))))
 refine U.ps 2 T rfl ?_
 refine U.k (T_bank_situation_way ({ s := x5.s, st := x5.st, homes := x5.homes, home := s12.1 : BankSituation }) s12.2.2 _ hm) en57 (fun x19 hm => ?_)
 refine U.pd 2 T (C.nx ?_)
 refine C.jn (fun (x20 : List (Int × Bool) × List Int × Int) => [(4, .p 0 0), (8, .p 1 0), (9, .o 3), (10, .i x20.2.2)]) (fun (x20 : List (Int × Bool) × List Int × Int) => [(0, .box (eApiState st)), (1, .box [.i x5.s.Floor.W, .i x5.s.Floor.H, .i x5.s.Floor.D, .sl 1 eI x5.s.Floor.Kind, .sl 1 eI x5.s.Floor.Out, .sl 5 eApiZone x5.s.Zones, .sl 2 eApiApart x5.s.Aparts, .sl 2 eApiShelf x5.s.Shelves, .sl 2 eApiStart x5.s.Robots, .i x5.st.Tick, .sl 1 eI x5.st.Shelves, .sl 6 eApiRobot x5.st.Robots, .sl 1 eI x5.st.People, .sl 1 eI x5.st.Dead, .sl 2 eApiStuck x5.st.Stuck, .sl 1 eI x5.homes, .o 2]), (2, .val (.om kI veB x20.1)), (3, .val (.os 1 eI x20.2.1))]) 4 hm (fun x20 hm => ?_) (fun J21 hm hJ21 => ?_)
 refine C.bnx (C.nx (U.start ?_))
 refine U.pd 3 T (C.nx ?_)
 exact St.wk (C.next hm) (Wk.a (idR 4))
 refine C.ite rfl hm (fun hb22 hm => ?_) (fun hb22 hm => ?_)
 refine C.seq (U.start ?_)
 refine U.ps 5 T rfl ?_
 refine U.e1 rfl (.none rfl) (by exact Eff1.mu T (x := s12.2.2) (y := true) (.inl rfl) rfl kt3 (fun _ => rfl) rfl rfl rfl rfl rfl (.inl rfl) rfl) ?_
 refine U.done (C.nx (C.seq (U.start ?_)))
 refine U.ps 2 T rfl ?_
 refine U.e1 rfl (.none rfl) (by exact Eff1.bs T (enc := eI) (xs := ([s12.2.2] : List Int)) rfl rfl rfl rfl rfl rfl rfl rfl rfl rfl (fun _ _ => rfl) rfl rfl) ?_
 obtain ⟨hx27, hm⟩ := hm
 refine U.e1 rfl (.none rfl) (by exact Eff1.ap T rfl rfl rfl rfl rfl rfl (.inr ⟨_, rfl, rfl⟩) rfl rfl rfl (fun _ => rfl) rfl hx27) ?_
 refine U.pd 1 T (C.nx (U.start ?_))
 refine U.pd 1 T ?_
 exact St.wa [some 0, some 1, some 2, some 6] (hJ21 _ hm)
 refine C.skip ?_
 exact St.wa (idR 4) (hJ21 _ hm)
 refine C.exit (C.ex (C.ex (C.bex ?_)))
 exact St.wa (sqR 1 3) (hJ11 _ hm)
theorem T_slices_Index_int_int (s_1 : List Int) (v : Int) (post : Int → Prop) (hm : V_slices_Index_int_int s_1 v post) :
    Tr Tryz.prog 95 [.sl 1 eI s_1, .i v] [] 0 (fun A H' k => ∃ y, post y ∧ A = (.i y) ∧ H' = [] ∧ k = 0) := by
 refine Tr.intro (n := 19) Tryz.func95 rfl Tryz.ntmps95 rfl (fun w0 ok F β hβ => ?_)
 unfold V_slices_Index_int_int at hm
 refine C.seq (U.start ?_)
 refine U.pd 1 T (C.nx (C.seq (C.seq (U.start ?_))))
 refine U.pd 3 T (C.nx ?_)
 refine C.jn (fun (x5 : Unit) => []) (fun (x5 : Unit) => []) 0 hm (fun x5 hm => ?_) (fun J6 hm hJ6 => ?_)
 refine C.nx (C.seq (U.start ?_))
 refine U.pd 1 T (C.nx (C.ret ?_))
 exact C.f1 T hβ ⟨(-1), hm, rfl, rfl, rfl⟩
 refine C.block ?_
 refine St.wk (C.loop (fun (s7 : Int) => [(0, .sl 1 eI s_1), (1, .i v), (7, .i (s_1.length : Int)), (8, .i s7)]) (fun (s7 : Int) => []) hm (fun s7 Y8 hm => ?_)) (Wk.e)
 refine C.seq (U.start ?_)
 refine U.pd 1 T (C.nx (C.seq ?_))
 refine C.ite rfl hm (fun hb11 hm => ?_) (fun hb11 hm => ?_)
 refine C.skip (C.nx (C.seq (C.block (C.seq (U.start ?_)))))
 refine U.pd 2 T (C.nx (C.seq (U.start ?_)))
 refine U.ps 3 T rfl ?_
 obtain ⟨x16, hx16, hm⟩ := hm
 refine U.r rfl (.none rfl) rfl rfl (by exact Rd.ix T rfl rfl rfl rfl rfl rfl hx16) ?_
 refine U.pd 2 T (C.nx ?_)
 refine C.ite rfl hm (fun hb17 hm => ?_) (fun hb17 hm => ?_)
 refine C.seq (U.start ?_)
 refine U.pd 2 T (C.nx (C.ret (C.brt (C.rt (C.rt (C.brt (C.rt ?_)))))))
 exact C.f1 T hβ ⟨s7, hm, rfl, rfl, rfl⟩
 refine C.skip (C.bnx (C.nx (U.start ?_)))
 refine U.pd 2 T (C.nx ?_)
 exact St.wk (C.next hm) (Wk.e)
 refine C.exit (C.ex (C.ex (C.bex ?_)))
 exact St.wk (hJ6 _ hm) (Wk.mk' [] rfl rfl trivial trivial rfl)
theorem T_slices_Contains_int_int (s_1 : List Int) (v : Int) (post : Bool → Prop) (hm : V_slices_Contains_int_int s_1 v post) :
    Tr Tryz.prog 54 [.sl 1 eI s_1, .i v] [] 0 (fun A H' k => ∃ y, post y ∧ A = (.b y) ∧ H' = [] ∧ k = 0) := by
 refine Tr.intro (n := 9) Tryz.func54 rfl Tryz.ntmps54 rfl (fun w0 ok F β hβ => ?_)
 unfold V_slices_Contains_int_int at hm
 refine C.seq (U.start ?_)
 refine U.pd 1 T (C.nx (C.seq (U.start ?_)))
 refine U.ps 2 T rfl ?_
 refine U.k (T_slices_Index_int_int s_1 v _ hm) en95 (fun x5 hm => ?_)
 refine U.pd 2 T (C.nx (C.ret ?_))
 exact C.f1 T hβ ⟨decide (x5 ≥ 0), hm, rfl, rfl, rfl⟩
theorem T_bank_Check (s_1 : ApiSite) (st : ApiState) (homes : List Int) (order : List Int) (post : (Int × Int) → Prop) (hm : V_bank_Check s_1 st homes order post) :
    Tr Tryz.prog 17 [.agg (eApiSite s_1), .agg (eApiState st), .sl 1 eI homes, .sl 1 eI order] [] 0 (fun A H' k => ∃ y, post y ∧ A = (.tup [.i y.1, .i y.2]) ∧ H' = [] ∧ k = 0) := by
 refine Tr.intro (n := 63) Tryz.func17 rfl Tryz.ntmps17 rfl (fun w0 ok F β hβ => ?_)
 unfold V_bank_Check at hm
 refine C.seq (U.start ?_)
 refine U.bx ?_
 refine U.bx ?_
 refine U.pd 2 T (C.nx (C.seq (U.start ?_)))
 refine U.ps 3 T rfl ?_
 refine U.e rfl (.none rfl) (by exact Eff.c [] (v := false) (T_bank_newSituation s_1 st homes [] _ hm) en56 rfl rfl rfl (.cons (.eq rfl) (.cons (.eq rfl) (.cons (.eq rfl) (.cons (.nil _ _ _ _ ⟨rfl, rfl⟩) .nil)))) trivial rfl rfl rfl rfl rfl rfl (fun h => by cases h) (.inr ⟨rfl, rfl⟩) (fun _ => rfl) (fun _ => rfl) rfl) (fun x5' hm => ?_)
 obtain ⟨x5⟩ := x5'
 refine U.pd 1 T (C.nx (C.seq (C.seq (U.start ?_))))
 refine U.pd 3 T (C.nx ?_)
 refine C.jn (fun (x8 : Unit) => [(3, .sl 1 eI order), (10, .p 0 0)]) (fun (x8 : Unit) => [(0, .box [.i x5.s.Floor.W, .i x5.s.Floor.H, .i x5.s.Floor.D, .sl 1 eI x5.s.Floor.Kind, .sl 1 eI x5.s.Floor.Out, .sl 5 eApiZone x5.s.Zones, .sl 2 eApiApart x5.s.Aparts, .sl 2 eApiShelf x5.s.Shelves, .sl 2 eApiStart x5.s.Robots, .i x5.st.Tick, .sl 1 eI x5.st.Shelves, .sl 6 eApiRobot x5.st.Robots, .sl 1 eI x5.st.People, .sl 1 eI x5.st.Dead, .sl 2 eApiStuck x5.st.Stuck, .sl 1 eI x5.homes, .o 1]), (1, .val (.om kI veB x5.home))]) 2 hm (fun x8 hm => ?_) (fun J9 hm hJ9 => ?_)
 refine C.nx (C.seq (C.seq (U.start ?_)))
 refine U.pd 3 T (C.nx ?_)
 refine C.jn (fun (x31 : List (Int × Bool)) => [(3, .sl 1 eI order), (10, .p 0 0)]) (fun (x31 : List (Int × Bool)) => [(0, .box [.i x5.s.Floor.W, .i x5.s.Floor.H, .i x5.s.Floor.D, .sl 1 eI x5.s.Floor.Kind, .sl 1 eI x5.s.Floor.Out, .sl 5 eApiZone x5.s.Zones, .sl 2 eApiApart x5.s.Aparts, .sl 2 eApiShelf x5.s.Shelves, .sl 2 eApiStart x5.s.Robots, .i x5.st.Tick, .sl 1 eI x5.st.Shelves, .sl 6 eApiRobot x5.st.Robots, .sl 1 eI x5.st.People, .sl 1 eI x5.st.Dead, .sl 2 eApiStuck x5.st.Stuck, .sl 1 eI x5.homes, .o 1]), (1, .val (.om kI veB x31))]) 2 hm (fun x31 hm => ?_) (fun J32 hm hJ32 => ?_)
 refine C.nx (C.seq (C.seq (U.start ?_)))
 refine U.ps 1 T rfl ?_
 refine U.k (T_bank_situation_all ({ s := x5.s, st := x5.st, homes := x5.homes, home := x31 : BankSituation }) _ hm) en58 (fun x53 hm => ?_)
 refine U.pd 1 T (C.nx ?_)
 refine C.ite rfl hm (fun hb54 hm => ?_) (fun hb54 hm => ?_)
 refine C.seq (U.start ?_)
 refine U.pd 4 T (C.nx (C.ret (C.rt ?_)))
 exact C.f9 T hβ ⟨((order.length : Int), 19), hm, rfl, rfl, rfl⟩
 refine C.skip (C.nx (C.seq (U.start ?_)))
 refine U.pd 2 T (C.nx (C.ret ?_))
 exact C.f9 T hβ ⟨((-1), 0), hm, rfl, rfl, rfl⟩
 refine C.block ?_
 refine St.wk (C.loop (fun (s33 : List (Int × Bool) × Int) => [(3, .sl 1 eI order), (10, .p 0 0), (39, .sl 1 eI order), (40, .i (order.length : Int)), (41, .i s33.2)]) (fun (s33 : List (Int × Bool) × Int) => [(0, .box [.i x5.s.Floor.W, .i x5.s.Floor.H, .i x5.s.Floor.D, .sl 1 eI x5.s.Floor.Kind, .sl 1 eI x5.s.Floor.Out, .sl 5 eApiZone x5.s.Zones, .sl 2 eApiApart x5.s.Aparts, .sl 2 eApiShelf x5.s.Shelves, .sl 2 eApiStart x5.s.Robots, .i x5.st.Tick, .sl 1 eI x5.st.Shelves, .sl 6 eApiRobot x5.st.Robots, .sl 1 eI x5.st.People, .sl 1 eI x5.st.Dead, .sl 2 eApiStuck x5.st.Stuck, .sl 1 eI x5.homes, .o 1]), (1, .val (.om kI veB s33.1))]) hm (fun s33 Y34 hm => ?_)) (Wk.a (idR 2))
 refine C.seq (U.start ?_)
 refine U.pd 1 T (C.nx (C.seq ?_))
 refine C.ite rfl hm (fun hb37 hm => ?_) (fun hb37 hm => ?_)
 refine C.skip (C.nx (C.seq (C.block (C.seq (U.start ?_)))))
 refine U.ps 1 T rfl ?_
 obtain ⟨x40, hx40, hm⟩ := hm
 refine U.r rfl (.none rfl) rfl rfl (by exact Rd.ix T rfl rfl rfl rfl rfl rfl hx40) ?_
 refine U.pd 3 T (C.nx (C.seq (C.seq (U.start ?_))))
 refine U.ps 2 T rfl ?_
 refine U.k (T_bank_situation_way ({ s := x5.s, st := x5.st, homes := x5.homes, home := s33.1 : BankSituation }) x40 _ hm) en57 (fun x43 hm => ?_)
 refine U.pd 2 T (C.nx ?_)
 refine C.ite rfl hm (fun hb44 hm => ?_) (fun hb44 hm => ?_)
 refine C.seq (U.start ?_)
 refine U.pd 3 T (C.nx (C.ret (C.rt (C.brt (C.rt (C.rt (C.brt (C.rt ?_))))))))
 exact C.f9 T hβ ⟨(s33.2, 14), hm, rfl, rfl, rfl⟩
 refine C.skip (C.nx (U.start ?_))
 refine U.ps 5 T rfl ?_
 refine U.e1 rfl (.none rfl) (by exact Eff1.mu T (x := x40) (y := true) (.inl rfl) rfl kt3 (fun _ => rfl) rfl rfl rfl rfl rfl (.inl rfl) rfl) ?_
 refine U.done (C.bnx (C.nx (U.start ?_)))
 refine U.pd 2 T (C.nx ?_)
 exact St.wk (C.next hm) (Wk.a (idR 2))
 refine C.exit (C.ex (C.ex (C.bex ?_)))
 exact St.wa (idR 2) (hJ32 _ hm)
 refine C.block ?_
 refine St.wk (C.loop (fun (s10 : Int) => [(3, .sl 1 eI order), (10, .p 0 0), (19, .sl 1 eI order), (20, .i (order.length : Int)), (21, .i s10)]) (fun (s10 : Int) => [(0, .box [.i x5.s.Floor.W, .i x5.s.Floor.H, .i x5.s.Floor.D, .sl 1 eI x5.s.Floor.Kind, .sl 1 eI x5.s.Floor.Out, .sl 5 eApiZone x5.s.Zones, .sl 2 eApiApart x5.s.Aparts, .sl 2 eApiShelf x5.s.Shelves, .sl 2 eApiStart x5.s.Robots, .i x5.st.Tick, .sl 1 eI x5.st.Shelves, .sl 6 eApiRobot x5.st.Robots, .sl 1 eI x5.st.People, .sl 1 eI x5.st.Dead, .sl 2 eApiStuck x5.st.Stuck, .sl 1 eI x5.homes, .o 1]), (1, .val (.om kI veB x5.home))]) hm (fun s10 Y11 hm => ?_)) (Wk.a [some 3, some 2])
 refine C.seq (U.start ?_)
 refine U.pd 1 T (C.nx (C.seq ?_))
 refine C.ite rfl hm (fun hb14 hm => ?_) (fun hb14 hm => ?_)
 refine C.skip (C.nx (C.seq (C.block (C.seq (U.start ?_)))))
 refine U.ps 1 T rfl ?_
 obtain ⟨x17, hx17, hm⟩ := hm
 refine U.r rfl (.none rfl) rfl rfl (by exact Rd.ix T rfl rfl rfl rfl rfl rfl hx17) ?_
 refine U.pd 3 T (C.nx (C.seq ?_))
 refine C.jn (fun (x18 : Bool) => [(3, .sl 1 eI order), (10, .p 0 0), (11, .i s10), (19, .sl 1 eI order), (20, .i (order.length : Int)), (21, .i s10), (36, .b x18)]) (fun (x18 : Bool) => [(0, .box [.i x5.s.Floor.W, .i x5.s.Floor.H, .i x5.s.Floor.D, .sl 1 eI x5.s.Floor.Kind, .sl 1 eI x5.s.Floor.Out, .sl 5 eApiZone x5.s.Zones, .sl 2 eApiApart x5.s.Aparts, .sl 2 eApiShelf x5.s.Shelves, .sl 2 eApiStart x5.s.Robots, .i x5.st.Tick, .sl 1 eI x5.st.Shelves, .sl 6 eApiRobot x5.st.Robots, .sl 1 eI x5.st.People, .sl 1 eI x5.st.Dead, .sl 2 eApiStuck x5.st.Stuck, .sl 1 eI x5.homes, .o 1]), (1, .val (.om kI veB x5.home))]) 2 hm (fun x18 hm => ?_) (fun J19 hm hJ19 => ?_)
 refine C.nx ?_
 refine C.ite rfl hm (fun hb24 hm => ?_) (fun hb24 hm => ?_)
 refine C.seq (U.start ?_)
 refine U.pd 3 T (C.nx (C.ret (C.brt (C.rt (C.rt (C.brt (C.rt ?_)))))))
 exact C.f9 T hβ ⟨(s10, 1), hm, rfl, rfl, rfl⟩
 refine C.skip (C.bnx (C.nx (U.start ?_)))
 refine U.pd 2 T (C.nx ?_)
 exact St.wk (C.next hm) (Wk.a (idR 2))
 refine U.start ?_
 refine U.ps 2 T rfl ?_
 refine U.k (T_bank_situation_alive x5 x17 _ hm) en60 (fun x20 hm => ?_)
 refine U.ps 2 T rfl ?_
 refine hm.cs (fun hb21 hm => ?_) (fun hb21 hm => ?_)
 refine U.pg 2 4 false 30 (ntF hb21) T rfl rfl rfl rfl ?_
 obtain ⟨hx22, hm⟩ := hm
 refine U.r rfl (.take 4 false 30 _ (ntF hb21) rfl rfl rfl) rfl rfl (by exact Rd.so T rfl rfl rfl rfl rfl (.none _) (.some _ rfl) hx22) ?_
 refine U.pg 1 4 false 30 (ntF hb21) T rfl rfl rfl rfl ?_
 refine U.k (T_slices_Contains_int_int (sub order 0 s10) x17 _ hm) en54 (fun x23 hm => ?_) (hw := .take 4 false 30 _ (ntF hb21) rfl rfl rfl)
 refine U.r rfl (.none rfl) rfl rfl (by exact Rd.pk' rfl rfl (ntF hb21) rfl) ?_
 refine U.done ?_
 exact St.wa (idR 2) (hJ19 _ hm)
 refine U.sks 5 4 false 30 (ntT hb21) rfl rfl rfl ?_
 refine U.r rfl (.none rfl) rfl rfl (by exact Rd.pk rfl rfl (ntT hb21) rfl) ?_
 refine U.done ?_
 exact St.wa (idR 2) (hJ19 _ hm)
 refine C.exit (C.ex (C.ex (C.bex ?_)))
 exact St.wa (idR 2) (hJ9 _ hm)
theorem T_taquinref07_Same (a : List Int) (b : List Int) (post : Bool → Prop) (hm : V_taquinref07_Same a b post) :
    Tr Tryz.prog 19 [.sl 1 eI a, .sl 1 eI b] [] 0 (fun A H' k => ∃ y, post y ∧ A = (.b y) ∧ H' = [] ∧ k = 0) := by
 refine Tr.intro (n := 26) Tryz.func19 rfl Tryz.ntmps19 rfl (fun w0 ok F β hβ => ?_)
 unfold V_taquinref07_Same at hm
 refine C.seq (U.start ?_)
 refine U.pd 1 T (C.nx (C.seq (C.seq (U.start ?_))))
 refine U.pd 5 T (C.nx ?_)
 refine C.ite rfl hm (fun hb5 hm => ?_) (fun hb5 hm => ?_)
 refine C.seq (U.start ?_)
 refine U.pd 1 T (C.nx (C.ret (C.rt ?_)))
 exact C.f1 T hβ ⟨false, hm, rfl, rfl, rfl⟩
 refine C.skip (C.nx (C.seq (C.seq (U.start ?_))))
 refine U.pd 1 T (C.nx ?_)
 refine C.jn (fun (x10 : Unit) => []) (fun (x10 : Unit) => []) 0 hm (fun x10 hm => ?_) (fun J11 hm hJ11 => ?_)
 refine C.nx (C.seq (U.start ?_))
 refine U.pd 1 T (C.nx (C.ret ?_))
 exact C.f1 T hβ ⟨true, hm, rfl, rfl, rfl⟩
 refine C.block ?_
 refine St.wk (C.loop (fun (s12 : Int) => [(0, .sl 1 eI a), (1, .sl 1 eI b), (5, .i s12)]) (fun (s12 : Int) => []) hm (fun s12 Y13 hm => ?_)) (Wk.e)
 refine C.seq (C.seq (U.start ?_))
 refine U.pd 4 T (C.nx ?_)
 refine C.ite rfl hm (fun hb16 hm => ?_) (fun hb16 hm => ?_)
 refine C.skip (C.nx (C.seq (C.block (C.seq ?_))))
 refine D.beg 9999 [] [] mix rfl rfl (by kernel_rfl) (by repeat (first | exact NoPanicQ.body | exact NoPanicQ.rnd | refine NoPanicQ.th ?_ | refine NoPanicQ.blk ?_ | refine NoPanicQ.ng ?_)) (fun hQ hS ws M' => ?_)
 refine D.ps 2 [(0, []), (1, [])] rfl hQ hS T rfl rfl (by kernel_rfl) ?_
 obtain ⟨x19, hx19, hm⟩ := hm
 refine D.q 2 [] hQ hS rfl (.none rfl) rfl rfl (by exact Rd.ix T rfl rfl rfl rfl rfl rfl hx19) rfl (by kernel_rfl) ?_
 refine D.ps 3 [(3, []), (4, []), (5, [])] rfl hQ hS T rfl rfl (by kernel_rfl) ?_
 obtain ⟨x20, hx20, hm⟩ := hm
 refine D.q 6 [] hQ hS rfl (.none rfl) rfl rfl (by exact Rd.ix T rfl rfl rfl rfl rfl rfl hx20) rfl (by kernel_rfl) ?_
 refine D.ps 2 [(7, []), (8, [])] rfl hQ hS T rfl rfl (by kernel_rfl) ?_
 refine D.done (by kernel_rfl) ?_
 refine C.nx ?_
 refine C.ite rfl hm (fun hb21 hm => ?_) (fun hb21 hm => ?_)
 refine C.seq (U.start ?_)
 refine U.pd 1 T (C.nx (C.ret (C.brt (C.rt (C.rt (C.brt (C.rt ?_)))))))
 exact C.f1 T hβ ⟨false, hm, rfl, rfl, rfl⟩
 refine C.skip (C.bnx (C.nx (U.start ?_)))
 refine U.pd 3 T (C.nx ?_)
 exact St.wk (C.next hm) (Wk.e)
 refine C.exit (C.ex (C.ex (C.bex ?_)))
 exact St.wk (hJ11 _ hm) (Wk.mk' [] rfl rfl trivial trivial rfl)
theorem T_bank_Way (s_1 : ApiSite) (st : ApiState) (homes : List Int) (gone : List Int) (robot : Int) (post : (List Int) → Prop) (hm : V_bank_Way s_1 st homes gone robot post) :
    Tr Tryz.prog 20 [.agg (eApiSite s_1), .agg (eApiState st), .sl 1 eI homes, .sl 1 eI gone, .i robot] [] 0 (fun A H' k => ∃ y, post y ∧ A = (.o 0) ∧ H' = [(0, .val (.os 1 eI y))] ∧ k = 1) := by
 refine Tr.intro (n := 18) Tryz.func20 rfl Tryz.ntmps20 rfl (fun w0 ok F β hβ => ?_)
 unfold V_bank_Way at hm
 refine C.seq (U.start ?_)
 refine U.bx ?_
 refine U.bx ?_
 refine U.pd 1 T (C.nx (C.seq (U.start ?_)))
 refine U.ps 4 T rfl ?_
 refine U.e rfl (.none rfl) (by exact Eff.c [] (v := false) (T_bank_newSituation s_1 st homes gone _ hm) en56 rfl rfl rfl (.eq rfl) trivial rfl rfl rfl rfl rfl rfl (fun h => by cases h) (.inr ⟨rfl, rfl⟩) (fun _ => rfl) (fun _ => rfl) rfl) (fun x5' hm => ?_)
 obtain ⟨x5⟩ := x5'
 refine U.ps 1 T rfl ?_
 refine U.k (T_bank_situation_way x5 robot _ hm) en57 (fun x6 hm => ?_)
 refine U.pd 1 T (C.nx (C.ret ?_))
 exact C.g1 [some 4] T hβ ⟨x6, hm, rfl, rfl, rfl⟩
theorem T_taquinlaw21_small (post : Bool → Prop) (hm : V_taquinlaw21_small post) :
    Tr Tryz.prog 8 [] [] 0 (fun A H' k => ∃ y, post y ∧ A = (.b y) ∧ H' = [] ∧ k = 0) := by
 refine Tr.intro (n := 66) Tryz.func8 rfl Tryz.ntmps8 rfl (fun w0 ok F β hβ => ?_)
 unfold V_taquinlaw21_small at hm
 refine C.seq (U.start ?_)
 refine U.pd 1 T (C.nx (C.seq (U.start ?_)))
 refine U.e rfl (.none rfl) (by exact Eff.c [] (v := false) (T_taquinlaw21_sample _ hm) en28 rfl rfl rfl (.eq rfl) trivial rfl rfl rfl rfl rfl rfl (fun h => by cases h) (.inr ⟨rfl, rfl⟩) (fun _ => rfl) (fun _ => rfl) rfl) (fun x5' hm => ?_)
 obtain ⟨x5⟩ := x5'
 refine U.ps 3 T rfl ?_
 refine U.e1 rfl (.none rfl) (by exact Eff1.al T rfl rfl rfl rfl) ?_
 refine U.e1 rfl (.none rfl) (by exact Eff1.al T rfl rfl rfl rfl) ?_
 refine U.e1 rfl (.none rfl) (by exact Eff1.st T rfl rfl rfl rfl rfl rfl rfl rfl rfl rfl) ?_
 refine U.e1 rfl (.none rfl) (by exact Eff1.st T rfl rfl rfl rfl rfl rfl rfl rfl rfl rfl) ?_
 refine U.done (C.nx (C.seq (U.start ?_)))
 refine U.ps 2 T rfl ?_
 refine U.e1 rfl (.none rfl) (by exact Eff1.bs T (enc := eI) (xs := ([0, 4] : List Int)) rfl rfl rfl rfl rfl rfl rfl rfl rfl rfl (fun _ _ => rfl) rfl rfl) ?_
 refine U.k (T_bank_Safe x5.1 x5.2 ([0, 4] : List Int) _ hm) en15 (fun x8 hm => ?_)
 refine U.pd 5 T (C.nx (C.seq (U.start ?_)))
 refine U.ps 2 T rfl ?_
 refine U.e1 rfl (.none rfl) (by exact Eff1.bs T (enc := eI) (xs := ([4, 3] : List Int)) rfl rfl rfl rfl rfl rfl rfl rfl rfl rfl (fun _ _ => rfl) rfl rfl) ?_
 refine U.k (T_bank_Safe x5.1 x5.2 ([4, 3] : List Int) _ hm) en15 (fun x11 hm => ?_)
 refine U.pd 5 T (C.nx (C.seq (U.start ?_)))
 refine U.ps 2 T rfl ?_
 refine U.e1 rfl (.none rfl) (by exact Eff1.bs T (enc := eI) (xs := ([4, 3] : List Int)) rfl rfl rfl rfl rfl rfl rfl rfl rfl rfl (fun _ _ => rfl) rfl rfl) ?_
 refine U.e1 rfl (.none rfl) (by exact Eff1.bs T (enc := eI) (xs := ([1, 0] : List Int)) rfl rfl rfl rfl rfl rfl rfl rfl rfl rfl (fun _ _ => rfl) rfl rfl) ?_
 refine U.k (T_bank_Check x5.1 x5.2 ([4, 3] : List Int) ([1, 0] : List Int) _ hm) en17 (fun x14 hm => ?_)
 refine U.pd 5 T (C.nx (C.seq ?_))
 refine C.jn (fun (x15 : Bool) => [(0, .b x15)]) (fun (x15 : Bool) => []) 0 hm (fun x15 hm => ?_) (fun J16 hm hJ16 => ?_)
 refine C.nx (C.ret ?_)
 exact C.f1 T hβ ⟨x15, hm, rfl, rfl, rfl⟩
 refine U.start ?_
 refine U.ps 2 T rfl ?_
 refine hm.cs (fun hb17 hm => ?_) (fun hb17 hm => ?_)
 refine U.pg 1 1 true 36 hb17 T rfl rfl rfl rfl ?_
 refine U.e1 rfl (.take 1 true 36 _ hb17 rfl rfl rfl) (by exact Eff1.bs T (enc := eI) (xs := ([0, 1] : List Int)) rfl rfl rfl rfl rfl rfl rfl rfl rfl rfl (fun _ _ => rfl) rfl rfl) ?_
 refine U.k (T_taquinref07_Same x8.1 ([0, 1] : List Int) _ hm) en19 (fun x18 hm => ?_) (hw := .take 1 true 36 _ hb17 rfl rfl rfl)
 refine U.pk hb17 ?_
 refine U.ps 1 T rfl ?_
 refine hm.cs (fun hb19 hm => ?_) (fun hb19 hm => ?_)
 refine U.pg 2 6 true 41 hb19 T rfl rfl rfl rfl ?_
 refine U.pk hb19 ?_
 refine U.ps 1 T rfl ?_
 refine hm.cs (fun hb20 hm => ?_) (fun hb20 hm => ?_)
 refine U.sks 3 10 true 45 (ntF hb20) rfl rfl rfl ?_
 refine U.r rfl (.none rfl) rfl rfl (by exact Rd.pk' rfl rfl (ntF hb20) rfl) ?_
 refine U.ps 1 T rfl ?_
 refine U.sks 2 15 true 50 rfl rfl rfl rfl ?_
 refine U.pk' rfl ?_
 refine U.ps 1 T rfl ?_
 refine U.sks 2 19 true 54 rfl rfl rfl rfl ?_
 refine U.pk' rfl ?_
 refine U.ps 1 T rfl ?_
 refine U.sks 6 23 true 58 rfl rfl rfl rfl ?_
 refine U.pk' rfl ?_
 refine U.pd 1 T ?_
 exact St.wn (hJ16 _ hm)
 refine U.pg 1 10 true 45 (ntT hb20) T rfl rfl rfl rfl ?_
 refine U.e1 rfl (.take 10 true 45 _ (ntT hb20) rfl rfl rfl) (by exact Eff1.bs T (enc := eI) (xs := ([1] : List Int)) rfl rfl rfl rfl rfl rfl rfl rfl rfl rfl (fun _ _ => rfl) rfl rfl) ?_
 refine U.k (T_taquinref07_Same x11.1 ([1] : List Int) _ hm) en19 (fun x21 hm => ?_) (hw := .take 10 true 45 _ (ntT hb20) rfl rfl rfl)
 refine U.r rfl (.none rfl) rfl rfl (by exact Rd.pk rfl rfl (ntT hb20) rfl) ?_
 refine U.ps 1 T rfl ?_
 refine hm.cs (fun hb22 hm => ?_) (fun hb22 hm => ?_)
 refine U.pg 2 15 true 50 hb22 T rfl rfl rfl rfl ?_
 refine U.pk hb22 ?_
 refine U.ps 1 T rfl ?_
 refine hm.cs (fun hb23 hm => ?_) (fun hb23 hm => ?_)
 refine U.pg 2 19 true 54 hb23 T rfl rfl rfl rfl ?_
 refine U.pk hb23 ?_
 refine U.ps 1 T rfl ?_
 refine hm.cs (fun hb24 hm => ?_) (fun hb24 hm => ?_)
 refine U.pg 2 23 true 58 hb24 T rfl rfl rfl rfl ?_
 refine U.e1 rfl (.take 23 true 58 _ hb24 rfl rfl rfl) (by exact Eff1.bs T (enc := eI) (xs := ([0, 1] : List Int)) rfl rfl rfl rfl rfl rfl rfl rfl rfl rfl (fun _ _ => rfl) rfl rfl) ?_
 refine U.k (T_bank_Way x5.1 x5.2 ([0, 1] : List Int) [] 0 _ hm) en20 (fun x25 hm => ?_) (hw := .take 23 true 58 _ hb24 rfl rfl rfl)
 refine U.e1 rfl (.take 23 true 58 _ hb24 rfl rfl rfl) (by exact Eff1.bs T (enc := eI) (xs := ([1, 0] : List Int)) rfl rfl rfl rfl rfl rfl rfl rfl rfl rfl (fun _ _ => rfl) rfl rfl) ?_
 refine U.k (T_taquinref07_Same x25 ([1, 0] : List Int) _ hm) en19 (fun x26 hm => ?_) (hw := .take 23 true 58 _ hb24 rfl rfl rfl)
 refine U.pk hb24 ?_
 refine U.pd 1 T ?_
 exact St.wn (hJ16 _ hm)
 refine U.sks 6 23 true 58 hb24 rfl rfl rfl ?_
 refine U.pk' hb24 ?_
 refine U.pd 1 T ?_
 exact St.wn (hJ16 _ hm)
 refine U.sks 2 19 true 54 hb23 rfl rfl rfl ?_
 refine U.pk' hb23 ?_
 refine U.ps 1 T rfl ?_
 refine U.sks 6 23 true 58 rfl rfl rfl rfl ?_
 refine U.pk' rfl ?_
 refine U.pd 1 T ?_
 exact St.wn (hJ16 _ hm)
 refine U.sks 2 15 true 50 hb22 rfl rfl rfl ?_
 refine U.pk' hb22 ?_
 refine U.ps 1 T rfl ?_
 refine U.sks 2 19 true 54 rfl rfl rfl rfl ?_
 refine U.pk' rfl ?_
 refine U.ps 1 T rfl ?_
 refine U.sks 6 23 true 58 rfl rfl rfl rfl ?_
 refine U.pk' rfl ?_
 refine U.pd 1 T ?_
 exact St.wn (hJ16 _ hm)
 refine U.sks 2 6 true 41 hb19 rfl rfl rfl ?_
 refine U.pk' hb19 ?_
 refine U.ps 1 T rfl ?_
 refine U.sks 3 10 true 45 rfl rfl rfl rfl ?_
 refine U.pk' rfl ?_
 refine U.ps 1 T rfl ?_
 refine U.sks 2 15 true 50 rfl rfl rfl rfl ?_
 refine U.pk' rfl ?_
 refine U.ps 1 T rfl ?_
 refine U.sks 2 19 true 54 rfl rfl rfl rfl ?_
 refine U.pk' rfl ?_
 refine U.ps 1 T rfl ?_
 refine U.sks 6 23 true 58 rfl rfl rfl rfl ?_
 refine U.pk' rfl ?_
 refine U.pd 1 T ?_
 exact St.wn (hJ16 _ hm)
 refine U.sks 3 1 true 36 hb17 rfl rfl rfl ?_
 refine U.pk' hb17 ?_
 refine U.ps 1 T rfl ?_
 refine U.sks 2 6 true 41 rfl rfl rfl rfl ?_
 refine U.pk' rfl ?_
 refine U.ps 1 T rfl ?_
 refine U.sks 3 10 true 45 rfl rfl rfl rfl ?_
 refine U.pk' rfl ?_
 refine U.ps 1 T rfl ?_
 refine U.sks 2 15 true 50 rfl rfl rfl rfl ?_
 refine U.pk' rfl ?_
 refine U.ps 1 T rfl ?_
 refine U.sks 2 19 true 54 rfl rfl rfl rfl ?_
 refine U.pk' rfl ?_
 refine U.ps 1 T rfl ?_
 refine U.sks 6 23 true 58 rfl rfl rfl rfl ?_
 refine U.pk' rfl ?_
 refine U.pd 1 T ?_
 exact St.wn (hJ16 _ hm)
theorem T_taquinref07_Few (f : ApiFloor) (n : Int) (post : Bool → Prop) (hm : V_taquinref07_Few f n post) :
    Tr Tryz.prog 29 [.agg (eApiFloor f), .i n] [] 0 (fun A H' k => ∃ y, post y ∧ A = (.b y) ∧ H' = [] ∧ k = 0) := by
 refine Tr.intro (n := 17) Tryz.func29 rfl Tryz.ntmps29 rfl (fun w0 ok F β hβ => ?_)
 unfold V_taquinref07_Few at hm
 refine C.seq (U.start ?_)
 refine U.bx ?_
 refine U.pd 1 T (C.nx (C.seq ?_))
 refine C.jn (fun (x3 : Bool) => [(4, .b x3)]) (fun (x3 : Bool) => []) 0 hm (fun x3 hm => ?_) (fun J4 hm hJ4 => ?_)
 refine C.nx (C.ret ?_)
 exact C.f1 T hβ ⟨x3, hm, rfl, rfl, rfl⟩
 refine U.start ?_
 refine U.ps 6 T rfl ?_
 refine hm.cs (fun hb5 hm => ?_) (fun hb5 hm => ?_)
 refine U.pg 5 5 true 10 hb5 T rfl rfl rfl rfl ?_
 refine U.pk hb5 ?_
 refine U.pd 1 T ?_
 exact St.wn (hJ4 _ hm)
 refine U.sks 5 5 true 10 hb5 rfl rfl rfl ?_
 refine U.pk' hb5 ?_
 refine U.pd 1 T ?_
 exact St.wn (hJ4 _ hm)
theorem T_taquinref11_Few (s_1 : ApiSite) (cells : Int) (most : Int) (post : Bool → Prop) (hm : V_taquinref11_Few s_1 cells most post) :
    Tr Tryz.prog 9 [.agg (eApiSite s_1), .i cells, .i most] [] 0 (fun A H' k => ∃ y, post y ∧ A = (.b y) ∧ H' = [] ∧ k = 0) := by
 refine Tr.intro (n := 133) Tryz.func9 rfl Tryz.ntmps9 rfl (fun w0 ok F β hβ => ?_)
 unfold V_taquinref11_Few at hm
 refine C.seq (U.start ?_)
 refine U.bx ?_
 refine U.pd 1 T (C.nx (C.seq (C.seq (U.start ?_))))
 refine U.pd 1 T (C.nx ?_)
 refine C.jn (fun (x5 : Unit) => [(1, .i cells), (2, .i most), (3, .p 0 0)]) (fun (x5 : Unit) => [(0, .box (eApiSite s_1))]) 1 hm (fun x5 hm => ?_) (fun J6 hm hJ6 => ?_)
 refine C.nx (C.seq (C.seq (U.start ?_)))
 refine U.pd 1 T (C.nx ?_)
 refine C.jn (fun (x25 : Unit) => [(1, .i cells), (2, .i most), (3, .p 0 0)]) (fun (x25 : Unit) => [(0, .box (eApiSite s_1))]) 1 hm (fun x25 hm => ?_) (fun J26 hm hJ26 => ?_)
 refine C.nx (C.seq (C.seq (U.start ?_)))
 refine U.pd 1 T (C.nx ?_)
 refine C.jn (fun (x44 : Unit) => [(1, .i cells), (2, .i most), (3, .p 0 0)]) (fun (x44 : Unit) => [(0, .box (eApiSite s_1))]) 1 hm (fun x44 hm => ?_) (fun J45 hm hJ45 => ?_)
 refine C.nx (C.seq ?_)
 refine C.jn (fun (x60 : Bool) => [(6, .b x60)]) (fun (x60 : Bool) => []) 0 hm (fun x60 hm => ?_) (fun J61 hm hJ61 => ?_)
 refine C.nx (C.ret ?_)
 exact C.f1 T hβ ⟨x60, hm, rfl, rfl, rfl⟩
 refine U.start ?_
 refine U.ps 3 T rfl ?_
 refine U.k (T_taquinref07_Few s_1.Floor cells _ hm) en29 (fun x62 hm => ?_)
 refine U.ps 1 T rfl ?_
 refine hm.cs (fun hb63 hm => ?_) (fun hb63 hm => ?_)
 refine U.pg 5 4 true 105 hb63 T rfl rfl rfl rfl ?_
 refine U.pk hb63 ?_
 refine U.ps 1 T rfl ?_
 refine hm.cs (fun hb64 hm => ?_) (fun hb64 hm => ?_)
 refine U.pg 5 11 true 112 hb64 T rfl rfl rfl rfl ?_
 refine U.pk hb64 ?_
 refine U.ps 1 T rfl ?_
 refine hm.cs (fun hb65 hm => ?_) (fun hb65 hm => ?_)
 refine U.pg 5 18 true 119 hb65 T rfl rfl rfl rfl ?_
 refine U.pk hb65 ?_
 refine U.ps 1 T rfl ?_
 refine hm.cs (fun hb66 hm => ?_) (fun hb66 hm => ?_)
 refine U.pg 5 25 true 126 hb66 T rfl rfl rfl rfl ?_
 refine U.pk hb66 ?_
 refine U.pd 1 T ?_
 exact St.wn (hJ61 _ hm)
 refine U.sks 5 25 true 126 hb66 rfl rfl rfl ?_
 refine U.pk' hb66 ?_
 refine U.pd 1 T ?_
 exact St.wn (hJ61 _ hm)
 refine U.sks 5 18 true 119 hb65 rfl rfl rfl ?_
 refine U.pk' hb65 ?_
 refine U.ps 1 T rfl ?_
 refine U.sks 5 25 true 126 rfl rfl rfl rfl ?_
 refine U.pk' rfl ?_
 refine U.pd 1 T ?_
 exact St.wn (hJ61 _ hm)
 refine U.sks 5 11 true 112 hb64 rfl rfl rfl ?_
 refine U.pk' hb64 ?_
 refine U.ps 1 T rfl ?_
 refine U.sks 5 18 true 119 rfl rfl rfl rfl ?_
 refine U.pk' rfl ?_
 refine U.ps 1 T rfl ?_
 refine U.sks 5 25 true 126 rfl rfl rfl rfl ?_
 refine U.pk' rfl ?_
 refine U.pd 1 T ?_
 exact St.wn (hJ61 _ hm)
 refine U.sks 5 4 true 105 hb63 rfl rfl rfl ?_
 refine U.pk' hb63 ?_
 refine U.ps 1 T rfl ?_
 refine U.sks 5 11 true 112 rfl rfl rfl rfl ?_
 refine U.pk' rfl ?_
 refine U.ps 1 T rfl ?_
 refine U.sks 5 18 true 119 rfl rfl rfl rfl ?_
 refine U.pk' rfl ?_
 refine U.ps 1 T rfl ?_
 refine U.sks 5 25 true 126 rfl rfl rfl rfl ?_
 refine U.pk' rfl ?_
 refine U.pd 1 T ?_
 exact St.wn (hJ61 _ hm)
 refine C.block ?_
 refine St.wk (C.loop (fun (s46 : Int) => [(1, .i cells), (2, .i most), (3, .p 0 0), (9, .i s46)]) (fun (s46 : Int) => [(0, .box (eApiSite s_1))]) hm (fun s46 Y47 hm => ?_)) (Wk.a [some 0])
 refine C.seq (C.seq ?_)
 refine C.jn (fun (x48 : Bool) => [(1, .i cells), (2, .i most), (3, .p 0 0), (9, .i s46), (90, .b x48)]) (fun (x48 : Bool) => [(0, .box (eApiSite s_1))]) 1 hm (fun x48 hm => ?_) (fun J49 hm hJ49 => ?_)
 refine C.nx ?_
 refine C.ite rfl hm (fun hb51 hm => ?_) (fun hb51 hm => ?_)
 refine C.skip (C.nx (C.seq (C.block (C.seq (U.start ?_)))))
 refine U.ps 3 T rfl ?_
 obtain ⟨x54, hx54, hm⟩ := hm
 refine U.r rfl (.none rfl) rfl rfl (by exact Rd.ix T rfl rfl rfl rfl rfl rfl hx54) ?_
 refine U.pd 4 T (C.nx ?_)
 refine C.ite rfl hm (fun hb55 hm => ?_) (fun hb55 hm => ?_)
 refine C.seq (U.start ?_)
 refine U.pd 1 T (C.nx (C.ret (C.brt (C.rt (C.rt (C.brt (C.rt ?_)))))))
 exact C.f1 T hβ ⟨false, hm, rfl, rfl, rfl⟩
 refine C.skip (C.bnx (C.nx (U.start ?_)))
 refine U.pd 3 T (C.nx ?_)
 exact St.wk (C.next hm) (Wk.a [some 0])
 refine C.exit (C.ex (C.ex (C.bex ?_)))
 exact St.wa [some 0] (hJ45 _ hm)
 refine U.start ?_
 refine U.ps 6 T rfl ?_
 refine hm.cs (fun hb50 hm => ?_) (fun hb50 hm => ?_)
 refine U.pg 3 5 true 86 hb50 T rfl rfl rfl rfl ?_
 refine U.pk hb50 ?_
 refine U.done ?_
 exact St.wa [some 0] (hJ49 _ hm)
 refine U.sks 3 5 true 86 hb50 rfl rfl rfl ?_
 refine U.pk' hb50 ?_
 refine U.done ?_
 exact St.wa [some 0] (hJ49 _ hm)
 refine C.block ?_
 refine St.wk (C.loop (fun (s27 : Int) => [(1, .i cells), (2, .i most), (3, .p 0 0), (8, .i s27)]) (fun (s27 : Int) => [(0, .box (eApiSite s_1))]) hm (fun s27 Y28 hm => ?_)) (Wk.a [some 0])
 refine C.seq (C.seq ?_)
 refine C.jn (fun (x29 : Bool) => [(1, .i cells), (2, .i most), (3, .p 0 0), (8, .i s27), (60, .b x29)]) (fun (x29 : Bool) => [(0, .box (eApiSite s_1))]) 1 hm (fun x29 hm => ?_) (fun J30 hm hJ30 => ?_)
 refine C.nx ?_
 refine C.ite rfl hm (fun hb32 hm => ?_) (fun hb32 hm => ?_)
 refine C.skip (C.nx (C.seq (C.block (C.seq ?_))))
 refine C.jn (fun (x33 : Bool) => [(1, .i cells), (2, .i most), (3, .p 0 0), (8, .i s27), (80, .b x33)]) (fun (x33 : Bool) => [(0, .box (eApiSite s_1))]) 1 hm (fun x33 hm => ?_) (fun J34 hm hJ34 => ?_)
 refine C.nx ?_
 refine C.ite rfl hm (fun hb37 hm => ?_) (fun hb37 hm => ?_)
 refine C.seq (U.start ?_)
 refine U.pd 1 T (C.nx (C.ret (C.brt (C.rt (C.rt (C.brt (C.rt ?_)))))))
 exact C.f1 T hβ ⟨false, hm, rfl, rfl, rfl⟩
 refine C.skip (C.bnx (C.nx (U.start ?_)))
 refine U.pd 3 T (C.nx ?_)
 exact St.wk (C.next hm) (Wk.a [some 0])
 refine U.start ?_
 refine U.ps 3 T rfl ?_
 obtain ⟨x35, hx35, hm⟩ := hm
 refine U.r rfl (.none rfl) rfl rfl (by exact Rd.ix T rfl rfl rfl rfl rfl rfl hx35) ?_
 refine U.ps 5 T rfl ?_
 refine hm.cs (fun hb36 hm => ?_) (fun hb36 hm => ?_)
 refine U.sks 8 8 false 71 hb36 rfl rfl rfl ?_
 refine U.pk hb36 ?_
 refine U.done ?_
 exact St.wa [some 0] (hJ34 _ hm)
 refine U.pg 3 8 false 71 hb36 T rfl rfl rfl rfl ?_
 refine U.r rfl (.take 8 false 71 _ hb36 rfl rfl rfl) rfl rfl (by exact Rd.ix T rfl rfl rfl rfl rfl rfl hx35) ?_
 refine U.pg 4 8 false 71 hb36 T rfl rfl rfl rfl ?_
 refine U.pk' hb36 ?_
 refine U.done ?_
 exact St.wa [some 0] (hJ34 _ hm)
 refine C.exit (C.ex (C.ex (C.bex ?_)))
 exact St.wa [some 0] (hJ26 _ hm)
 refine U.start ?_
 refine U.ps 6 T rfl ?_
 refine hm.cs (fun hb31 hm => ?_) (fun hb31 hm => ?_)
 refine U.pg 3 5 true 56 hb31 T rfl rfl rfl rfl ?_
 refine U.pk hb31 ?_
 refine U.done ?_
 exact St.wa [some 0] (hJ30 _ hm)
 refine U.sks 3 5 true 56 hb31 rfl rfl rfl ?_
 refine U.pk' hb31 ?_
 refine U.done ?_
 exact St.wa [some 0] (hJ30 _ hm)
 refine C.block ?_
 refine St.wk (C.loop (fun (s7 : Int) => [(1, .i cells), (2, .i most), (3, .p 0 0), (7, .i s7)]) (fun (s7 : Int) => [(0, .box (eApiSite s_1))]) hm (fun s7 Y8 hm => ?_)) (Wk.a [some 0])
 refine C.seq (C.seq ?_)
 refine C.jn (fun (x9 : Bool) => [(1, .i cells), (2, .i most), (3, .p 0 0), (7, .i s7), (19, .b x9)]) (fun (x9 : Bool) => [(0, .box (eApiSite s_1))]) 1 hm (fun x9 hm => ?_) (fun J10 hm hJ10 => ?_)
 refine C.nx ?_
 refine C.ite rfl hm (fun hb12 hm => ?_) (fun hb12 hm => ?_)
 refine C.skip (C.nx (C.seq (C.block (C.seq ?_))))
 refine C.jn (fun (x13 : Bool) => [(1, .i cells), (2, .i most), (3, .p 0 0), (7, .i s7), (50, .b x13)]) (fun (x13 : Bool) => [(0, .box (eApiSite s_1))]) 1 hm (fun x13 hm => ?_) (fun J14 hm hJ14 => ?_)
 refine C.nx ?_
 refine C.ite rfl hm (fun hb18 hm => ?_) (fun hb18 hm => ?_)
 refine C.seq (U.start ?_)
 refine U.pd 1 T (C.nx (C.ret (C.brt (C.rt (C.rt (C.brt (C.rt ?_)))))))
 exact C.f1 T hβ ⟨false, hm, rfl, rfl, rfl⟩
 refine C.skip (C.bnx (C.nx (U.start ?_)))
 refine U.pd 3 T (C.nx ?_)
 exact St.wk (C.next hm) (Wk.a [some 0])
 refine U.start ?_
 refine U.ps 3 T rfl ?_
 obtain ⟨x15, hx15, hm⟩ := hm
 refine U.r rfl (.none rfl) rfl rfl (by exact Rd.ix T rfl rfl rfl rfl rfl rfl hx15) ?_
 refine U.ps 6 T rfl ?_
 refine hm.cs (fun hb16 hm => ?_) (fun hb16 hm => ?_)
 refine U.sks 8 9 false 31 hb16 rfl rfl rfl ?_
 refine U.pk hb16 ?_
 refine U.ps 1 T rfl ?_
 refine U.sks 8 19 false 41 rfl rfl rfl rfl ?_
 refine U.pk rfl ?_
 refine U.done ?_
 exact St.wa [some 0] (hJ14 _ hm)
 refine U.pg 3 9 false 31 hb16 T rfl rfl rfl rfl ?_
 refine U.r rfl (.take 9 false 31 _ hb16 rfl rfl rfl) rfl rfl (by exact Rd.ix T rfl rfl rfl rfl rfl rfl hx15) ?_
 refine U.pg 4 9 false 31 hb16 T rfl rfl rfl rfl ?_
 refine U.pk' hb16 ?_
 refine U.ps 1 T rfl ?_
 refine hm.cs (fun hb17 hm => ?_) (fun hb17 hm => ?_)
 refine U.sks 8 19 false 41 hb17 rfl rfl rfl ?_
 refine U.pk hb17 ?_
 refine U.done ?_
 exact St.wa [some 0] (hJ14 _ hm)
 refine U.pg 3 19 false 41 hb17 T rfl rfl rfl rfl ?_
 refine U.r rfl (.take 19 false 41 _ hb17 rfl rfl rfl) rfl rfl (by exact Rd.ix T rfl rfl rfl rfl rfl rfl hx15) ?_
 refine U.pg 4 19 false 41 hb17 T rfl rfl rfl rfl ?_
 refine U.pk' hb17 ?_
 refine U.done ?_
 exact St.wa [some 0] (hJ14 _ hm)
 refine C.exit (C.ex (C.ex (C.bex ?_)))
 exact St.wa [some 0] (hJ6 _ hm)
 refine U.start ?_
 refine U.ps 6 T rfl ?_
 refine hm.cs (fun hb11 hm => ?_) (fun hb11 hm => ?_)
 refine U.pg 3 5 true 15 hb11 T rfl rfl rfl rfl ?_
 refine U.pk hb11 ?_
 refine U.done ?_
 exact St.wa [some 0] (hJ10 _ hm)
 refine U.sks 3 5 true 15 hb11 rfl rfl rfl ?_
 refine U.pk' hb11 ?_
 refine U.done ?_
 exact St.wa [some 0] (hJ10 _ hm)
theorem T_taquinref14_Few (st : ApiState) (post : Bool → Prop) (hm : V_taquinref14_Few st post) :
    Tr Tryz.prog 10 [.agg (eApiState st)] [] 0 (fun A H' k => ∃ y, post y ∧ A = (.b y) ∧ H' = [] ∧ k = 0) := by
 refine Tr.intro (n := 78) Tryz.func10 rfl Tryz.ntmps10 rfl (fun w0 ok F β hβ => ?_)
 unfold V_taquinref14_Few at hm
 refine C.seq (U.start ?_)
 refine U.bx ?_
 refine U.pd 1 T (C.nx (C.seq (C.seq ?_)))
 refine C.jn (fun (x3 : Bool) => [(1, .p 0 0), (33, .b x3)]) (fun (x3 : Bool) => [(0, .box (eApiState st))]) 1 hm (fun x3 hm => ?_) (fun J4 hm hJ4 => ?_)
 refine C.nx ?_
 refine C.ite rfl hm (fun hb9 hm => ?_) (fun hb9 hm => ?_)
 refine C.seq (U.start ?_)
 refine U.pd 1 T (C.nx (C.ret (C.rt ?_)))
 exact C.f1 T hβ ⟨false, hm, rfl, rfl, rfl⟩
 refine C.skip (C.nx (C.seq ?_))
 refine D.beg 9999 [0] [1, 2, 3] mix rfl rfl (by kernel_rfl) (by repeat (first | exact NoPanicQ.body | exact NoPanicQ.rnd | refine NoPanicQ.th ?_ | refine NoPanicQ.blk ?_ | refine NoPanicQ.ng ?_)) (fun hQ hS ws M' => ?_)
 refine D.ps 6 [(1, []), (2, []), (4, []), (5, []), (7, []), (8, [])] rfl hQ hS T rfl rfl (by kernel_rfl) ?_
 refine D.e1 0 rfl (.none rfl) (by exact Eff1.bs T (enc := eI) (xs := ([] : List Int)) rfl rfl rfl rfl rfl rfl rfl rfl rfl rfl (fun _ _ => rfl) rfl rfl) (by kernel_rfl) rfl rfl ?_
 obtain ⟨hx14, hm⟩ := hm
 refine D.e1 3 rfl (.none rfl) (by exact Eff1.ap T rfl rfl rfl rfl rfl rfl (.inl rfl) rfl rfl rfl (fun _ => rfl) rfl hx14) (by kernel_rfl) rfl rfl ?_
 obtain ⟨hx15, hm⟩ := hm
 refine D.e1 6 rfl (.none rfl) (by exact Eff1.ap T rfl rfl rfl rfl rfl rfl (.inl rfl) rfl rfl rfl (fun _ => rfl) rfl hx15) (by kernel_rfl) rfl rfl ?_
 obtain ⟨hx16, hm⟩ := hm
 refine D.e1 9 rfl (.none rfl) (by exact Eff1.ap T rfl rfl rfl rfl rfl rfl (.inl rfl) rfl rfl rfl (fun _ => rfl) rfl hx16) (by kernel_rfl) rfl rfl ?_
 refine D.ps 1 [(10, [])] rfl hQ hS T rfl rfl (by kernel_rfl) ?_
 refine D.done (by kernel_rfl) ?_
 refine C.nx (C.seq (C.seq (U.start ?_)))
 refine U.pd 1 T (C.nx ?_)
 refine C.jn (fun (x19 : List Int) => [(3, .o 0)]) (fun (x19 : List Int) => [(0, .val (.os 1 eI x19))]) 1 hm (fun x19 hm => ?_) (fun J20 hm hJ20 => ?_)
 refine C.nx (C.seq (C.seq (U.start ?_)))
 refine U.pd 1 T (C.nx ?_)
 refine C.jn (fun (x34 : Unit) => []) (fun (x34 : Unit) => []) 0 hm (fun x34 hm => ?_) (fun J35 hm hJ35 => ?_)
 refine C.nx (C.seq (U.start ?_))
 refine U.pd 1 T (C.nx (C.ret ?_))
 exact C.f1 T hβ ⟨true, hm, rfl, rfl, rfl⟩
 refine C.block ?_
 refine St.wk (C.loop (fun (s36 : Int) => [(3, .o 0), (5, .i s36)]) (fun (s36 : Int) => [(0, .val (.os 1 eI x19))]) hm (fun s36 Y37 hm => ?_)) (Wk.a [some 0])
 refine C.seq (C.seq (U.start ?_))
 refine U.pd 4 T (C.nx ?_)
 refine C.ite rfl hm (fun hb40 hm => ?_) (fun hb40 hm => ?_)
 refine C.skip (C.nx (C.seq (C.block (C.seq ?_))))
 refine C.jn (fun (x41 : Bool) => [(3, .o 0), (5, .i s36), (77, .b x41)]) (fun (x41 : Bool) => [(0, .val (.os 1 eI x19))]) 1 hm (fun x41 hm => ?_) (fun J42 hm hJ42 => ?_)
 refine C.nx ?_
 refine C.ite rfl hm (fun hb45 hm => ?_) (fun hb45 hm => ?_)
 refine C.seq (U.start ?_)
 refine U.pd 1 T (C.nx (C.ret (C.brt (C.rt (C.rt (C.brt (C.rt ?_)))))))
 exact C.f1 T hβ ⟨false, hm, rfl, rfl, rfl⟩
 refine C.skip (C.bnx (C.nx (U.start ?_)))
 refine U.pd 3 T (C.nx ?_)
 exact St.wk (C.next hm) (Wk.a [some 0])
 refine U.start ?_
 refine U.ps 2 T rfl ?_
 obtain ⟨x43, hx43, hm⟩ := hm
 refine U.r rfl (.none rfl) rfl rfl (by exact Rd.io T rfl rfl rfl rfl rfl rfl rfl hx43) ?_
 refine U.r rfl (.none rfl) rfl rfl (by exact Rd.le T rfl rfl rfl (idx_some hx43).2.2 rfl rfl rfl) ?_
 refine U.ps 2 T rfl ?_
 refine hm.cs (fun hb44 hm => ?_) (fun hb44 hm => ?_)
 refine U.sks 5 5 false 71 hb44 rfl rfl rfl ?_
 refine U.pk hb44 ?_
 refine U.done ?_
 exact St.wa [some 0] (hJ42 _ hm)
 refine U.pg 2 5 false 71 hb44 T rfl rfl rfl rfl ?_
 refine U.r rfl (.take 5 false 71 _ hb44 rfl rfl rfl) rfl rfl (by exact Rd.io T rfl rfl rfl rfl rfl rfl rfl hx43) ?_
 refine U.r rfl (.take 5 false 71 _ hb44 rfl rfl rfl) rfl rfl (by exact Rd.le T rfl rfl rfl (idx_some hx43).2.2 rfl rfl rfl) ?_
 refine U.pg 1 5 false 71 hb44 T rfl rfl rfl rfl ?_
 refine U.pk' hb44 ?_
 refine U.done ?_
 exact St.wa [some 0] (hJ42 _ hm)
 refine C.exit (C.ex (C.ex (C.bex ?_)))
 exact St.wk (hJ35 _ hm) (Wk.mk' [] rfl rfl trivial trivial rfl)
 refine C.block ?_
 refine St.wk (C.loop (fun (s21 : List Int × Int) => [(1, .p 0 0), (3, .o 1), (4, .i s21.2)]) (fun (s21 : List Int × Int) => [(0, .box (eApiState st)), (1, .val (.os 1 eI s21.1))]) hm (fun s21 Y22 hm => ?_)) (Wk.a [some 0, some 4])
 refine C.seq (C.seq (U.start ?_))
 refine U.pd 5 T (C.nx ?_)
 refine C.ite rfl hm (fun hb25 hm => ?_) (fun hb25 hm => ?_)
 refine C.skip (C.nx (C.seq (C.block (U.start ?_))))
 refine U.ps 4 T rfl ?_
 obtain ⟨x28, hx28, hm⟩ := hm
 refine U.r rfl (.none rfl) rfl rfl (by exact Rd.ix T rfl rfl rfl rfl rfl rfl hx28) ?_
 refine U.ps 2 T rfl ?_
 refine U.e1 rfl (.none rfl) (by exact Eff1.bs T (enc := eI) (xs := ([x28.Cell] : List Int)) rfl rfl rfl rfl rfl rfl rfl rfl rfl rfl (fun _ _ => rfl) rfl rfl) ?_
 obtain ⟨hx29, hm⟩ := hm
 refine U.e1 rfl (.none rfl) (by exact Eff1.ap T rfl rfl rfl rfl rfl rfl (.inr ⟨_, rfl, rfl⟩) rfl rfl rfl (fun _ => rfl) rfl hx29) ?_
 refine U.pd 1 T (C.bnx (C.nx (U.start ?_)))
 refine U.pd 3 T (C.nx ?_)
 exact St.wk (C.next hm) (Wk.a [some 0, some 3])
 refine C.exit (C.ex (C.ex (C.bex ?_)))
 exact St.wa [some 1] (hJ20 _ hm)
 refine U.start ?_
 refine U.ps 5 T rfl ?_
 refine hm.cs (fun hb5 hm => ?_) (fun hb5 hm => ?_)
 refine U.sks 4 4 false 10 hb5 rfl rfl rfl ?_
 refine U.pk hb5 ?_
 refine U.ps 1 T rfl ?_
 refine U.sks 4 10 false 16 rfl rfl rfl rfl ?_
 refine U.pk rfl ?_
 refine U.ps 1 T rfl ?_
 refine U.sks 4 16 false 22 rfl rfl rfl rfl ?_
 refine U.pk rfl ?_
 refine U.ps 1 T rfl ?_
 refine U.sks 4 22 false 28 rfl rfl rfl rfl ?_
 refine U.pk rfl ?_
 refine U.done ?_
 exact St.wa [some 0] (hJ4 _ hm)
 refine U.pg 4 4 false 10 hb5 T rfl rfl rfl rfl ?_
 refine U.pk' hb5 ?_
 refine U.ps 1 T rfl ?_
 refine hm.cs (fun hb6 hm => ?_) (fun hb6 hm => ?_)
 refine U.sks 4 10 false 16 hb6 rfl rfl rfl ?_
 refine U.pk hb6 ?_
 refine U.ps 1 T rfl ?_
 refine U.sks 4 16 false 22 rfl rfl rfl rfl ?_
 refine U.pk rfl ?_
 refine U.ps 1 T rfl ?_
 refine U.sks 4 22 false 28 rfl rfl rfl rfl ?_
 refine U.pk rfl ?_
 refine U.done ?_
 exact St.wa [some 0] (hJ4 _ hm)
 refine U.pg 4 10 false 16 hb6 T rfl rfl rfl rfl ?_
 refine U.pk' hb6 ?_
 refine U.ps 1 T rfl ?_
 refine hm.cs (fun hb7 hm => ?_) (fun hb7 hm => ?_)
 refine U.sks 4 16 false 22 hb7 rfl rfl rfl ?_
 refine U.pk hb7 ?_
 refine U.ps 1 T rfl ?_
 refine U.sks 4 22 false 28 rfl rfl rfl rfl ?_
 refine U.pk rfl ?_
 refine U.done ?_
 exact St.wa [some 0] (hJ4 _ hm)
 refine U.pg 4 16 false 22 hb7 T rfl rfl rfl rfl ?_
 refine U.pk' hb7 ?_
 refine U.ps 1 T rfl ?_
 refine hm.cs (fun hb8 hm => ?_) (fun hb8 hm => ?_)
 refine U.sks 4 22 false 28 hb8 rfl rfl rfl ?_
 refine U.pk hb8 ?_
 refine U.done ?_
 exact St.wa [some 0] (hJ4 _ hm)
 refine U.pg 4 22 false 28 hb8 T rfl rfl rfl rfl ?_
 refine U.pk' hb8 ?_
 refine U.done ?_
 exact St.wa [some 0] (hJ4 _ hm)
theorem T_floor_Right (f : ApiFloor) (post : Bool → Prop) (hm : V_floor_Right f post) :
    Tr Tryz.prog 30 [.agg (eApiFloor f)] [] 0 (fun A H' k => ∃ y, post y ∧ A = (.b y) ∧ H' = [] ∧ k = 0) := by
 refine Tr.intro (n := 76) Tryz.func30 rfl Tryz.ntmps30 rfl (fun w0 ok F β hβ => ?_)
 unfold V_floor_Right at hm
 refine C.seq (U.start ?_)
 refine U.bx ?_
 refine U.pd 1 T (C.nx (C.seq (C.seq ?_)))
 refine C.jn (fun (x3 : Bool) => [(1, .p 0 0), (26, .b x3)]) (fun (x3 : Bool) => [(0, .box (eApiFloor f))]) 1 hm (fun x3 hm => ?_) (fun J4 hm hJ4 => ?_)
 refine C.nx ?_
 refine C.ite rfl hm (fun hb7 hm => ?_) (fun hb7 hm => ?_)
 refine C.seq (U.start ?_)
 refine U.pd 1 T (C.nx (C.ret (C.rt ?_)))
 exact C.f1 T hβ ⟨false, hm, rfl, rfl, rfl⟩
 refine C.skip (C.nx (C.seq (U.start ?_)))
 refine U.ps 1 T rfl ?_
 refine U.k (T_floor_size f _ hm) en72 (fun x12 hm => ?_)
 refine U.pd 1 T (C.nx (C.seq (C.seq ?_)))
 refine C.jn (fun (x13 : Bool) => [(1, .p 0 0), (44, .b x13)]) (fun (x13 : Bool) => [(0, .box (eApiFloor f))]) 1 hm (fun x13 hm => ?_) (fun J14 hm hJ14 => ?_)
 refine C.nx ?_
 refine C.ite rfl hm (fun hb17 hm => ?_) (fun hb17 hm => ?_)
 refine C.seq (U.start ?_)
 refine U.pd 1 T (C.nx (C.ret (C.rt ?_)))
 exact C.f1 T hβ ⟨false, hm, rfl, rfl, rfl⟩
 refine C.skip (C.nx (C.seq (C.seq (U.start ?_))))
 refine U.pd 4 T (C.nx ?_)
 refine C.jn (fun (x22 : Unit) => []) (fun (x22 : Unit) => []) 0 hm (fun x22 hm => ?_) (fun J23 hm hJ23 => ?_)
 refine C.nx (C.seq (U.start ?_))
 refine U.pd 1 T (C.nx (C.ret ?_))
 exact C.f1 T hβ ⟨true, hm, rfl, rfl, rfl⟩
 refine C.block ?_
 refine St.wk (C.loop (fun (s24 : Int) => [(1, .p 0 0), (46, .sl 1 eI f.Kind), (47, .i (f.Kind.length : Int)), (48, .i s24)]) (fun (s24 : Int) => [(0, .box (eApiFloor f))]) hm (fun s24 Y25 hm => ?_)) (Wk.a [some 0])
 refine C.seq (U.start ?_)
 refine U.pd 1 T (C.nx (C.seq ?_))
 refine C.ite rfl hm (fun hb28 hm => ?_) (fun hb28 hm => ?_)
 refine C.skip (C.nx (C.seq (C.block (C.seq (U.start ?_)))))
 refine U.ps 1 T rfl ?_
 obtain ⟨x31, hx31, hm⟩ := hm
 refine U.r rfl (.none rfl) rfl rfl (by exact Rd.ix T rfl rfl rfl rfl rfl rfl hx31) ?_
 refine U.pd 3 T (C.nx (C.seq ?_))
 refine C.jn (fun (x32 : Bool) => [(1, .p 0 0), (46, .sl 1 eI f.Kind), (47, .i (f.Kind.length : Int)), (48, .i s24), (74, .b x32)]) (fun (x32 : Bool) => [(0, .box (eApiFloor f))]) 1 hm (fun x32 hm => ?_) (fun J33 hm hJ33 => ?_)
 refine C.nx ?_
 refine C.ite rfl hm (fun hb38 hm => ?_) (fun hb38 hm => ?_)
 refine C.seq (U.start ?_)
 refine U.pd 1 T (C.nx (C.ret (C.brt (C.rt (C.rt (C.brt (C.rt ?_)))))))
 exact C.f1 T hβ ⟨false, hm, rfl, rfl, rfl⟩
 refine C.skip (C.bnx (C.nx (U.start ?_)))
 refine U.pd 2 T (C.nx ?_)
 exact St.wk (C.next hm) (Wk.a [some 0])
 refine U.start ?_
 refine U.ps 3 T rfl ?_
 refine hm.cs (fun hb34 hm => ?_) (fun hb34 hm => ?_)
 refine U.sks 2 2 false 55 hb34 rfl rfl rfl ?_
 refine U.pk hb34 ?_
 refine U.ps 1 T rfl ?_
 refine U.sks 6 6 false 59 rfl rfl rfl rfl ?_
 refine U.pk rfl ?_
 refine U.ps 1 T rfl ?_
 refine U.sks 6 14 false 67 rfl rfl rfl rfl ?_
 refine U.pk rfl ?_
 refine U.done ?_
 exact St.wa [some 0] (hJ33 _ hm)
 refine U.pg 2 2 false 55 hb34 T rfl rfl rfl rfl ?_
 refine U.pk' hb34 ?_
 refine U.ps 1 T rfl ?_
 refine hm.cs (fun hb35 hm => ?_) (fun hb35 hm => ?_)
 refine U.sks 6 6 false 59 hb35 rfl rfl rfl ?_
 refine U.pk hb35 ?_
 refine U.ps 1 T rfl ?_
 refine U.sks 6 14 false 67 rfl rfl rfl rfl ?_
 refine U.pk rfl ?_
 refine U.done ?_
 exact St.wa [some 0] (hJ33 _ hm)
 refine U.pg 3 6 false 59 hb35 T rfl rfl rfl rfl ?_
 obtain ⟨x36, hx36, hm⟩ := hm
 refine U.r rfl (.take 6 false 59 _ hb35 rfl rfl rfl) rfl rfl (by exact Rd.ix T rfl rfl rfl rfl rfl rfl hx36) ?_
 refine U.pg 2 6 false 59 hb35 T rfl rfl rfl rfl ?_
 refine U.pk' hb35 ?_
 refine U.ps 1 T rfl ?_
 refine hm.cs (fun hb37 hm => ?_) (fun hb37 hm => ?_)
 refine U.sks 6 14 false 67 hb37 rfl rfl rfl ?_
 refine U.pk hb37 ?_
 refine U.done ?_
 exact St.wa [some 0] (hJ33 _ hm)
 refine U.pg 3 14 false 67 hb37 T rfl rfl rfl rfl ?_
 refine U.r rfl (.take 14 false 67 _ hb37 rfl rfl rfl) rfl rfl (by exact Rd.ix T rfl rfl rfl rfl rfl rfl hx36) ?_
 refine U.pg 2 14 false 67 hb37 T rfl rfl rfl rfl ?_
 refine U.pk' hb37 ?_
 refine U.done ?_
 exact St.wa [some 0] (hJ33 _ hm)
 refine C.exit (C.ex (C.ex (C.bex ?_)))
 exact St.wk (hJ23 _ hm) (Wk.mk' [] rfl rfl trivial trivial rfl)
 refine U.start ?_
 refine U.ps 3 T rfl ?_
 refine hm.cs (fun hb15 hm => ?_) (fun hb15 hm => ?_)
 refine U.sks 5 2 false 31 hb15 rfl rfl rfl ?_
 refine U.pk hb15 ?_
 refine U.ps 1 T rfl ?_
 refine U.sks 5 9 false 38 rfl rfl rfl rfl ?_
 refine U.pk rfl ?_
 refine U.done ?_
 exact St.wa [some 0] (hJ14 _ hm)
 refine U.pg 5 2 false 31 hb15 T rfl rfl rfl rfl ?_
 refine U.pk' hb15 ?_
 refine U.ps 1 T rfl ?_
 refine hm.cs (fun hb16 hm => ?_) (fun hb16 hm => ?_)
 refine U.sks 5 9 false 38 hb16 rfl rfl rfl ?_
 refine U.pk hb16 ?_
 refine U.done ?_
 exact St.wa [some 0] (hJ14 _ hm)
 refine U.pg 5 9 false 38 hb16 T rfl rfl rfl rfl ?_
 refine U.pk' hb16 ?_
 refine U.done ?_
 exact St.wa [some 0] (hJ14 _ hm)
 refine U.start ?_
 refine U.ps 9 T rfl ?_
 refine hm.cs (fun hb5 hm => ?_) (fun hb5 hm => ?_)
 refine U.sks 3 8 false 14 hb5 rfl rfl rfl ?_
 refine U.pk hb5 ?_
 refine U.ps 1 T rfl ?_
 refine U.sks 6 13 false 19 rfl rfl rfl rfl ?_
 refine U.pk rfl ?_
 refine U.done ?_
 exact St.wa [some 0] (hJ4 _ hm)
 refine U.pg 3 8 false 14 hb5 T rfl rfl rfl rfl ?_
 refine U.pk' hb5 ?_
 refine U.ps 1 T rfl ?_
 refine hm.cs (fun hb6 hm => ?_) (fun hb6 hm => ?_)
 refine U.sks 6 13 false 19 hb6 rfl rfl rfl ?_
 refine U.pk hb6 ?_
 refine U.done ?_
 exact St.wa [some 0] (hJ4 _ hm)
 refine U.pg 6 13 false 19 hb6 T rfl rfl rfl rfl ?_
 refine U.pk' hb6 ?_
 refine U.done ?_
 exact St.wa [some 0] (hJ4 _ hm)
theorem T_survey_newMaker (f : ApiFloor) (post : SurveyMaker → Prop) (hm : V_survey_newMaker f post) :
    Tr Tryz.prog 31 [.agg (eApiFloor f)] [] 0 (fun A H' k => ∃ y, post y ∧ A = (.p 11 0) ∧ H' = [(0, .val (.os 5 eApiZone y.site.Zones)), (1, .val (.os 2 eApiApart y.site.Aparts)), (2, .val (.os 2 eApiShelf y.site.Shelves)), (3, .val (.os 2 eApiStart y.site.Robots)), (4, .val (.om kI veI y.shelf)), (5, .val (.om kI veB y.robot)), (6, .val (.om kI veB y.zoned)), (7, .val (.om kS veI y.names)), (8, .val (.om kI veB y.oneways)), (9, .val (.os 1 eI y.shelves)), (10, .val (.os 1 eI y.zones)), (11, .box [.i y.site.Floor.W, .i y.site.Floor.H, .i y.site.Floor.D, .sl 1 eI y.site.Floor.Kind, .sl 1 eI y.site.Floor.Out, .o 0, .o 1, .o 2, .o 3, .o 4, .o 5, .o 6, .o 7, .o 8, .o 9, .o 10])] ∧ k = 12) := by
 refine Tr.intro (n := 12) Tryz.func31 rfl Tryz.ntmps31 rfl (fun w0 ok F β hβ => ?_)
 unfold V_survey_newMaker at hm
 refine C.seq (U.start ?_)
 refine U.bx ?_
 refine U.pd 1 T (C.nx (C.seq (U.start ?_)))
 refine U.ps 2 T rfl ?_
 refine U.e1 rfl (.none rfl) (by exact Eff1.mm kI veI rfl rfl rfl) ?_
 refine U.e1 rfl (.none rfl) (by exact Eff1.mm kI veB rfl rfl rfl) ?_
 refine U.e1 rfl (.none rfl) (by exact Eff1.mm kI veB rfl rfl rfl) ?_
 refine U.e1 rfl (.none rfl) (by exact Eff1.mm kS veI rfl rfl rfl) ?_
 refine U.e1 rfl (.none rfl) (by exact Eff1.mm kI veB rfl rfl rfl) ?_
 refine U.ps 1 T rfl ?_
 refine U.bx ?_
 refine U.pd 1 T (C.nx (C.ret ?_))
 exact C.g1 [none, none, none, none, some 1, some 2, some 3, some 4, some 5, none, none, some 6] T hβ ⟨({ site := ({ Floor := f, Zones := [], Aparts := [], Shelves := [], Robots := [] : ApiSite }), shelf := ([] : List (Int × Int)), robot := ([] : List (Int × Bool)), zoned := ([] : List (Int × Bool)), names := ([] : List (ByteArray × Int)), oneways := ([] : List (Int × Bool)), shelves := [], zones := [] : SurveyMaker }), hm, rfl, rfl, rfl⟩
def ibR73 : Go.Shelf.Ren := ⟨fun | 137 => 73 | 217 => 121 | 266 => 152 | n => n, fun | 3 => 3 | 5 => 5 | 9 => 9 | n => n, fun n => n⟩
theorem ibL73 : Go.Proofs.Lays.n137 Tryz.prog ibR73 where
  mixed := by kernel_rfl
  f137 := Tryz.func73.trans (congrArg some (by kernel_rfl))
  f217 := Tryz.func121.trans (congrArg some (by kernel_rfl))
  f266 := Tryz.func152.trans (congrArg some (by kernel_rfl))
  t3 := Tryz.underlying3
  a3 := Tryz.isAgg3
  z3 := Tryz.sizeOf3
  v3 := Tryz.zeroValue3
  t5 := Tryz.underlying5
  a5 := Tryz.isAgg5
  z5 := Tryz.sizeOf5
  v5 := Tryz.zeroValue5
  t9 := Tryz.underlying9
  a9 := Tryz.isAgg9
  z9 := Tryz.sizeOf9
  v9 := Tryz.zeroValue9
theorem T_strings_IndexByte (s_1 : ByteArray) (c : Int) (post : Int → Prop) (hm : V_strings_IndexByte s_1 c post) :
    Tr Tryz.prog 73 [.v (.string s_1), .v (.int .u8 c)] [] 0 (fun A H' k => ∃ y, post y ∧ A = (.i y) ∧ H' = [] ∧ k = 0) := Tr.indexByte ibL73 s_1 c hm
theorem T_survey_Name (s_1 : ByteArray) (post : Bool → Prop) (hm : V_survey_Name s_1 post) :
    Tr Tryz.prog 32 [.v (.string s_1)] [] 0 (fun A H' k => ∃ y, post y ∧ A = (.b y) ∧ H' = [] ∧ k = 0) := by
 refine Tr.intro (n := 33) Tryz.func32 rfl Tryz.ntmps32 rfl (fun w0 ok F β hβ => ?_)
 unfold V_survey_Name at hm
 refine C.seq (U.start ?_)
 refine U.pd 1 T (C.nx (C.seq (C.seq ?_)))
 refine C.jn (fun (x3 : Bool) => [(0, .v (.string s_1)), (21, .b x3)]) (fun (x3 : Bool) => []) 0 hm (fun x3 hm => ?_) (fun J4 hm hJ4 => ?_)
 refine C.nx ?_
 refine C.ite rfl hm (fun hb9 hm => ?_) (fun hb9 hm => ?_)
 refine C.seq (U.start ?_)
 refine U.pd 1 T (C.nx (C.ret (C.rt ?_)))
 exact C.f1 T hβ ⟨false, hm, rfl, rfl, rfl⟩
 refine C.skip (C.nx (C.seq (C.seq (U.start ?_))))
 refine U.pd 3 T (C.nx ?_)
 refine C.jn (fun (x14 : Unit) => []) (fun (x14 : Unit) => []) 0 hm (fun x14 hm => ?_) (fun J15 hm hJ15 => ?_)
 refine C.nx (C.seq (U.start ?_))
 refine U.pd 1 T (C.nx (C.ret ?_))
 exact C.f1 T hβ ⟨true, hm, rfl, rfl, rfl⟩
 refine C.block ?_
 refine St.wk (C.loop (fun (s16 : Int) => [(0, .v (.string s_1)), (23, .i (s_1.size : Int)), (24, .i s16)]) (fun (s16 : Int) => []) hm (fun s16 Y17 hm => ?_)) (Wk.e)
 refine C.seq (U.start ?_)
 refine U.pd 1 T (C.nx (C.seq ?_))
 refine C.ite rfl hm (fun hb20 hm => ?_) (fun hb20 hm => ?_)
 refine C.skip (C.nx (C.seq (C.block (C.seq (U.start ?_)))))
 refine U.pd 2 T (C.nx (C.seq (U.start ?_)))
 refine U.ps 2 T rfl ?_
 obtain ⟨x25, hx25, hm⟩ := hm
 refine U.r rfl (.none rfl) rfl rfl (by exact Rd.ib T rfl rfl rfl rfl hx25) ?_
 refine U.k (T_strings_IndexByte (ByteArray.mk #[97, 98, 99, 100, 101, 102, 103, 104, 105, 106, 107, 108, 109, 110, 111, 112, 113, 114, 115, 116, 117, 118, 119, 120, 121, 122, 65, 66, 67, 68, 69, 70, 71, 72, 73, 74, 75, 76, 77, 78, 79, 80, 81, 82, 83, 84, 85, 86, 87, 88, 89, 90, 48, 49, 50, 51, 52, 53, 54, 55, 56, 57, 95, 45]) (x25.toNat : Int) _ hm) en73 (fun x26 hm => ?_)
 refine U.pd 1 T (C.nx ?_)
 refine C.ite rfl hm (fun hb27 hm => ?_) (fun hb27 hm => ?_)
 refine C.seq (U.start ?_)
 refine U.pd 1 T (C.nx (C.ret (C.brt (C.rt (C.rt (C.brt (C.rt ?_)))))))
 exact C.f1 T hβ ⟨false, hm, rfl, rfl, rfl⟩
 refine C.skip (C.bnx (C.nx (U.start ?_)))
 refine U.pd 2 T (C.nx ?_)
 exact St.wk (C.next hm) (Wk.e)
 refine C.exit (C.ex (C.ex (C.bex ?_)))
 exact St.wk (hJ15 _ hm) (Wk.mk' [] rfl rfl trivial trivial rfl)
 refine U.start ?_
 refine U.ps 4 T rfl ?_
 refine hm.cs (fun hb5 hm => ?_) (fun hb5 hm => ?_)
 refine U.sks 3 3 false 7 hb5 rfl rfl rfl ?_
 refine U.pk hb5 ?_
 refine U.ps 1 T rfl ?_
 refine U.sks 4 8 false 12 rfl rfl rfl rfl ?_
 refine U.sku 3 12 true 16 rfl rfl rfl ?_
 refine U.sks 1 8 false 12 rfl rfl rfl rfl ?_
 refine U.pk rfl ?_
 refine U.done ?_
 exact St.wn (hJ4 _ hm)
 refine U.pg 3 3 false 7 hb5 T rfl rfl rfl rfl ?_
 refine U.pk' hb5 ?_
 refine U.ps 1 T rfl ?_
 refine hm.cs (fun hb6 hm => ?_) (fun hb6 hm => ?_)
 refine U.sks 4 8 false 12 hb6 rfl rfl rfl ?_
 refine U.sku 3 12 true 16 rfl rfl rfl ?_
 refine U.sks 1 8 false 12 hb6 rfl rfl rfl ?_
 refine U.pk hb6 ?_
 refine U.done ?_
 exact St.wn (hJ4 _ hm)
 refine U.pg 1 8 false 12 hb6 T rfl rfl rfl rfl ?_
 obtain ⟨x7, hx7, hm⟩ := hm
 refine U.r rfl (.take 8 false 12 _ hb6 rfl rfl rfl) rfl rfl (by exact Rd.ib T rfl rfl rfl rfl hx7) ?_
 refine U.pg 2 8 false 12 hb6 T rfl rfl rfl rfl ?_
 refine hm.cs (fun hb8 hm => ?_) (fun hb8 hm => ?_)
 refine U.pg 1 12 true 16 hb8 T rfl rfl rfl rfl ?_
 refine U.r rfl (.take 12 true 16 _ hb8 rfl rfl rfl) rfl rfl (by exact Rd.ib T rfl rfl rfl rfl hx7) ?_
 refine U.pg 1 12 true 16 hb8 T rfl rfl rfl rfl ?_
 refine U.r rfl (.take 8 false 12 _ hb6 rfl rfl rfl) rfl rfl (by exact Rd.pk rfl rfl hb8 rfl) ?_
 refine U.pk' hb6 ?_
 refine U.done ?_
 exact St.wn (hJ4 _ hm)
 refine U.sks 3 12 true 16 hb8 rfl rfl rfl ?_
 refine U.r rfl (.take 8 false 12 _ hb6 rfl rfl rfl) rfl rfl (by exact Rd.pk' rfl rfl hb8 rfl) ?_
 refine U.pk' hb6 ?_
 refine U.done ?_
 exact St.wn (hJ4 _ hm)
theorem T_survey_within (n : Int) (from_1 : Int) (to_1 : Int) (post : Bool → Prop) (hm : V_survey_within n from_1 to_1 post) :
    Tr Tryz.prog 33 [.i n, .i from_1, .i to_1] [] 0 (fun A H' k => ∃ y, post y ∧ A = (.b y) ∧ H' = [] ∧ k = 0) := by
 refine Tr.intro (n := 15) Tryz.func33 rfl Tryz.ntmps33 rfl (fun w0 ok F β hβ => ?_)
 unfold V_survey_within at hm
 refine C.seq (U.start ?_)
 refine U.pd 1 T (C.nx (C.seq ?_))
 refine C.jn (fun (x3 : Bool) => [(6, .b x3)]) (fun (x3 : Bool) => []) 0 hm (fun x3 hm => ?_) (fun J4 hm hJ4 => ?_)
 refine C.nx (C.ret ?_)
 exact C.f1 T hβ ⟨x3, hm, rfl, rfl, rfl⟩
 refine U.start ?_
 refine U.ps 4 T rfl ?_
 refine hm.cs (fun hb5 hm => ?_) (fun hb5 hm => ?_)
 refine U.pg 3 3 true 10 hb5 T rfl rfl rfl rfl ?_
 refine U.pk hb5 ?_
 refine U.pd 1 T ?_
 exact St.wn (hJ4 _ hm)
 refine U.sks 3 3 true 10 hb5 rfl rfl rfl ?_
 refine U.pk' hb5 ?_
 refine U.pd 1 T ?_
 exact St.wn (hJ4 _ hm)
theorem T_survey_shut (l : List ApiSpan) (post : Bool → Prop) (hm : V_survey_shut l post) :
    Tr Tryz.prog 34 [.sl 2 eApiSpan l] [] 0 (fun A H' k => ∃ y, post y ∧ A = (.b y) ∧ H' = [] ∧ k = 0) := by
 refine Tr.intro (n := 31) Tryz.func34 rfl Tryz.ntmps34 rfl (fun w0 ok F β hβ => ?_)
 unfold V_survey_shut at hm
 refine C.seq (U.start ?_)
 refine U.pd 1 T (C.nx (C.seq (U.start ?_)))
 refine U.pd 1 T (C.nx (C.seq (C.seq (U.start ?_))))
 refine U.pd 3 T (C.nx ?_)
 refine C.jn (fun (x7 : Unit) => []) (fun (x7 : Unit) => []) 0 hm (fun x7 hm => ?_) (fun J8 hm hJ8 => ?_)
 refine C.nx (C.seq (U.start ?_))
 refine U.pd 1 T (C.nx (C.ret ?_))
 exact C.f1 T hβ ⟨true, hm, rfl, rfl, rfl⟩
 refine C.block ?_
 refine St.wk (C.loop (fun (s9 : Int × Int) => [(3, .i s9.1), (6, .sl 2 eApiSpan l), (7, .i (l.length : Int)), (8, .i s9.2)]) (fun (s9 : Int × Int) => []) hm (fun s9 Y10 hm => ?_)) (Wk.e)
 refine C.seq (U.start ?_)
 refine U.pd 1 T (C.nx (C.seq ?_))
 refine C.ite rfl hm (fun hb13 hm => ?_) (fun hb13 hm => ?_)
 refine C.skip (C.nx (C.seq (C.block (C.seq (U.start ?_)))))
 obtain ⟨x16, hx16, hm⟩ := hm
 refine U.r rfl (.none rfl) rfl rfl (by exact Rd.ix T rfl rfl rfl rfl rfl rfl hx16) ?_
 refine U.ps 1 T rfl ?_
 refine U.e1 rfl (.none rfl) (by exact Eff1.al T rfl rfl rfl rfl) ?_
 refine U.e1 rfl (.none rfl) (by exact Eff1.st T rfl rfl rfl rfl rfl rfl rfl rfl rfl rfl) ?_
 refine U.done (C.nx (C.seq (C.seq ?_)))
 refine C.jn (fun (x17 : Bool) => [(5, .p 0 0), (6, .sl 2 eApiSpan l), (7, .i (l.length : Int)), (8, .i s9.2), (27, .b x17)]) (fun (x17 : Bool) => [(0, .box [.i x16.From, .i x16.To])]) 1 hm (fun x17 hm => ?_) (fun J18 hm hJ18 => ?_)
 refine C.nx ?_
 refine C.ite rfl hm (fun hb21 hm => ?_) (fun hb21 hm => ?_)
 refine C.seq (U.start ?_)
 refine U.pd 1 T (C.nx (C.ret (C.rt (C.brt (C.rt (C.rt (C.brt (C.rt ?_))))))))
 exact C.f1 T hβ ⟨false, hm, rfl, rfl, rfl⟩
 refine C.skip (C.nx (U.start ?_))
 refine U.pd 3 T (C.bnx (C.nx (U.start ?_)))
 refine U.pd 2 T (C.nx ?_)
 exact St.wk (C.next hm) (Wk.e)
 refine U.start ?_
 refine U.ps 5 T rfl ?_
 refine hm.cs (fun hb19 hm => ?_) (fun hb19 hm => ?_)
 refine U.sks 5 4 false 16 hb19 rfl rfl rfl ?_
 refine U.pk hb19 ?_
 refine U.ps 1 T rfl ?_
 refine U.sks 3 11 false 23 rfl rfl rfl rfl ?_
 refine U.pk rfl ?_
 refine U.done ?_
 exact St.wa [some 0] (hJ18 _ hm)
 refine U.pg 5 4 false 16 hb19 T rfl rfl rfl rfl ?_
 refine U.pk' hb19 ?_
 refine U.ps 1 T rfl ?_
 refine hm.cs (fun hb20 hm => ?_) (fun hb20 hm => ?_)
 refine U.sks 3 11 false 23 hb20 rfl rfl rfl ?_
 refine U.pk hb20 ?_
 refine U.done ?_
 exact St.wa [some 0] (hJ18 _ hm)
 refine U.pg 3 11 false 23 hb20 T rfl rfl rfl rfl ?_
 refine U.pk' hb20 ?_
 refine U.done ?_
 exact St.wa [some 0] (hJ18 _ hm)
 refine C.exit (C.ex (C.ex (C.bex ?_)))
 exact St.wk (hJ8 _ hm) (Wk.mk' [] rfl rfl trivial trivial rfl)
theorem T_survey_maker_kindAt (m : SurveyMaker) (c : Int) (post : (Int × Bool) → Prop) (hm : V_survey_maker_kindAt m c post) :
    Tr Tryz.prog 74 [.rp [.i m.site.Floor.W, .i m.site.Floor.H, .i m.site.Floor.D, .sl 1 eI m.site.Floor.Kind, .sl 1 eI m.site.Floor.Out, .sl 5 eApiZone m.site.Zones, .sl 2 eApiApart m.site.Aparts, .sl 2 eApiShelf m.site.Shelves, .sl 2 eApiStart m.site.Robots, .rm kI veI m.shelf, .rm kI veB m.robot, .rm kI veB m.zoned, .rm kS veI m.names, .rm kI veB m.oneways, .sl 1 eI m.shelves, .sl 1 eI m.zones], .i c] [] 0 (fun A H' k => ∃ y, post y ∧ A = (.tup [.i y.1, .b y.2]) ∧ H' = [] ∧ k = 0) := by
 refine Tr.intro (n := 28) Tryz.func74 rfl Tryz.ntmps74 rfl (fun w0 ok F β hβ => ?_)
 unfold V_survey_maker_kindAt at hm
 refine C.seq (U.start ?_)
 refine U.pd 2 T (C.nx (C.seq (C.seq ?_)))
 refine C.jn (fun (x3 : Bool) => [(0, .rp [.i m.site.Floor.W, .i m.site.Floor.H, .i m.site.Floor.D, .sl 1 eI m.site.Floor.Kind, .sl 1 eI m.site.Floor.Out, .sl 5 eApiZone m.site.Zones, .sl 2 eApiApart m.site.Aparts, .sl 2 eApiShelf m.site.Shelves, .sl 2 eApiStart m.site.Robots, .rm kI veI m.shelf, .rm kI veB m.robot, .rm kI veB m.zoned, .rm kS veI m.names, .rm kI veB m.oneways, .sl 1 eI m.shelves, .sl 1 eI m.zones]), (1, .i c), (18, .b x3)]) (fun (x3 : Bool) => []) 0 hm (fun x3 hm => ?_) (fun J4 hm hJ4 => ?_)
 refine C.nx ?_
 refine C.ite rfl hm (fun hb6 hm => ?_) (fun hb6 hm => ?_)
 refine C.seq (U.start ?_)
 refine U.pd 2 T (C.nx (C.ret (C.rt ?_)))
 exact C.f9 T hβ ⟨(0, false), hm, rfl, rfl, rfl⟩
 refine C.skip (C.nx (C.seq (U.start ?_)))
 refine U.ps 7 T rfl ?_
 obtain ⟨x11, hx11, hm⟩ := hm
 refine U.r rfl (.none rfl) rfl rfl (by exact Rd.ix T rfl rfl rfl rfl rfl rfl hx11) ?_
 refine U.pd 3 T (C.nx (C.ret ?_))
 exact C.f9 T hβ ⟨(x11, true), hm, rfl, rfl, rfl⟩
 refine U.start ?_
 refine U.ps 3 T rfl ?_
 refine hm.cs (fun hb5 hm => ?_) (fun hb5 hm => ?_)
 refine U.sks 9 2 false 8 hb5 rfl rfl rfl ?_
 refine U.pk hb5 ?_
 refine U.done ?_
 exact St.wn (hJ4 _ hm)
 refine U.pg 9 2 false 8 hb5 T rfl rfl rfl rfl ?_
 refine U.pk' hb5 ?_
 refine U.done ?_
 exact St.wn (hJ4 _ hm)
theorem T_survey_maker_cells (m : SurveyMaker) (l : List Int) (post : Bool → Prop) (hm : V_survey_maker_cells m l post) :
    Tr Tryz.prog 35 [.rp [.i m.site.Floor.W, .i m.site.Floor.H, .i m.site.Floor.D, .sl 1 eI m.site.Floor.Kind, .sl 1 eI m.site.Floor.Out, .sl 5 eApiZone m.site.Zones, .sl 2 eApiApart m.site.Aparts, .sl 2 eApiShelf m.site.Shelves, .sl 2 eApiStart m.site.Robots, .rm kI veI m.shelf, .rm kI veB m.robot, .rm kI veB m.zoned, .rm kS veI m.names, .rm kI veB m.oneways, .sl 1 eI m.shelves, .sl 1 eI m.zones], .sl 1 eI l] [] 0 (fun A H' k => ∃ y, post y ∧ A = (.b y) ∧ H' = [] ∧ k = 0) := by
 refine Tr.intro (n := 41) Tryz.func35 rfl Tryz.ntmps35 rfl (fun w0 ok F β hβ => ?_)
 unfold V_survey_maker_cells at hm
 refine C.seq (U.start ?_)
 refine U.pd 1 T (C.nx (C.seq (C.seq (U.start ?_))))
 refine U.pd 3 T (C.nx ?_)
 refine C.jn (fun (x5 : Unit) => [(1, .sl 1 eI l)]) (fun (x5 : Unit) => []) 0 hm (fun x5 hm => ?_) (fun J6 hm hJ6 => ?_)
 refine C.nx (C.seq (U.start ?_))
 refine U.pd 4 T (C.nx (C.ret ?_))
 exact C.f1 T hβ ⟨decide ((l.length : Int) > 0), hm, rfl, rfl, rfl⟩
 refine C.block ?_
 refine St.wk (C.loop (fun (s7 : Int) => [(0, .rp [.i m.site.Floor.W, .i m.site.Floor.H, .i m.site.Floor.D, .sl 1 eI m.site.Floor.Kind, .sl 1 eI m.site.Floor.Out, .sl 5 eApiZone m.site.Zones, .sl 2 eApiApart m.site.Aparts, .sl 2 eApiShelf m.site.Shelves, .sl 2 eApiStart m.site.Robots, .rm kI veI m.shelf, .rm kI veB m.robot, .rm kI veB m.zoned, .rm kS veI m.names, .rm kI veB m.oneways, .sl 1 eI m.shelves, .sl 1 eI m.zones]), (1, .sl 1 eI l), (9, .sl 1 eI l), (10, .i (l.length : Int)), (11, .i s7)]) (fun (s7 : Int) => []) hm (fun s7 Y8 hm => ?_)) (Wk.e)
 refine C.seq (U.start ?_)
 refine U.pd 1 T (C.nx (C.seq ?_))
 refine C.ite rfl hm (fun hb11 hm => ?_) (fun hb11 hm => ?_)
 refine C.skip (C.nx (C.seq (C.block (C.seq (U.start ?_)))))
 refine U.ps 1 T rfl ?_
 obtain ⟨x14, hx14, hm⟩ := hm
 refine U.r rfl (.none rfl) rfl rfl (by exact Rd.ix T rfl rfl rfl rfl rfl rfl hx14) ?_
 refine U.pd 3 T (C.nx (C.seq (U.start ?_)))
 refine U.ps 2 T rfl ?_
 refine U.k (T_survey_maker_kindAt m x14 _ hm) en74 (fun x17 hm => ?_)
 refine U.pd 5 T (C.nx (C.seq ?_))
 refine C.jn (fun (x18 : Bool) => [(0, .rp [.i m.site.Floor.W, .i m.site.Floor.H, .i m.site.Floor.D, .sl 1 eI m.site.Floor.Kind, .sl 1 eI m.site.Floor.Out, .sl 5 eApiZone m.site.Zones, .sl 2 eApiApart m.site.Aparts, .sl 2 eApiShelf m.site.Shelves, .sl 2 eApiStart m.site.Robots, .rm kI veI m.shelf, .rm kI veB m.robot, .rm kI veB m.zoned, .rm kS veI m.names, .rm kI veB m.oneways, .sl 1 eI m.shelves, .sl 1 eI m.zones]), (1, .sl 1 eI l), (9, .sl 1 eI l), (10, .i (l.length : Int)), (11, .i s7), (36, .b x18)]) (fun (x18 : Bool) => []) 0 hm (fun x18 hm => ?_) (fun J19 hm hJ19 => ?_)
 refine C.nx ?_
 refine C.ite rfl hm (fun hb23 hm => ?_) (fun hb23 hm => ?_)
 refine C.seq (U.start ?_)
 refine U.pd 1 T (C.nx (C.ret (C.brt (C.rt (C.rt (C.brt (C.rt ?_)))))))
 exact C.f1 T hβ ⟨false, hm, rfl, rfl, rfl⟩
 refine C.skip (C.bnx (C.nx (U.start ?_)))
 refine U.pd 2 T (C.nx ?_)
 exact St.wk (C.next hm) (Wk.e)
 refine U.start ?_
 refine U.ps 3 T rfl ?_
 refine hm.cs (fun hb20 hm => ?_) (fun hb20 hm => ?_)
 refine U.pg 3 2 false 24 (ntF hb20) T rfl rfl rfl rfl ?_
 refine hm.cs (fun hb21 hm => ?_) (fun hb21 hm => ?_)
 refine U.pg 3 5 true 27 hb21 T rfl rfl rfl rfl ?_
 obtain ⟨x22, hx22, hm⟩ := hm
 refine U.r rfl (.take 5 true 27 _ hb21 rfl rfl rfl) rfl rfl (by exact Rd.ix T rfl rfl rfl rfl rfl rfl hx22) ?_
 refine U.pg 3 5 true 27 hb21 T rfl rfl rfl rfl ?_
 refine U.r rfl (.take 2 false 24 _ (ntF hb20) rfl rfl rfl) rfl rfl (by exact Rd.pk rfl rfl hb21 rfl) ?_
 refine U.r rfl (.none rfl) rfl rfl (by exact Rd.pk' rfl rfl (ntF hb20) rfl) ?_
 refine U.done ?_
 exact St.wn (hJ19 _ hm)
 refine U.sks 7 5 true 27 hb21 rfl rfl rfl ?_
 refine U.r rfl (.take 2 false 24 _ (ntF hb20) rfl rfl rfl) rfl rfl (by exact Rd.pk' rfl rfl hb21 rfl) ?_
 refine U.r rfl (.none rfl) rfl rfl (by exact Rd.pk' rfl rfl (ntF hb20) rfl) ?_
 refine U.done ?_
 exact St.wn (hJ19 _ hm)
 refine U.sks 3 2 false 24 (ntT hb20) rfl rfl rfl ?_
 refine U.sku 7 5 true 27 rfl rfl rfl ?_
 refine U.sks 1 2 false 24 (ntT hb20) rfl rfl rfl ?_
 refine U.r rfl (.none rfl) rfl rfl (by exact Rd.pk rfl rfl (ntT hb20) rfl) ?_
 refine U.done ?_
 exact St.wn (hJ19 _ hm)
 refine C.exit (C.ex (C.ex (C.bex ?_)))
 exact St.wn (hJ6 _ hm)
theorem T_survey_zoned (kind : Int) (post : Bool → Prop) (hm : V_survey_zoned kind post) :
    Tr Tryz.prog 75 [.i kind] [] 0 (fun A H' k => ∃ y, post y ∧ A = (.b y) ∧ H' = [] ∧ k = 0) := by
 refine Tr.intro (n := 13) Tryz.func75 rfl Tryz.ntmps75 rfl (fun w0 ok F β hβ => ?_)
 unfold V_survey_zoned at hm
 refine C.seq (U.start ?_)
 refine U.pd 1 T (C.nx (C.seq ?_))
 refine C.jn (fun (x3 : Bool) => [(2, .b x3)]) (fun (x3 : Bool) => []) 0 hm (fun x3 hm => ?_) (fun J4 hm hJ4 => ?_)
 refine C.nx (C.ret ?_)
 exact C.f1 T hβ ⟨x3, hm, rfl, rfl, rfl⟩
 refine U.start ?_
 refine U.ps 3 T rfl ?_
 refine hm.cs (fun hb5 hm => ?_) (fun hb5 hm => ?_)
 refine U.pg 2 2 true 5 hb5 T rfl rfl rfl rfl ?_
 refine U.pk hb5 ?_
 refine U.ps 1 T rfl ?_
 refine hm.cs (fun hb6 hm => ?_) (fun hb6 hm => ?_)
 refine U.pg 2 6 true 9 hb6 T rfl rfl rfl rfl ?_
 refine U.pk hb6 ?_
 refine U.pd 1 T ?_
 exact St.wn (hJ4 _ hm)
 refine U.sks 2 6 true 9 hb6 rfl rfl rfl ?_
 refine U.pk' hb6 ?_
 refine U.pd 1 T ?_
 exact St.wn (hJ4 _ hm)
 refine U.sks 2 2 true 5 hb5 rfl rfl rfl ?_
 refine U.pk' hb5 ?_
 refine U.ps 1 T rfl ?_
 refine U.sks 2 6 true 9 rfl rfl rfl rfl ?_
 refine U.pk' rfl ?_
 refine U.pd 1 T ?_
 exact St.wn (hJ4 _ hm)
theorem T_survey_maker_addZone__p0 (z : ApiZone) (m : SurveyMaker) (post : (Int × SurveyMaker) → Prop) (hm : V_survey_maker_addZone__p0 z m post) :
    Tr Tryz.prog 36 [.p 0 0, .agg (eApiZone z)] [(0, .box [.i m.site.Floor.W, .i m.site.Floor.H, .i m.site.Floor.D, .sl 1 eI m.site.Floor.Kind, .sl 1 eI m.site.Floor.Out, .o 1, .o 2, .o 3, .o 4, .o 5, .o 6, .o 7, .o 8, .o 9, .o 10, .o 11]), (1, .val (.os 5 eApiZone m.site.Zones)), (2, .val (.os 2 eApiApart m.site.Aparts)), (3, .val (.os 2 eApiShelf m.site.Shelves)), (4, .val (.os 2 eApiStart m.site.Robots)), (5, .val (.om kI veI m.shelf)), (6, .val (.om kI veB m.robot)), (7, .val (.om kI veB m.zoned)), (8, .val (.om kS veI m.names)), (9, .val (.om kI veB m.oneways)), (10, .val (.os 1 eI m.shelves)), (11, .val (.os 1 eI m.zones))] 12 (fun A H' k => ∃ y, post y ∧ A = (.i y.1) ∧ H' = [(0, .box [.i y.2.site.Floor.W, .i y.2.site.Floor.H, .i y.2.site.Floor.D, .sl 1 eI y.2.site.Floor.Kind, .sl 1 eI y.2.site.Floor.Out, .o 12, .o 13, .o 14, .o 15, .o 16, .o 17, .o 18, .o 19, .o 20, .o 21, .o 22]), (12, .val (.os 5 eApiZone y.2.site.Zones)), (13, .val (.os 2 eApiApart y.2.site.Aparts)), (14, .val (.os 2 eApiShelf y.2.site.Shelves)), (15, .val (.os 2 eApiStart y.2.site.Robots)), (16, .val (.om kI veI y.2.shelf)), (17, .val (.om kI veB y.2.robot)), (18, .val (.om kI veB y.2.zoned)), (19, .val (.om kS veI y.2.names)), (20, .val (.om kI veB y.2.oneways)), (21, .val (.os 1 eI y.2.shelves)), (22, .val (.os 1 eI y.2.zones))] ∧ k = 23) := by
 refine Tr.intro (n := 93) Tryz.func36 rfl Tryz.ntmps36 rfl (fun w0 ok F β hβ => ?_)
 unfold V_survey_maker_addZone__p0 at hm
 refine C.seq (U.start ?_)
 refine U.bx ?_
 refine U.pd 1 T (C.nx (C.seq (C.seq ?_)))
 refine D.beg 9999 [0, 8, 12] [] mix rfl rfl (by kernel_rfl) (by repeat (first | exact NoPanicQ.body | exact NoPanicQ.rnd | refine NoPanicQ.th ?_ | refine NoPanicQ.blk ?_ | refine NoPanicQ.ng ?_)) (fun hQ hS ws M' => ?_)
 refine D.ps 6 [(0, []), (1, []), (2, []), (3, []), (4, []), (5, [])] rfl hQ hS T rfl rfl (by kernel_rfl) ?_
 refine D.q 6 [] hQ hS rfl (.none rfl) rfl rfl (by exact Rd.lk2 T (ke := kS) (ve := veI) (xs := m.names) (z0 := 0) (x := z.Name) rfl rfl kt9 zt3 (fun _ => rfl) rfl (.o rfl) rfl rfl rfl) rfl (by kernel_rfl) ?_
 refine D.ps 5 [(7, []), (8, []), (9, []), (10, []), (11, [])] rfl hQ hS T rfl rfl (by kernel_rfl) ?_
 refine D.done (by kernel_rfl) ?_
 refine C.nx (C.seq (U.start ?_))
 refine U.pd 1 T (C.nx ?_)
 refine C.ite rfl hm (fun hb7 hm => ?_) (fun hb7 hm => ?_)
 refine C.seq (U.start ?_)
 refine U.pd 1 T (C.nx (C.ret (C.rt ?_)))
 exact C.g1 [some 0, some 1, some 2, some 3, some 4, some 5, some 6, some 7, some 8, some 9, some 10, some 11, some 1, some 2, some 3, some 4, some 5, some 6, some 7, some 8, some 9, some 10, some 11] T hβ ⟨(5, m), hm, rfl, rfl, rfl⟩
 refine C.skip (C.nx (C.seq (C.seq (U.start ?_))))
 refine U.pd 7 T (C.nx ?_)
 refine C.ite rfl hm (fun hb12 hm => ?_) (fun hb12 hm => ?_)
 refine C.seq (U.start ?_)
 refine U.pd 1 T (C.nx (C.ret (C.rt ?_)))
 exact C.g1 [some 0, some 1, some 2, some 3, some 4, some 5, some 6, some 7, some 8, some 9, some 10, some 11, some 1, some 2, some 3, some 4, some 5, some 6, some 7, some 8, some 9, some 10, some 11] T hβ ⟨(6, m), hm, rfl, rfl, rfl⟩
 refine C.skip (C.nx (C.seq (C.seq (U.start ?_))))
 refine U.pd 4 T (C.nx ?_)
 refine C.jn (fun (x17 : Unit) => [(0, .p 0 0), (3, .p 12 0)]) (fun (x17 : Unit) => [(0, .box [.i m.site.Floor.W, .i m.site.Floor.H, .i m.site.Floor.D, .sl 1 eI m.site.Floor.Kind, .sl 1 eI m.site.Floor.Out, .o 1, .o 2, .o 3, .o 4, .o 5, .o 6, .o 7, .o 8, .o 9, .o 10, .o 11]), (1, .val (.os 5 eApiZone m.site.Zones)), (2, .val (.os 2 eApiApart m.site.Aparts)), (3, .val (.os 2 eApiShelf m.site.Shelves)), (4, .val (.os 2 eApiStart m.site.Robots)), (5, .val (.om kI veI m.shelf)), (6, .val (.om kI veB m.robot)), (7, .val (.om kI veB m.zoned)), (8, .val (.om kS veI m.names)), (9, .val (.om kI veB m.oneways)), (10, .val (.os 1 eI m.shelves)), (11, .val (.os 1 eI m.zones)), (12, .box (eApiZone z))]) 13 hm (fun x17 hm => ?_) (fun J18 hm hJ18 => ?_)
 refine C.nx (C.seq (C.seq (U.start ?_)))
 refine U.pd 4 T (C.nx ?_)
 refine C.jn (fun (x41 : List (Int × Bool)) => [(0, .p 0 0), (3, .p 12 0)]) (fun (x41 : List (Int × Bool)) => [(0, .box [.i m.site.Floor.W, .i m.site.Floor.H, .i m.site.Floor.D, .sl 1 eI m.site.Floor.Kind, .sl 1 eI m.site.Floor.Out, .o 1, .o 2, .o 3, .o 4, .o 5, .o 6, .o 7, .o 8, .o 9, .o 10, .o 11]), (1, .val (.os 5 eApiZone m.site.Zones)), (2, .val (.os 2 eApiApart m.site.Aparts)), (3, .val (.os 2 eApiShelf m.site.Shelves)), (4, .val (.os 2 eApiStart m.site.Robots)), (5, .val (.om kI veI m.shelf)), (6, .val (.om kI veB m.robot)), (7, .val (.om kI veB x41)), (8, .val (.om kS veI m.names)), (9, .val (.om kI veB m.oneways)), (10, .val (.os 1 eI m.shelves)), (11, .val (.os 1 eI m.zones)), (12, .box (eApiZone z))]) 13 hm (fun x41 hm => ?_) (fun J42 hm hJ42 => ?_)
 refine C.nx (C.seq ?_)
 refine D.beg 12 [0, 12] [] mix rfl rfl (by kernel_rfl) (by repeat (first | exact NoPanicQ.body | exact NoPanicQ.rnd | refine NoPanicQ.th ?_ | refine NoPanicQ.blk ?_ | refine NoPanicQ.ng ?_)) (fun hQ hS ws M' => ?_)
 refine D.ps 12 [(0, []), (1, []), (2, []), (3, []), (4, []), (5, []), (6, []), (7, []), (8, []), (9, []), (10, []), (11, [])] rfl hQ hS T rfl rfl (by kernel_rfl) ?_
 refine D.ze1 rfl (.none rfl) (by exact Eff1.mu T (x := z.Name) (y := (m.site.Zones.length : Int)) (.inl rfl) rfl kt9 (fun _ => rfl) rfl rfl rfl rfl rfl (.inl rfl) rfl) (by kernel_rfl) (by kernel_rfl) ?_
 refine C.nx (C.seq ?_)
 refine D.beg 12 [0, 12] [1] mix rfl rfl (by kernel_rfl) (by repeat (first | exact NoPanicQ.body | exact NoPanicQ.rnd | refine NoPanicQ.th ?_ | refine NoPanicQ.blk ?_ | refine NoPanicQ.ng ?_)) (fun hQ hS ws M' => ?_)
 refine D.ps 7 [(0, []), (1, []), (2, []), (3, []), (4, []), (5, []), (6, [])] rfl hQ hS T rfl rfl (by kernel_rfl) ?_
 refine D.e1 7 rfl (.none rfl) (by exact Eff1.bs T (enc := eApiZone) (xs := ([z] : List ApiZone)) rfl rfl rfl rfl rfl rfl rfl rfl rfl rfl (fun _ _ => rfl) rfl rfl) (by kernel_rfl) rfl rfl ?_
 obtain ⟨hx59, hm⟩ := hm
 refine D.e1 8 rfl (.none rfl) (by exact Eff1.ap T rfl rfl rfl rfl rfl rfl (.inr ⟨_, rfl, rfl⟩) rfl rfl rfl (fun _ => rfl) rfl hx59) (by kernel_rfl) rfl rfl ?_
 refine D.ps 3 [(9, [11, 10]), (10, [11]), (11, [])] rfl hQ hS T rfl rfl (by kernel_rfl) ?_
 refine D.ze1 rfl (.none rfl) (by exact Eff1.st T rfl rfl rfl rfl rfl rfl rfl rfl rfl rfl) (by kernel_rfl) (by kernel_rfl) ?_
 refine C.nx (C.seq (U.start ?_))
 refine U.pd 1 T (C.nx (C.ret ?_))
 exact C.g1 [some 0, some 1, some 2, some 3, some 4, some 5, some 6, some 7, some 8, some 9, some 10, some 11, some 14, some 2, some 3, some 4, some 5, some 6, some 7, some 8, some 9, some 10, some 11] T hβ ⟨(0, ({ site := ({ Floor := m.site.Floor, Zones := (m.site.Zones ++ ([z] : List ApiZone)), Aparts := m.site.Aparts, Shelves := m.site.Shelves, Robots := m.site.Robots : ApiSite }), shelf := m.shelf, robot := m.robot, zoned := x41, names := (upd m.names z.Name (m.site.Zones.length : Int)), oneways := m.oneways, shelves := m.shelves, zones := m.zones : SurveyMaker })), hm, rfl, rfl, rfl⟩
 refine C.block ?_
 refine St.wk (C.loop (fun (s43 : List (Int × Bool) × Int) => [(0, .p 0 0), (3, .p 12 0), (57, .sl 1 eI z.Cells), (58, .i (z.Cells.length : Int)), (59, .i s43.2)]) (fun (s43 : List (Int × Bool) × Int) => [(0, .box [.i m.site.Floor.W, .i m.site.Floor.H, .i m.site.Floor.D, .sl 1 eI m.site.Floor.Kind, .sl 1 eI m.site.Floor.Out, .o 1, .o 2, .o 3, .o 4, .o 5, .o 6, .o 7, .o 8, .o 9, .o 10, .o 11]), (1, .val (.os 5 eApiZone m.site.Zones)), (2, .val (.os 2 eApiApart m.site.Aparts)), (3, .val (.os 2 eApiShelf m.site.Shelves)), (4, .val (.os 2 eApiStart m.site.Robots)), (5, .val (.om kI veI m.shelf)), (6, .val (.om kI veB m.robot)), (7, .val (.om kI veB s43.1)), (8, .val (.om kS veI m.names)), (9, .val (.om kI veB m.oneways)), (10, .val (.os 1 eI m.shelves)), (11, .val (.os 1 eI m.zones)), (12, .box (eApiZone z))]) hm (fun s43 Y44 hm => ?_)) (Wk.a (idR 13))
 refine C.seq (U.start ?_)
 refine U.pd 1 T (C.nx (C.seq ?_))
 refine C.ite rfl hm (fun hb47 hm => ?_) (fun hb47 hm => ?_)
 refine C.skip (C.nx (C.seq (C.block (C.seq (U.start ?_)))))
 obtain ⟨x50, hx50, hm⟩ := hm
 refine U.r rfl (.none rfl) rfl rfl (by exact Rd.ix T rfl rfl rfl rfl rfl rfl hx50) ?_
 refine U.pd 2 T (C.nx (U.start ?_))
 refine U.ps 5 T rfl ?_
 refine U.e1 rfl (.none rfl) (by exact Eff1.mu T (x := x50) (y := true) (.inl rfl) rfl kt3 (fun _ => rfl) rfl rfl rfl rfl rfl (.inl rfl) rfl) ?_
 refine U.done (C.bnx (C.nx (U.start ?_)))
 refine U.pd 2 T (C.nx ?_)
 exact St.wk (C.next hm) (Wk.a (idR 13))
 refine C.exit (C.ex (C.ex (C.bex ?_)))
 exact St.wa (idR 13) (hJ42 _ hm)
 refine C.block ?_
 refine St.wk (C.loop (fun (s19 : Int) => [(0, .p 0 0), (3, .p 12 0), (32, .sl 1 eI z.Cells), (33, .i (z.Cells.length : Int)), (34, .i s19)]) (fun (s19 : Int) => [(0, .box [.i m.site.Floor.W, .i m.site.Floor.H, .i m.site.Floor.D, .sl 1 eI m.site.Floor.Kind, .sl 1 eI m.site.Floor.Out, .o 1, .o 2, .o 3, .o 4, .o 5, .o 6, .o 7, .o 8, .o 9, .o 10, .o 11]), (1, .val (.os 5 eApiZone m.site.Zones)), (2, .val (.os 2 eApiApart m.site.Aparts)), (3, .val (.os 2 eApiShelf m.site.Shelves)), (4, .val (.os 2 eApiStart m.site.Robots)), (5, .val (.om kI veI m.shelf)), (6, .val (.om kI veB m.robot)), (7, .val (.om kI veB m.zoned)), (8, .val (.om kS veI m.names)), (9, .val (.om kI veB m.oneways)), (10, .val (.os 1 eI m.shelves)), (11, .val (.os 1 eI m.zones)), (12, .box (eApiZone z))]) hm (fun s19 Y20 hm => ?_)) (Wk.a (idR 13))
 refine C.seq (U.start ?_)
 refine U.pd 1 T (C.nx (C.seq ?_))
 refine C.ite rfl hm (fun hb23 hm => ?_) (fun hb23 hm => ?_)
 refine C.skip (C.nx (C.seq (C.block (C.seq (U.start ?_)))))
 obtain ⟨x26, hx26, hm⟩ := hm
 refine U.r rfl (.none rfl) rfl rfl (by exact Rd.ix T rfl rfl rfl rfl rfl rfl hx26) ?_
 refine U.pd 2 T (C.nx (C.seq (U.start ?_)))
 refine U.ps 2 T rfl ?_
 refine U.k (T_survey_maker_kindAt m x26 _ hm) en74 (fun x29 hm => ?_)
 refine U.pd 5 T (C.nx (C.seq ?_))
 refine C.jn (fun (x30 : Bool) => [(0, .p 0 0), (3, .p 12 0), (32, .sl 1 eI z.Cells), (33, .i (z.Cells.length : Int)), (34, .i s19), (54, .b x30)]) (fun (x30 : Bool) => [(0, .box [.i m.site.Floor.W, .i m.site.Floor.H, .i m.site.Floor.D, .sl 1 eI m.site.Floor.Kind, .sl 1 eI m.site.Floor.Out, .o 1, .o 2, .o 3, .o 4, .o 5, .o 6, .o 7, .o 8, .o 9, .o 10, .o 11]), (1, .val (.os 5 eApiZone m.site.Zones)), (2, .val (.os 2 eApiApart m.site.Aparts)), (3, .val (.os 2 eApiShelf m.site.Shelves)), (4, .val (.os 2 eApiStart m.site.Robots)), (5, .val (.om kI veI m.shelf)), (6, .val (.om kI veB m.robot)), (7, .val (.om kI veB m.zoned)), (8, .val (.om kS veI m.names)), (9, .val (.om kI veB m.oneways)), (10, .val (.os 1 eI m.shelves)), (11, .val (.os 1 eI m.zones)), (12, .box (eApiZone z))]) 13 hm (fun x30 hm => ?_) (fun J31 hm hJ31 => ?_)
 refine C.nx ?_
 refine C.ite rfl hm (fun hb34 hm => ?_) (fun hb34 hm => ?_)
 refine C.seq (U.start ?_)
 refine U.pd 1 T (C.nx (C.ret (C.brt (C.rt (C.rt (C.brt (C.rt ?_)))))))
 exact C.g1 [some 0, some 1, some 2, some 3, some 4, some 5, some 6, some 7, some 8, some 9, some 10, some 11, some 1, some 2, some 3, some 4, some 5, some 6, some 7, some 8, some 9, some 10, some 11] T hβ ⟨(13, m), hm, rfl, rfl, rfl⟩
 refine C.skip (C.bnx (C.nx (U.start ?_)))
 refine U.pd 2 T (C.nx ?_)
 exact St.wk (C.next hm) (Wk.a (idR 13))
 refine U.start ?_
 refine U.ps 1 T rfl ?_
 refine U.k (T_survey_zoned x29.1 _ hm) en75 (fun x32 hm => ?_)
 refine U.ps 2 T rfl ?_
 refine hm.cs (fun hb33 hm => ?_) (fun hb33 hm => ?_)
 refine U.pg 5 3 false 47 (ntF hb33) T rfl rfl rfl rfl ?_
 refine U.r rfl (.take 3 false 47 _ (ntF hb33) rfl rfl rfl) rfl rfl (by exact Rd.lk T (ke := kI) (ve := veB) (xs := m.zoned) (z0 := false) (x := x26) rfl rfl kt3 zt4 (fun _ => rfl) rfl (.o rfl) rfl rfl rfl) ?_
 refine U.r rfl (.none rfl) rfl rfl (by exact Rd.pk' rfl rfl (ntF hb33) rfl) ?_
 refine U.done ?_
 exact St.wa (idR 13) (hJ31 _ hm)
 refine U.sks 6 3 false 47 (ntT hb33) rfl rfl rfl ?_
 refine U.r rfl (.none rfl) rfl rfl (by exact Rd.pk rfl rfl (ntT hb33) rfl) ?_
 refine U.done ?_
 exact St.wa (idR 13) (hJ31 _ hm)
 refine C.exit (C.ex (C.ex (C.bex ?_)))
 exact St.wa (idR 13) (hJ18 _ hm)
theorem T_slices_Index_api_Apart_api_Apart (s_1 : List ApiApart) (v : ApiApart) (post : Int → Prop) (hm : V_slices_Index_api_Apart_api_Apart s_1 v post) :
    Tr Tryz.prog 153 [.sl 2 eApiApart s_1, .agg [.v (.string v.A), .v (.string v.B)]] [] 0 (fun A H' k => ∃ y, post y ∧ A = (.i y) ∧ H' = [] ∧ k = 0) := by
 refine Tr.intro (n := 19) Tryz.func153 rfl Tryz.ntmps153 rfl (fun w0 ok F β hβ => ?_)
 unfold V_slices_Index_api_Apart_api_Apart at hm
 refine C.seq (U.start ?_)
 refine U.bx ?_
 refine U.pd 1 T (C.nx (C.seq (C.seq (U.start ?_))))
 refine U.pd 3 T (C.nx ?_)
 refine C.jn (fun (x5 : Unit) => []) (fun (x5 : Unit) => []) 0 hm (fun x5 hm => ?_) (fun J6 hm hJ6 => ?_)
 refine C.nx (C.seq (U.start ?_))
 refine U.pd 1 T (C.nx (C.ret ?_))
 exact C.f1 T hβ ⟨(-1), hm, rfl, rfl, rfl⟩
 refine C.block ?_
 refine St.wk (C.loop (fun (s7 : Int) => [(0, .sl 2 eApiApart s_1), (3, .p 0 0), (7, .i (s_1.length : Int)), (8, .i s7)]) (fun (s7 : Int) => [(0, .box [.v (.string v.A), .v (.string v.B)])]) hm (fun s7 Y8 hm => ?_)) (Wk.a [some 0])
 refine C.seq (U.start ?_)
 refine U.pd 1 T (C.nx (C.seq ?_))
 refine C.ite rfl hm (fun hb11 hm => ?_) (fun hb11 hm => ?_)
 refine C.skip (C.nx (C.seq (C.block (C.seq (U.start ?_)))))
 refine U.pd 2 T (C.nx (C.seq ?_))
 refine D.beg 9999 [0] [] mix rfl rfl (by kernel_rfl) (by repeat (first | exact NoPanicQ.body | exact NoPanicQ.rnd | refine NoPanicQ.th ?_ | refine NoPanicQ.blk ?_ | refine NoPanicQ.ng ?_)) (fun hQ hS ws M' => ?_)
 refine D.ps 3 [(0, []), (1, []), (2, [])] rfl hQ hS T rfl rfl (by kernel_rfl) ?_
 obtain ⟨x16, hx16, hm⟩ := hm
 refine D.q 3 [] hQ hS rfl (.none rfl) rfl rfl (by exact Rd.ix T rfl rfl rfl rfl rfl rfl hx16) rfl (by kernel_rfl) ?_
 refine D.ps 1 [(4, [])] rfl hQ hS T rfl rfl (by kernel_rfl) ?_
 refine D.q 5 [] hQ hS rfl (.none rfl) rfl rfl (by exact Rd.eqs T rfl rfl eqt69 rfl rfl rfl) rfl (by kernel_rfl) ?_
 refine D.done (by kernel_rfl) ?_
 refine C.nx ?_
 refine C.ite rfl hm (fun hb17 hm => ?_) (fun hb17 hm => ?_)
 refine C.seq (U.start ?_)
 refine U.pd 2 T (C.nx (C.ret (C.brt (C.rt (C.rt (C.brt (C.rt ?_)))))))
 exact C.f1 T hβ ⟨s7, hm, rfl, rfl, rfl⟩
 refine C.skip (C.bnx (C.nx (U.start ?_)))
 refine U.pd 2 T (C.nx ?_)
 exact St.wk (C.next hm) (Wk.a [some 0])
 refine C.exit (C.ex (C.ex (C.bex ?_)))
 exact St.wk (hJ6 _ hm) (Wk.mk' [] rfl rfl trivial trivial rfl)
theorem T_slices_Contains_api_Apart_api_Apart (s_1 : List ApiApart) (v : ApiApart) (post : Bool → Prop) (hm : V_slices_Contains_api_Apart_api_Apart s_1 v post) :
    Tr Tryz.prog 122 [.sl 2 eApiApart s_1, .agg [.v (.string v.A), .v (.string v.B)]] [] 0 (fun A H' k => ∃ y, post y ∧ A = (.b y) ∧ H' = [] ∧ k = 0) := by
 refine Tr.intro (n := 9) Tryz.func122 rfl Tryz.ntmps122 rfl (fun w0 ok F β hβ => ?_)
 unfold V_slices_Contains_api_Apart_api_Apart at hm
 refine C.seq (U.start ?_)
 refine U.bx ?_
 refine U.pd 1 T (C.nx (C.seq (U.start ?_)))
 refine U.ps 2 T rfl ?_
 refine U.k (T_slices_Index_api_Apart_api_Apart s_1 v _ hm) en153 (fun x5 hm => ?_)
 refine U.pd 2 T (C.nx (C.ret ?_))
 exact C.f1 T hβ ⟨decide (x5 ≥ 0), hm, rfl, rfl, rfl⟩
theorem T_survey_Apart (l : List ApiApart) (a : ByteArray) (b : ByteArray) (post : Bool → Prop) (hm : V_survey_Apart l a b post) :
    Tr Tryz.prog 76 [.sl 2 eApiApart l, .v (.string a), .v (.string b)] [] 0 (fun A H' k => ∃ y, post y ∧ A = (.b y) ∧ H' = [] ∧ k = 0) := by
 refine Tr.intro (n := 25) Tryz.func76 rfl Tryz.ntmps76 rfl (fun w0 ok F β hβ => ?_)
 unfold V_survey_Apart at hm
 refine C.seq (U.start ?_)
 refine U.pd 1 T (C.nx (C.seq (C.seq ?_)))
 refine C.jn (fun (x3 : Bool) => [(0, .sl 2 eApiApart l), (1, .v (.string a)), (2, .v (.string b)), (12, .b x3)]) (fun (x3 : Bool) => []) 0 hm (fun x3 hm => ?_) (fun J4 hm hJ4 => ?_)
 refine C.nx ?_
 refine C.ite rfl hm (fun hb6 hm => ?_) (fun hb6 hm => ?_)
 refine C.seq (U.start ?_)
 refine U.pd 1 T (C.nx (C.ret (C.rt ?_)))
 exact C.f1 T hβ ⟨false, hm, rfl, rfl, rfl⟩
 refine C.skip (C.nx (C.seq ?_))
 refine C.jn (fun (x9 : Bool) => [(6, .b x9)]) (fun (x9 : Bool) => []) 0 hm (fun x9 hm => ?_) (fun J10 hm hJ10 => ?_)
 refine C.nx (C.ret ?_)
 exact C.f1 T hβ ⟨x9, hm, rfl, rfl, rfl⟩
 refine U.start ?_
 refine U.ps 4 T rfl ?_
 refine U.k (T_slices_Contains_api_Apart_api_Apart l ({ A := a, B := b : ApiApart }) _ hm) en122 (fun x11 hm => ?_)
 refine U.ps 1 T rfl ?_
 refine hm.cs (fun hb12 hm => ?_) (fun hb12 hm => ?_)
 refine U.sks 5 5 false 18 hb12 rfl rfl rfl ?_
 refine U.pk hb12 ?_
 refine U.pd 1 T ?_
 exact St.wn (hJ10 _ hm)
 refine U.pg 4 5 false 18 hb12 T rfl rfl rfl rfl ?_
 refine U.k (T_slices_Contains_api_Apart_api_Apart l ({ A := b, B := a : ApiApart }) _ hm) en122 (fun x13 hm => ?_) (hw := .take 5 false 18 _ hb12 rfl rfl rfl)
 refine U.pk' hb12 ?_
 refine U.pd 1 T ?_
 exact St.wn (hJ10 _ hm)
 refine U.start ?_
 refine U.ps 3 T rfl ?_
 refine hm.cs (fun hb5 hm => ?_) (fun hb5 hm => ?_)
 refine U.sks 2 2 false 9 hb5 rfl rfl rfl ?_
 refine U.pk hb5 ?_
 refine U.done ?_
 exact St.wn (hJ4 _ hm)
 refine U.pg 2 2 false 9 hb5 T rfl rfl rfl rfl ?_
 refine U.pk' hb5 ?_
 refine U.done ?_
 exact St.wn (hJ4 _ hm)
theorem T_survey_maker_addApart__p0 (x_1 : ApiApart) (m : SurveyMaker) (post : (Int × SurveyMaker) → Prop) (hm : V_survey_maker_addApart__p0 x_1 m post) :
    Tr Tryz.prog 37 [.p 0 0, .agg [.v (.string x_1.A), .v (.string x_1.B)]] [(0, .box [.i m.site.Floor.W, .i m.site.Floor.H, .i m.site.Floor.D, .sl 1 eI m.site.Floor.Kind, .sl 1 eI m.site.Floor.Out, .o 1, .o 2, .o 3, .o 4, .o 5, .o 6, .o 7, .o 8, .o 9, .o 10, .o 11]), (1, .val (.os 5 eApiZone m.site.Zones)), (2, .val (.os 2 eApiApart m.site.Aparts)), (3, .val (.os 2 eApiShelf m.site.Shelves)), (4, .val (.os 2 eApiStart m.site.Robots)), (5, .val (.om kI veI m.shelf)), (6, .val (.om kI veB m.robot)), (7, .val (.om kI veB m.zoned)), (8, .val (.om kS veI m.names)), (9, .val (.om kI veB m.oneways)), (10, .val (.os 1 eI m.shelves)), (11, .val (.os 1 eI m.zones))] 12 (fun A H' k => ∃ y, post y ∧ A = (.i y.1) ∧ H' = [(0, .box [.i y.2.site.Floor.W, .i y.2.site.Floor.H, .i y.2.site.Floor.D, .sl 1 eI y.2.site.Floor.Kind, .sl 1 eI y.2.site.Floor.Out, .o 12, .o 13, .o 14, .o 15, .o 16, .o 17, .o 18, .o 19, .o 20, .o 21, .o 22]), (12, .val (.os 5 eApiZone y.2.site.Zones)), (13, .val (.os 2 eApiApart y.2.site.Aparts)), (14, .val (.os 2 eApiShelf y.2.site.Shelves)), (15, .val (.os 2 eApiStart y.2.site.Robots)), (16, .val (.om kI veI y.2.shelf)), (17, .val (.om kI veB y.2.robot)), (18, .val (.om kI veB y.2.zoned)), (19, .val (.om kS veI y.2.names)), (20, .val (.om kI veB y.2.oneways)), (21, .val (.os 1 eI y.2.shelves)), (22, .val (.os 1 eI y.2.zones))] ∧ k = 23) := by
 refine Tr.intro (n := 37) Tryz.func37 rfl Tryz.ntmps37 rfl (fun w0 ok F β hβ => ?_)
 unfold V_survey_maker_addApart__p0 at hm
 refine C.seq (U.start ?_)
 refine U.bx ?_
 refine U.pd 1 T (C.nx (C.seq (C.seq ?_)))
 refine C.jn (fun (x3 : Bool) => [(0, .p 0 0), (3, .p 12 0), (14, .b x3)]) (fun (x3 : Bool) => [(0, .box [.i m.site.Floor.W, .i m.site.Floor.H, .i m.site.Floor.D, .sl 1 eI m.site.Floor.Kind, .sl 1 eI m.site.Floor.Out, .o 1, .o 2, .o 3, .o 4, .o 5, .o 6, .o 7, .o 8, .o 9, .o 10, .o 11]), (1, .val (.os 5 eApiZone m.site.Zones)), (2, .val (.os 2 eApiApart m.site.Aparts)), (3, .val (.os 2 eApiShelf m.site.Shelves)), (4, .val (.os 2 eApiStart m.site.Robots)), (5, .val (.om kI veI m.shelf)), (6, .val (.om kI veB m.robot)), (7, .val (.om kI veB m.zoned)), (8, .val (.om kS veI m.names)), (9, .val (.om kI veB m.oneways)), (10, .val (.os 1 eI m.shelves)), (11, .val (.os 1 eI m.zones)), (12, .box [.v (.string x_1.A), .v (.string x_1.B)])]) 13 hm (fun x3 hm => ?_) (fun J4 hm hJ4 => ?_)
 refine C.nx ?_
 refine C.ite rfl hm (fun hb8 hm => ?_) (fun hb8 hm => ?_)
 refine C.seq (U.start ?_)
 refine U.pd 1 T (C.nx (C.ret (C.rt ?_)))
 exact C.g1 [some 0, some 1, some 2, some 3, some 4, some 5, some 6, some 7, some 8, some 9, some 10, some 11, some 1, some 2, some 3, some 4, some 5, some 6, some 7, some 8, some 9, some 10, some 11] T hβ ⟨(12, m), hm, rfl, rfl, rfl⟩
 refine C.skip (C.nx (C.seq (C.seq ?_)))
 refine D.beg 9 [0, 12] [] mix rfl rfl (by kernel_rfl) (by repeat (first | exact NoPanicQ.body | exact NoPanicQ.rnd | refine NoPanicQ.th ?_ | refine NoPanicQ.blk ?_ | refine NoPanicQ.ng ?_)) (fun hQ hS ws M' => ?_)
 refine D.ps 9 [(0, [4, 3, 2, 1]), (1, [4, 3, 2]), (2, [4, 3]), (3, [4]), (4, []), (5, [6]), (6, []), (7, [8]), (8, [])] rfl hQ hS T rfl rfl (by kernel_rfl) ?_
 refine D.ze rfl (.none rfl) (by exact Eff.k (T_survey_Apart m.site.Aparts x_1.A x_1.B _ hm) en76 rfl rfl rfl (.cons (.fz rfl rfl rfl (.os fun _ => .cons (.ro rfl) (.cons (.ro rfl) .nil))) (.eq rfl)) (fun _ _ => ⟨(.v _), trivial⟩)) (by kernel_rfl) (by kernel_rfl) (fun x13' hm => ?_)
 obtain ⟨x13⟩ := x13'
 refine C.nx ?_
 refine C.ite rfl hm (fun hb14 hm => ?_) (fun hb14 hm => ?_)
 refine C.seq (U.start ?_)
 refine U.pd 1 T (C.nx (C.ret (C.rt ?_)))
 exact C.g1 [some 0, some 1, some 2, some 3, some 4, some 5, some 6, some 7, some 8, some 9, some 10, some 11, some 1, some 2, some 3, some 4, some 5, some 6, some 7, some 8, some 9, some 10, some 11] T hβ ⟨(5, m), hm, rfl, rfl, rfl⟩
 refine C.skip (C.nx (C.seq ?_))
 refine D.beg 12 [0, 12] [2] mix rfl rfl (by kernel_rfl) (by repeat (first | exact NoPanicQ.body | exact NoPanicQ.rnd | refine NoPanicQ.th ?_ | refine NoPanicQ.blk ?_ | refine NoPanicQ.ng ?_)) (fun hQ hS ws M' => ?_)
 refine D.ps 7 [(0, []), (1, []), (2, []), (3, []), (4, []), (5, []), (6, [])] rfl hQ hS T rfl rfl (by kernel_rfl) ?_
 refine D.e1 7 rfl (.none rfl) (by exact Eff1.bs T (enc := eApiApart) (xs := ([x_1] : List ApiApart)) rfl rfl rfl rfl rfl rfl rfl rfl rfl rfl (fun _ _ => rfl) rfl rfl) (by kernel_rfl) rfl rfl ?_
 obtain ⟨hx19, hm⟩ := hm
 refine D.e1 8 rfl (.none rfl) (by exact Eff1.ap T rfl rfl rfl rfl rfl rfl (.inr ⟨_, rfl, rfl⟩) rfl rfl rfl (fun _ => rfl) rfl hx19) (by kernel_rfl) rfl rfl ?_
 refine D.ps 3 [(9, [11, 10]), (10, [11]), (11, [])] rfl hQ hS T rfl rfl (by kernel_rfl) ?_
 refine D.ze1 rfl (.none rfl) (by exact Eff1.st T rfl rfl rfl rfl rfl rfl rfl rfl rfl rfl) (by kernel_rfl) (by kernel_rfl) ?_
 refine C.nx (C.seq (U.start ?_))
 refine U.pd 1 T (C.nx (C.ret ?_))
 exact C.g1 [some 0, some 1, some 2, some 3, some 4, some 5, some 6, some 7, some 8, some 9, some 10, some 11, some 1, some 14, some 3, some 4, some 5, some 6, some 7, some 8, some 9, some 10, some 11] T hβ ⟨(0, ({ site := ({ Floor := m.site.Floor, Zones := m.site.Zones, Aparts := (m.site.Aparts ++ ([x_1] : List ApiApart)), Shelves := m.site.Shelves, Robots := m.site.Robots : ApiSite }), shelf := m.shelf, robot := m.robot, zoned := m.zoned, names := m.names, oneways := m.oneways, shelves := m.shelves, zones := m.zones : SurveyMaker })), hm, rfl, rfl, rfl⟩
 refine U.start ?_
 refine U.ps 2 T rfl ?_
 refine U.k (T_survey_Name x_1.A _ hm) en32 (fun x5 hm => ?_)
 refine U.ps 2 T rfl ?_
 refine hm.cs (fun hb6 hm => ?_) (fun hb6 hm => ?_)
 refine U.pg 2 4 false 9 (ntF hb6) T rfl rfl rfl rfl ?_
 refine U.k (T_survey_Name x_1.B _ hm) en32 (fun x7 hm => ?_) (hw := .take 4 false 9 _ (ntF hb6) rfl rfl rfl)
 refine U.pg 1 4 false 9 (ntF hb6) T rfl rfl rfl rfl ?_
 refine U.r rfl (.none rfl) rfl rfl (by exact Rd.pk' rfl rfl (ntF hb6) rfl) ?_
 refine U.done ?_
 exact St.wa (idR 13) (hJ4 _ hm)
 refine U.sks 4 4 false 9 (ntT hb6) rfl rfl rfl ?_
 refine U.r rfl (.none rfl) rfl rfl (by exact Rd.pk rfl rfl (ntT hb6) rfl) ?_
 refine U.done ?_
 exact St.wa (idR 13) (hJ4 _ hm)
theorem T_survey_stands (kind : Int) (post : Bool → Prop) (hm : V_survey_stands kind post) :
    Tr Tryz.prog 77 [.i kind] [] 0 (fun A H' k => ∃ y, post y ∧ A = (.b y) ∧ H' = [] ∧ k = 0) := by
 refine Tr.intro (n := 9) Tryz.func77 rfl Tryz.ntmps77 rfl (fun w0 ok F β hβ => ?_)
 unfold V_survey_stands at hm
 refine C.seq (U.start ?_)
 refine U.pd 1 T (C.nx (C.seq ?_))
 refine C.jn (fun (x3 : Bool) => [(2, .b x3)]) (fun (x3 : Bool) => []) 0 hm (fun x3 hm => ?_) (fun J4 hm hJ4 => ?_)
 refine C.nx (C.ret ?_)
 exact C.f1 T hβ ⟨x3, hm, rfl, rfl, rfl⟩
 refine U.start ?_
 refine U.ps 3 T rfl ?_
 refine hm.cs (fun hb5 hm => ?_) (fun hb5 hm => ?_)
 refine U.sks 2 2 false 5 hb5 rfl rfl rfl ?_
 refine U.pk hb5 ?_
 refine U.pd 1 T ?_
 exact St.wn (hJ4 _ hm)
 refine U.pg 2 2 false 5 hb5 T rfl rfl rfl rfl ?_
 refine U.pk' hb5 ?_
 refine U.pd 1 T ?_
 exact St.wn (hJ4 _ hm)
theorem T_survey_maker_addShelf__p0 (x_1 : ApiShelf) (m : SurveyMaker) (post : (Int × SurveyMaker) → Prop) (hm : V_survey_maker_addShelf__p0 x_1 m post) :
    Tr Tryz.prog 38 [.p 0 0, .agg [.i x_1.Cell, .v (.string x_1.Class)]] [(0, .box [.i m.site.Floor.W, .i m.site.Floor.H, .i m.site.Floor.D, .sl 1 eI m.site.Floor.Kind, .sl 1 eI m.site.Floor.Out, .o 1, .o 2, .o 3, .o 4, .o 5, .o 6, .o 7, .o 8, .o 9, .o 10, .o 11]), (1, .val (.os 5 eApiZone m.site.Zones)), (2, .val (.os 2 eApiApart m.site.Aparts)), (3, .val (.os 2 eApiShelf m.site.Shelves)), (4, .val (.os 2 eApiStart m.site.Robots)), (5, .val (.om kI veI m.shelf)), (6, .val (.om kI veB m.robot)), (7, .val (.om kI veB m.zoned)), (8, .val (.om kS veI m.names)), (9, .val (.om kI veB m.oneways)), (10, .val (.os 1 eI m.shelves)), (11, .val (.os 1 eI m.zones))] 12 (fun A H' k => ∃ y, post y ∧ A = (.i y.1) ∧ H' = [(0, .box [.i y.2.site.Floor.W, .i y.2.site.Floor.H, .i y.2.site.Floor.D, .sl 1 eI y.2.site.Floor.Kind, .sl 1 eI y.2.site.Floor.Out, .o 12, .o 13, .o 14, .o 15, .o 16, .o 17, .o 18, .o 19, .o 20, .o 21, .o 22]), (12, .val (.os 5 eApiZone y.2.site.Zones)), (13, .val (.os 2 eApiApart y.2.site.Aparts)), (14, .val (.os 2 eApiShelf y.2.site.Shelves)), (15, .val (.os 2 eApiStart y.2.site.Robots)), (16, .val (.om kI veI y.2.shelf)), (17, .val (.om kI veB y.2.robot)), (18, .val (.om kI veB y.2.zoned)), (19, .val (.om kS veI y.2.names)), (20, .val (.om kI veB y.2.oneways)), (21, .val (.os 1 eI y.2.shelves)), (22, .val (.os 1 eI y.2.zones))] ∧ k = 23) := by
 refine Tr.intro (n := 72) Tryz.func38 rfl Tryz.ntmps38 rfl (fun w0 ok F β hβ => ?_)
 unfold V_survey_maker_addShelf__p0 at hm
 refine C.seq (U.start ?_)
 refine U.bx ?_
 refine U.pd 1 T (C.nx (C.seq (C.seq ?_)))
 refine C.jn (fun (x3 : Bool) => [(0, .p 0 0), (3, .p 12 0), (17, .b x3)]) (fun (x3 : Bool) => [(0, .box [.i m.site.Floor.W, .i m.site.Floor.H, .i m.site.Floor.D, .sl 1 eI m.site.Floor.Kind, .sl 1 eI m.site.Floor.Out, .o 1, .o 2, .o 3, .o 4, .o 5, .o 6, .o 7, .o 8, .o 9, .o 10, .o 11]), (1, .val (.os 5 eApiZone m.site.Zones)), (2, .val (.os 2 eApiApart m.site.Aparts)), (3, .val (.os 2 eApiShelf m.site.Shelves)), (4, .val (.os 2 eApiStart m.site.Robots)), (5, .val (.om kI veI m.shelf)), (6, .val (.om kI veB m.robot)), (7, .val (.om kI veB m.zoned)), (8, .val (.om kS veI m.names)), (9, .val (.om kI veB m.oneways)), (10, .val (.os 1 eI m.shelves)), (11, .val (.os 1 eI m.zones)), (12, .box [.i x_1.Cell, .v (.string x_1.Class)])]) 13 hm (fun x3 hm => ?_) (fun J4 hm hJ4 => ?_)
 refine C.nx ?_
 refine C.ite rfl hm (fun hb7 hm => ?_) (fun hb7 hm => ?_)
 refine C.seq (U.start ?_)
 refine U.pd 1 T (C.nx (C.ret (C.rt ?_)))
 exact C.g1 [some 0, some 1, some 2, some 3, some 4, some 5, some 6, some 7, some 8, some 9, some 10, some 11, some 1, some 2, some 3, some 4, some 5, some 6, some 7, some 8, some 9, some 10, some 11] T hβ ⟨(12, m), hm, rfl, rfl, rfl⟩
 refine C.skip (C.nx (C.seq (U.start ?_)))
 refine U.ps 3 T rfl ?_
 refine U.k (T_survey_maker_kindAt m x_1.Cell _ hm) en74 (fun x12 hm => ?_)
 refine U.pd 5 T (C.nx (C.seq (C.seq (U.start ?_))))
 refine U.pd 2 T (C.nx ?_)
 refine C.ite rfl hm (fun hb15 hm => ?_) (fun hb15 hm => ?_)
 refine C.seq (U.start ?_)
 refine U.pd 1 T (C.nx (C.ret (C.rt ?_)))
 exact C.g1 [some 0, some 1, some 2, some 3, some 4, some 5, some 6, some 7, some 8, some 9, some 10, some 11, some 1, some 2, some 3, some 4, some 5, some 6, some 7, some 8, some 9, some 10, some 11] T hβ ⟨(3, m), hm, rfl, rfl, rfl⟩
 refine C.skip (C.nx (C.seq (C.seq (U.start ?_))))
 refine U.ps 1 T rfl ?_
 refine U.k (T_survey_stands x12.1 _ hm) en77 (fun x20 hm => ?_)
 refine U.pd 1 T (C.nx ?_)
 refine C.ite rfl hm (fun hb21 hm => ?_) (fun hb21 hm => ?_)
 refine C.seq (U.start ?_)
 refine U.pd 1 T (C.nx (C.ret (C.rt ?_)))
 exact C.g1 [some 0, some 1, some 2, some 3, some 4, some 5, some 6, some 7, some 8, some 9, some 10, some 11, some 1, some 2, some 3, some 4, some 5, some 6, some 7, some 8, some 9, some 10, some 11] T hβ ⟨(13, m), hm, rfl, rfl, rfl⟩
 refine C.skip (C.nx (C.seq (C.seq ?_)))
 refine D.beg 9999 [0, 5, 12] [] mix rfl rfl (by kernel_rfl) (by repeat (first | exact NoPanicQ.body | exact NoPanicQ.rnd | refine NoPanicQ.th ?_ | refine NoPanicQ.blk ?_ | refine NoPanicQ.ng ?_)) (fun hQ hS ws M' => ?_)
 refine D.ps 6 [(0, []), (1, []), (2, []), (3, []), (4, []), (5, [])] rfl hQ hS T rfl rfl (by kernel_rfl) ?_
 refine D.q 6 [] hQ hS rfl (.none rfl) rfl rfl (by exact Rd.lk2 T (ke := kI) (ve := veI) (xs := m.shelf) (z0 := 0) (x := x_1.Cell) rfl rfl kt3 zt3 (fun _ => rfl) rfl (.o rfl) rfl rfl rfl) rfl (by kernel_rfl) ?_
 refine D.ps 5 [(7, []), (8, []), (9, []), (10, []), (11, [])] rfl hQ hS T rfl rfl (by kernel_rfl) ?_
 refine D.done (by kernel_rfl) ?_
 refine C.nx (C.seq (U.start ?_))
 refine U.pd 1 T (C.nx ?_)
 refine C.ite rfl hm (fun hb28 hm => ?_) (fun hb28 hm => ?_)
 refine C.seq (U.start ?_)
 refine U.pd 1 T (C.nx (C.ret (C.rt ?_)))
 exact C.g1 [some 0, some 1, some 2, some 3, some 4, some 5, some 6, some 7, some 8, some 9, some 10, some 11, some 1, some 2, some 3, some 4, some 5, some 6, some 7, some 8, some 9, some 10, some 11] T hβ ⟨(5, m), hm, rfl, rfl, rfl⟩
 refine C.skip (C.nx (C.seq (C.seq (U.start ?_))))
 refine U.pd 7 T (C.nx ?_)
 refine C.ite rfl hm (fun hb33 hm => ?_) (fun hb33 hm => ?_)
 refine C.seq (U.start ?_)
 refine U.pd 1 T (C.nx (C.ret (C.rt ?_)))
 exact C.g1 [some 0, some 1, some 2, some 3, some 4, some 5, some 6, some 7, some 8, some 9, some 10, some 11, some 1, some 2, some 3, some 4, some 5, some 6, some 7, some 8, some 9, some 10, some 11] T hβ ⟨(6, m), hm, rfl, rfl, rfl⟩
 refine C.skip (C.nx (C.seq ?_))
 refine D.beg 12 [0, 12] [] mix rfl rfl (by kernel_rfl) (by repeat (first | exact NoPanicQ.body | exact NoPanicQ.rnd | refine NoPanicQ.th ?_ | refine NoPanicQ.blk ?_ | refine NoPanicQ.ng ?_)) (fun hQ hS ws M' => ?_)
 refine D.ps 12 [(0, []), (1, []), (2, []), (3, []), (4, []), (5, []), (6, []), (7, []), (8, []), (9, []), (10, []), (11, [])] rfl hQ hS T rfl rfl (by kernel_rfl) ?_
 refine D.ze1 rfl (.none rfl) (by exact Eff1.mu T (x := x_1.Cell) (y := (m.site.Shelves.length : Int)) (.inl rfl) rfl kt3 (fun _ => rfl) rfl rfl rfl rfl rfl (.inl rfl) rfl) (by kernel_rfl) (by kernel_rfl) ?_
 refine C.nx (C.seq ?_)
 refine D.beg 12 [0, 12] [3] mix rfl rfl (by kernel_rfl) (by repeat (first | exact NoPanicQ.body | exact NoPanicQ.rnd | refine NoPanicQ.th ?_ | refine NoPanicQ.blk ?_ | refine NoPanicQ.ng ?_)) (fun hQ hS ws M' => ?_)
 refine D.ps 7 [(0, []), (1, []), (2, []), (3, []), (4, []), (5, []), (6, [])] rfl hQ hS T rfl rfl (by kernel_rfl) ?_
 refine D.e1 7 rfl (.none rfl) (by exact Eff1.bs T (enc := eApiShelf) (xs := ([x_1] : List ApiShelf)) rfl rfl rfl rfl rfl rfl rfl rfl rfl rfl (fun _ _ => rfl) rfl rfl) (by kernel_rfl) rfl rfl ?_
 obtain ⟨hx40, hm⟩ := hm
 refine D.e1 8 rfl (.none rfl) (by exact Eff1.ap T rfl rfl rfl rfl rfl rfl (.inr ⟨_, rfl, rfl⟩) rfl rfl rfl (fun _ => rfl) rfl hx40) (by kernel_rfl) rfl rfl ?_
 refine D.ps 3 [(9, [11, 10]), (10, [11]), (11, [])] rfl hQ hS T rfl rfl (by kernel_rfl) ?_
 refine D.ze1 rfl (.none rfl) (by exact Eff1.st T rfl rfl rfl rfl rfl rfl rfl rfl rfl rfl) (by kernel_rfl) (by kernel_rfl) ?_
 refine C.nx (C.seq (U.start ?_))
 refine U.pd 1 T (C.nx (C.ret ?_))
 exact C.g1 [some 0, some 1, some 2, some 3, some 4, some 5, some 6, some 7, some 8, some 9, some 10, some 11, some 1, some 2, some 14, some 4, some 5, some 6, some 7, some 8, some 9, some 10, some 11] T hβ ⟨(0, ({ site := ({ Floor := m.site.Floor, Zones := m.site.Zones, Aparts := m.site.Aparts, Shelves := (m.site.Shelves ++ ([x_1] : List ApiShelf)), Robots := m.site.Robots : ApiSite }), shelf := (upd m.shelf x_1.Cell (m.site.Shelves.length : Int)), robot := m.robot, zoned := m.zoned, names := m.names, oneways := m.oneways, shelves := m.shelves, zones := m.zones : SurveyMaker })), hm, rfl, rfl, rfl⟩
 refine U.start ?_
 refine U.ps 4 T rfl ?_
 refine hm.cs (fun hb5 hm => ?_) (fun hb5 hm => ?_)
 refine U.sks 4 3 true 12 (ntF hb5) rfl rfl rfl ?_
 refine U.r rfl (.none rfl) rfl rfl (by exact Rd.pk' rfl rfl (ntF hb5) rfl) ?_
 refine U.done ?_
 exact St.wa (idR 13) (hJ4 _ hm)
 refine U.pg 2 3 true 12 (ntT hb5) T rfl rfl rfl rfl ?_
 refine U.k (T_survey_Name x_1.Class _ hm) en32 (fun x6 hm => ?_) (hw := .take 3 true 12 _ (ntT hb5) rfl rfl rfl)
 refine U.pg 1 3 true 12 (ntT hb5) T rfl rfl rfl rfl ?_
 refine U.r rfl (.none rfl) rfl rfl (by exact Rd.pk rfl rfl (ntT hb5) rfl) ?_
 refine U.done ?_
 exact St.wa (idR 13) (hJ4 _ hm)
theorem T_survey_maker_addRobot__p0 (x_1 : ApiStart) (m : SurveyMaker) (post : (Int × SurveyMaker) → Prop) (hm : V_survey_maker_addRobot__p0 x_1 m post) :
    Tr Tryz.prog 39 [.p 0 0, .agg [.i x_1.Cell, .i x_1.Charge]] [(0, .box [.i m.site.Floor.W, .i m.site.Floor.H, .i m.site.Floor.D, .sl 1 eI m.site.Floor.Kind, .sl 1 eI m.site.Floor.Out, .o 1, .o 2, .o 3, .o 4, .o 5, .o 6, .o 7, .o 8, .o 9, .o 10, .o 11]), (1, .val (.os 5 eApiZone m.site.Zones)), (2, .val (.os 2 eApiApart m.site.Aparts)), (3, .val (.os 2 eApiShelf m.site.Shelves)), (4, .val (.os 2 eApiStart m.site.Robots)), (5, .val (.om kI veI m.shelf)), (6, .val (.om kI veB m.robot)), (7, .val (.om kI veB m.zoned)), (8, .val (.om kS veI m.names)), (9, .val (.om kI veB m.oneways)), (10, .val (.os 1 eI m.shelves)), (11, .val (.os 1 eI m.zones))] 12 (fun A H' k => ∃ y, post y ∧ A = (.i y.1) ∧ H' = [(0, .box [.i y.2.site.Floor.W, .i y.2.site.Floor.H, .i y.2.site.Floor.D, .sl 1 eI y.2.site.Floor.Kind, .sl 1 eI y.2.site.Floor.Out, .o 12, .o 13, .o 14, .o 15, .o 16, .o 17, .o 18, .o 19, .o 20, .o 21, .o 22]), (12, .val (.os 5 eApiZone y.2.site.Zones)), (13, .val (.os 2 eApiApart y.2.site.Aparts)), (14, .val (.os 2 eApiShelf y.2.site.Shelves)), (15, .val (.os 2 eApiStart y.2.site.Robots)), (16, .val (.om kI veI y.2.shelf)), (17, .val (.om kI veB y.2.robot)), (18, .val (.om kI veB y.2.zoned)), (19, .val (.om kS veI y.2.names)), (20, .val (.om kI veB y.2.oneways)), (21, .val (.os 1 eI y.2.shelves)), (22, .val (.os 1 eI y.2.zones))] ∧ k = 23) := by
 refine Tr.intro (n := 56) Tryz.func39 rfl Tryz.ntmps39 rfl (fun w0 ok F β hβ => ?_)
 unfold V_survey_maker_addRobot__p0 at hm
 refine C.seq (U.start ?_)
 refine U.bx ?_
 refine U.pd 1 T (C.nx (C.seq (U.start ?_)))
 refine U.ps 3 T rfl ?_
 refine U.k (T_survey_maker_kindAt m x_1.Cell _ hm) en74 (fun x5 hm => ?_)
 refine U.pd 5 T (C.nx (C.seq (C.seq ?_)))
 refine C.jn (fun (x6 : Bool) => [(0, .p 0 0), (3, .p 12 0), (5, .i x5.1), (21, .b x6)]) (fun (x6 : Bool) => [(0, .box [.i m.site.Floor.W, .i m.site.Floor.H, .i m.site.Floor.D, .sl 1 eI m.site.Floor.Kind, .sl 1 eI m.site.Floor.Out, .o 1, .o 2, .o 3, .o 4, .o 5, .o 6, .o 7, .o 8, .o 9, .o 10, .o 11]), (1, .val (.os 5 eApiZone m.site.Zones)), (2, .val (.os 2 eApiApart m.site.Aparts)), (3, .val (.os 2 eApiShelf m.site.Shelves)), (4, .val (.os 2 eApiStart m.site.Robots)), (5, .val (.om kI veI m.shelf)), (6, .val (.om kI veB m.robot)), (7, .val (.om kI veB m.zoned)), (8, .val (.om kS veI m.names)), (9, .val (.om kI veB m.oneways)), (10, .val (.os 1 eI m.shelves)), (11, .val (.os 1 eI m.zones)), (12, .box [.i x_1.Cell, .i x_1.Charge])]) 13 hm (fun x6 hm => ?_) (fun J7 hm hJ7 => ?_)
 refine C.nx ?_
 refine C.ite rfl hm (fun hb10 hm => ?_) (fun hb10 hm => ?_)
 refine C.seq (U.start ?_)
 refine U.pd 1 T (C.nx (C.ret (C.rt ?_)))
 exact C.g1 [some 0, some 1, some 2, some 3, some 4, some 5, some 6, some 7, some 8, some 9, some 10, some 11, some 1, some 2, some 3, some 4, some 5, some 6, some 7, some 8, some 9, some 10, some 11] T hβ ⟨(3, m), hm, rfl, rfl, rfl⟩
 refine C.skip (C.nx (C.seq (C.seq (U.start ?_))))
 refine U.pd 2 T (C.nx ?_)
 refine C.ite rfl hm (fun hb15 hm => ?_) (fun hb15 hm => ?_)
 refine C.seq (U.start ?_)
 refine U.pd 1 T (C.nx (C.ret (C.rt ?_)))
 exact C.g1 [some 0, some 1, some 2, some 3, some 4, some 5, some 6, some 7, some 8, some 9, some 10, some 11, some 1, some 2, some 3, some 4, some 5, some 6, some 7, some 8, some 9, some 10, some 11] T hβ ⟨(13, m), hm, rfl, rfl, rfl⟩
 refine C.skip (C.nx (C.seq (C.seq ?_)))
 refine D.beg 9999 [0, 6, 12] [] mix rfl rfl (by kernel_rfl) (by repeat (first | exact NoPanicQ.body | exact NoPanicQ.rnd | refine NoPanicQ.th ?_ | refine NoPanicQ.blk ?_ | refine NoPanicQ.ng ?_)) (fun hQ hS ws M' => ?_)
 refine D.ps 6 [(0, []), (1, []), (2, []), (3, []), (4, []), (5, [])] rfl hQ hS T rfl rfl (by kernel_rfl) ?_
 refine D.q 6 [] hQ hS rfl (.none rfl) rfl rfl (by exact Rd.lk T (ke := kI) (ve := veB) (xs := m.robot) (z0 := false) (x := x_1.Cell) rfl rfl kt3 zt4 (fun _ => rfl) rfl (.o rfl) rfl rfl rfl) rfl (by kernel_rfl) ?_
 refine D.done (by kernel_rfl) ?_
 refine C.nx ?_
 refine C.ite rfl hm (fun hb20 hm => ?_) (fun hb20 hm => ?_)
 refine C.seq (U.start ?_)
 refine U.pd 1 T (C.nx (C.ret (C.rt ?_)))
 exact C.g1 [some 0, some 1, some 2, some 3, some 4, some 5, some 6, some 7, some 8, some 9, some 10, some 11, some 1, some 2, some 3, some 4, some 5, some 6, some 7, some 8, some 9, some 10, some 11] T hβ ⟨(5, m), hm, rfl, rfl, rfl⟩
 refine C.skip (C.nx (C.seq (C.seq (U.start ?_))))
 refine U.pd 7 T (C.nx ?_)
 refine C.ite rfl hm (fun hb25 hm => ?_) (fun hb25 hm => ?_)
 refine C.seq (U.start ?_)
 refine U.pd 1 T (C.nx (C.ret (C.rt ?_)))
 exact C.g1 [some 0, some 1, some 2, some 3, some 4, some 5, some 6, some 7, some 8, some 9, some 10, some 11, some 1, some 2, some 3, some 4, some 5, some 6, some 7, some 8, some 9, some 10, some 11] T hβ ⟨(6, m), hm, rfl, rfl, rfl⟩
 refine C.skip (C.nx (C.seq ?_))
 refine D.beg 6 [0, 12] [] mix rfl rfl (by kernel_rfl) (by repeat (first | exact NoPanicQ.body | exact NoPanicQ.rnd | refine NoPanicQ.th ?_ | refine NoPanicQ.blk ?_ | refine NoPanicQ.ng ?_)) (fun hQ hS ws M' => ?_)
 refine D.ps 6 [(0, []), (1, []), (2, []), (3, []), (4, []), (5, [])] rfl hQ hS T rfl rfl (by kernel_rfl) ?_
 refine D.ze1 rfl (.none rfl) (by exact Eff1.mu T (x := x_1.Cell) (y := true) (.inl rfl) rfl kt3 (fun _ => rfl) rfl rfl rfl rfl rfl (.inl rfl) rfl) (by kernel_rfl) (by kernel_rfl) ?_
 refine C.nx (C.seq ?_)
 refine D.beg 12 [0, 12] [4] mix rfl rfl (by kernel_rfl) (by repeat (first | exact NoPanicQ.body | exact NoPanicQ.rnd | refine NoPanicQ.th ?_ | refine NoPanicQ.blk ?_ | refine NoPanicQ.ng ?_)) (fun hQ hS ws M' => ?_)
 refine D.ps 7 [(0, []), (1, []), (2, []), (3, []), (4, []), (5, []), (6, [])] rfl hQ hS T rfl rfl (by kernel_rfl) ?_
 refine D.e1 7 rfl (.none rfl) (by exact Eff1.bs T (enc := eApiStart) (xs := ([x_1] : List ApiStart)) rfl rfl rfl rfl rfl rfl rfl rfl rfl rfl (fun _ _ => rfl) rfl rfl) (by kernel_rfl) rfl rfl ?_
 obtain ⟨hx32, hm⟩ := hm
 refine D.e1 8 rfl (.none rfl) (by exact Eff1.ap T rfl rfl rfl rfl rfl rfl (.inr ⟨_, rfl, rfl⟩) rfl rfl rfl (fun _ => rfl) rfl hx32) (by kernel_rfl) rfl rfl ?_
 refine D.ps 3 [(9, [11, 10]), (10, [11]), (11, [])] rfl hQ hS T rfl rfl (by kernel_rfl) ?_
 refine D.ze1 rfl (.none rfl) (by exact Eff1.st T rfl rfl rfl rfl rfl rfl rfl rfl rfl rfl) (by kernel_rfl) (by kernel_rfl) ?_
 refine C.nx (C.seq (U.start ?_))
 refine U.pd 1 T (C.nx (C.ret ?_))
 exact C.g1 [some 0, some 1, some 2, some 3, some 4, some 5, some 6, some 7, some 8, some 9, some 10, some 11, some 1, some 2, some 3, some 14, some 5, some 6, some 7, some 8, some 9, some 10, some 11] T hβ ⟨(0, ({ site := ({ Floor := m.site.Floor, Zones := m.site.Zones, Aparts := m.site.Aparts, Shelves := m.site.Shelves, Robots := (m.site.Robots ++ ([x_1] : List ApiStart)) : ApiSite }), shelf := m.shelf, robot := (upd m.robot x_1.Cell true), zoned := m.zoned, names := m.names, oneways := m.oneways, shelves := m.shelves, zones := m.zones : SurveyMaker })), hm, rfl, rfl, rfl⟩
 refine U.start ?_
 refine U.ps 3 T rfl ?_
 refine hm.cs (fun hb8 hm => ?_) (fun hb8 hm => ?_)
 refine U.pg 2 2 false 16 (ntF hb8) T rfl rfl rfl rfl ?_
 refine U.k (T_survey_within x_1.Charge 0 1000000 _ hm) en33 (fun x9 hm => ?_) (hw := .take 2 false 16 _ (ntF hb8) rfl rfl rfl)
 refine U.pg 1 2 false 16 (ntF hb8) T rfl rfl rfl rfl ?_
 refine U.r rfl (.none rfl) rfl rfl (by exact Rd.pk' rfl rfl (ntF hb8) rfl) ?_
 refine U.done ?_
 exact St.wa (idR 13) (hJ7 _ hm)
 refine U.sks 4 2 false 16 (ntT hb8) rfl rfl rfl ?_
 refine U.r rfl (.none rfl) rfl rfl (by exact Rd.pk rfl rfl (ntT hb8) rfl) ?_
 refine U.done ?_
 exact St.wa (idR 13) (hJ7 _ hm)
theorem T_survey_maker_beside (m : SurveyMaker) (post : Int → Prop) (hm : V_survey_maker_beside m post) :
    Tr Tryz.prog 40 [.rp [.i m.site.Floor.W, .i m.site.Floor.H, .i m.site.Floor.D, .sl 1 eI m.site.Floor.Kind, .sl 1 eI m.site.Floor.Out, .sl 5 eApiZone m.site.Zones, .sl 2 eApiApart m.site.Aparts, .sl 2 eApiShelf m.site.Shelves, .sl 2 eApiStart m.site.Robots, .rm kI veI m.shelf, .rm kI veB m.robot, .rm kI veB m.zoned, .rm kS veI m.names, .rm kI veB m.oneways, .sl 1 eI m.shelves, .sl 1 eI m.zones]] [] 0 (fun A H' k => ∃ y, post y ∧ A = (.i y) ∧ H' = [] ∧ k = 0) := by
 refine Tr.intro (n := 104) Tryz.func40 rfl Tryz.ntmps40 rfl (fun w0 ok F β hβ => ?_)
 unfold V_survey_maker_beside at hm
 refine C.seq (U.start ?_)
 refine U.pd 1 T (C.nx (C.seq (U.start ?_)))
 refine U.ps 5 T rfl ?_
 refine U.e1 rfl (.none rfl) (by exact Eff1.al T rfl rfl rfl rfl) ?_
 refine U.e1 rfl (.none rfl) (by exact Eff1.st T rfl rfl rfl rfl rfl rfl rfl rfl rfl rfl) ?_
 refine U.done (C.nx (C.seq (C.seq (U.start ?_))))
 refine U.pd 7 T (C.nx ?_)
 refine C.jn (fun (x7 : Unit) => []) (fun (x7 : Unit) => []) 0 hm (fun x7 hm => ?_) (fun J8 hm hJ8 => ?_)
 refine C.nx (C.seq (U.start ?_))
 refine U.pd 1 T (C.nx (C.ret ?_))
 exact C.f1 T hβ ⟨(-1), hm, rfl, rfl, rfl⟩
 refine C.block ?_
 refine St.wk (C.loop (fun (s9 : Int) => [(0, .rp [.i m.site.Floor.W, .i m.site.Floor.H, .i m.site.Floor.D, .sl 1 eI m.site.Floor.Kind, .sl 1 eI m.site.Floor.Out, .sl 5 eApiZone m.site.Zones, .sl 2 eApiApart m.site.Aparts, .sl 2 eApiShelf m.site.Shelves, .sl 2 eApiStart m.site.Robots, .rm kI veI m.shelf, .rm kI veB m.robot, .rm kI veB m.zoned, .rm kS veI m.names, .rm kI veB m.oneways, .sl 1 eI m.shelves, .sl 1 eI m.zones]), (3, .p 0 0), (22, .sl 2 eApiShelf m.site.Shelves), (23, .i (m.site.Shelves.length : Int)), (24, .i s9)]) (fun (s9 : Int) => [(0, .box (eApiFloor m.site.Floor))]) hm (fun s9 Y10 hm => ?_)) (Wk.a [some 0])
 refine C.seq (U.start ?_)
 refine U.pd 1 T (C.nx (C.seq ?_))
 refine C.ite rfl hm (fun hb13 hm => ?_) (fun hb13 hm => ?_)
 refine C.skip (C.nx (C.seq ?_))
 refine C.jn (fun (x14 : Unit) => [(0, .rp [.i m.site.Floor.W, .i m.site.Floor.H, .i m.site.Floor.D, .sl 1 eI m.site.Floor.Kind, .sl 1 eI m.site.Floor.Out, .sl 5 eApiZone m.site.Zones, .sl 2 eApiApart m.site.Aparts, .sl 2 eApiShelf m.site.Shelves, .sl 2 eApiStart m.site.Robots, .rm kI veI m.shelf, .rm kI veB m.robot, .rm kI veB m.zoned, .rm kS veI m.names, .rm kI veB m.oneways, .sl 1 eI m.shelves, .sl 1 eI m.zones]), (3, .p 0 0), (22, .sl 2 eApiShelf m.site.Shelves), (23, .i (m.site.Shelves.length : Int)), (24, .i s9)]) (fun (x14 : Unit) => [(0, .box (eApiFloor m.site.Floor))]) 1 hm (fun x14 hm => ?_) (fun J15 hm hJ15 => ?_)
 refine C.nx (U.start ?_)
 refine U.pd 2 T (C.nx ?_)
 exact St.wk (C.next hm) (Wk.a [some 0])
 refine C.block (C.seq (U.start ?_))
 refine U.ps 1 T rfl ?_
 obtain ⟨x18, hx18, hm⟩ := hm
 refine U.r rfl (.none rfl) rfl rfl (by exact Rd.ix T rfl rfl rfl rfl rfl rfl hx18) ?_
 refine U.ps 1 T rfl ?_
 refine U.e1 rfl (.none rfl) (by exact Eff1.al T rfl rfl rfl rfl) ?_
 refine U.ps 1 T rfl ?_
 refine U.e1 rfl (.none rfl) (by exact Eff1.st T rfl rfl rfl rfl rfl rfl rfl rfl rfl rfl) ?_
 refine U.done (C.nx (C.seq (U.start ?_)))
 refine U.ps 3 T rfl ?_
 refine U.k (T_floor_At m.site.Floor x18.Cell _ hm) en78 (fun x21 hm => ?_)
 refine U.pd 7 T (C.nx (C.seq ?_))
 refine D.beg 9999 [0] [] mix rfl rfl (by kernel_rfl) (by repeat (first | exact NoPanicQ.body | exact NoPanicQ.rnd | refine NoPanicQ.th ?_ | refine NoPanicQ.blk ?_ | refine NoPanicQ.ng ?_)) (fun hQ hS ws M' => ?_)
 refine D.ps 21 [(0, []), (1, []), (2, []), (3, []), (4, []), (6, []), (7, []), (8, []), (9, []), (10, []), (12, []), (13, []), (14, []), (15, []), (16, []), (18, []), (19, []), (20, []), (21, []), (22, []), (26, [])] rfl hQ hS T rfl rfl (by kernel_rfl) ?_
 refine D.k 5 (T_floor_Cell m.site.Floor (w64 (x21.1 + 1)) x21.2.1 x21.2.2 _ hm) en79 (fun x24 hm => ?_)
 refine D.k 11 (T_floor_Cell m.site.Floor x21.1 (w64 (x21.2.1 + 1)) x21.2.2 _ hm) en79 (fun x25 hm => ?_)
 refine D.k 17 (T_floor_Cell m.site.Floor (w64 (x21.1 - 1)) x21.2.1 x21.2.2 _ hm) en79 (fun x26 hm => ?_)
 refine D.k 23 (T_floor_Cell m.site.Floor x21.1 (w64 (x21.2.1 - 1)) x21.2.2 _ hm) en79 (fun x27 hm => ?_)
 refine D.e1 24 rfl (.none rfl) (by exact Eff1.bs T (enc := eI) (xs := ([x24, x25, x26, x27] : List Int)) rfl rfl rfl rfl rfl rfl rfl rfl rfl rfl (fun _ _ => rfl) rfl rfl) (by kernel_rfl) rfl rfl ?_
 refine D.ps 1 [(25, [])] rfl hQ hS T rfl rfl (by kernel_rfl) ?_
 refine D.done (by kernel_rfl) ?_
 refine C.nx ?_
 refine C.jn (fun (x28 : Unit) => [(0, .rp [.i m.site.Floor.W, .i m.site.Floor.H, .i m.site.Floor.D, .sl 1 eI m.site.Floor.Kind, .sl 1 eI m.site.Floor.Out, .sl 5 eApiZone m.site.Zones, .sl 2 eApiApart m.site.Aparts, .sl 2 eApiShelf m.site.Shelves, .sl 2 eApiStart m.site.Robots, .rm kI veI m.shelf, .rm kI veB m.robot, .rm kI veB m.zoned, .rm kS veI m.names, .rm kI veB m.oneways, .sl 1 eI m.shelves, .sl 1 eI m.zones]), (3, .p 0 0), (22, .sl 2 eApiShelf m.site.Shelves), (23, .i (m.site.Shelves.length : Int)), (24, .i s9)]) (fun (x28 : Unit) => [(0, .box (eApiFloor m.site.Floor))]) 1 hm (fun x28 hm => ?_) (fun J29 hm hJ29 => ?_)
 refine C.bnx ?_
 exact St.wa [some 0] (hJ15 _ hm)
 refine C.block ?_
 refine St.wk (C.loop (fun (s30 : Int) => [(0, .rp [.i m.site.Floor.W, .i m.site.Floor.H, .i m.site.Floor.D, .sl 1 eI m.site.Floor.Kind, .sl 1 eI m.site.Floor.Out, .sl 5 eApiZone m.site.Zones, .sl 2 eApiApart m.site.Aparts, .sl 2 eApiShelf m.site.Shelves, .sl 2 eApiStart m.site.Robots, .rm kI veI m.shelf, .rm kI veB m.robot, .rm kI veB m.zoned, .rm kS veI m.names, .rm kI veB m.oneways, .sl 1 eI m.shelves, .sl 1 eI m.zones]), (3, .p 0 0), (4, .i s9), (5, .p 1 0), (22, .sl 2 eApiShelf m.site.Shelves), (23, .i (m.site.Shelves.length : Int)), (24, .i s9), (61, .o 2), (62, .i (([x24, x25, x26, x27] : List Int).length : Int)), (63, .i s30)]) (fun (s30 : Int) => [(0, .box (eApiFloor m.site.Floor)), (1, .box [.i x18.Cell, .v (.string x18.Class)]), (2, .val (.os 1 eI ([x24, x25, x26, x27] : List Int)))]) hm (fun s30 Y31 hm => ?_)) (Wk.a (idR 3))
 refine C.seq (U.start ?_)
 refine U.pd 1 T (C.nx (C.seq ?_))
 refine C.ite rfl hm (fun hb34 hm => ?_) (fun hb34 hm => ?_)
 refine C.skip (C.nx (C.seq (C.block (C.seq (U.start ?_)))))
 obtain ⟨x37, hx37, hm⟩ := hm
 refine U.r rfl (.none rfl) rfl rfl (by exact Rd.io T rfl rfl rfl rfl rfl rfl rfl hx37) ?_
 refine U.r rfl (.none rfl) rfl rfl (by exact Rd.le T rfl rfl rfl (idx_some hx37).2.2 rfl rfl rfl) ?_
 refine U.pd 1 T (C.nx (C.seq (U.start ?_)))
 refine U.ps 5 T rfl ?_
 refine U.r rfl (.none rfl) rfl rfl (by exact Rd.lk2 T (ke := kI) (ve := veI) (xs := m.shelf) (z0 := 0) (x := x37) rfl rfl kt3 zt3 (fun _ => rfl) rfl .rm rfl rfl rfl) ?_
 refine U.pd 5 T (C.nx (C.seq ?_))
 refine C.jn (fun (x40 : Bool) => [(0, .rp [.i m.site.Floor.W, .i m.site.Floor.H, .i m.site.Floor.D, .sl 1 eI m.site.Floor.Kind, .sl 1 eI m.site.Floor.Out, .sl 5 eApiZone m.site.Zones, .sl 2 eApiApart m.site.Aparts, .sl 2 eApiShelf m.site.Shelves, .sl 2 eApiStart m.site.Robots, .rm kI veI m.shelf, .rm kI veB m.robot, .rm kI veB m.zoned, .rm kS veI m.names, .rm kI veB m.oneways, .sl 1 eI m.shelves, .sl 1 eI m.zones]), (3, .p 0 0), (4, .i s9), (5, .p 1 0), (22, .sl 2 eApiShelf m.site.Shelves), (23, .i (m.site.Shelves.length : Int)), (24, .i s9), (61, .o 2), (62, .i (([x24, x25, x26, x27] : List Int).length : Int)), (63, .i s30), (100, .b x40)]) (fun (x40 : Bool) => [(0, .box (eApiFloor m.site.Floor)), (1, .box [.i x18.Cell, .v (.string x18.Class)]), (2, .val (.os 1 eI ([x24, x25, x26, x27] : List Int)))]) 3 hm (fun x40 hm => ?_) (fun J41 hm hJ41 => ?_)
 refine C.nx ?_
 refine C.ite rfl hm (fun hb46 hm => ?_) (fun hb46 hm => ?_)
 refine C.seq (U.start ?_)
 refine U.pd 2 T (C.nx (C.ret (C.brt (C.rt (C.rt (C.brt (C.brt (C.rt (C.rt (C.brt (C.rt ?_)))))))))))
 exact C.f1 T hβ ⟨s9, hm, rfl, rfl, rfl⟩
 refine C.skip (C.bnx (C.nx (U.start ?_)))
 refine U.pd 2 T (C.nx ?_)
 exact St.wk (C.next hm) (Wk.a (idR 3))
 refine D.beg 9999 [1] [] mix rfl rfl (by kernel_rfl) (by repeat (first | exact NoPanicQ.body | exact NoPanicQ.rnd | refine NoPanicQ.th ?_ | refine NoPanicQ.blk ?_ | refine NoPanicQ.ng ?_)) (fun hQ hS ws M' => ?_)
 refine D.ps 2 [(0, []), (1, [])] rfl hQ hS T rfl rfl (by kernel_rfl) ?_
 refine hm.cs (fun hb42 hm => ?_) (fun hb42 hm => ?_)
 refine D.q 2 [] hQ hS rfl (.take 1 true 77 _ hb42 rfl rfl rfl) rfl rfl (by exact Rd.p T rfl) rfl (by kernel_rfl) ?_
 refine D.q 3 [] hQ hS rfl (.take 1 true 77 _ hb42 rfl rfl rfl) rfl rfl (by exact Rd.p T rfl) rfl (by kernel_rfl) ?_
 refine D.q 4 [] hQ hS rfl (.take 1 true 77 _ hb42 rfl rfl rfl) rfl rfl (by exact Rd.p T rfl) rfl (by kernel_rfl) ?_
 refine D.q 5 [] hQ hS rfl (.none rfl) rfl rfl (by exact Rd.pk rfl rfl hb42 rfl) rfl (by kernel_rfl) ?_
 refine D.ps 1 [(6, [])] rfl hQ hS T rfl rfl (by kernel_rfl) ?_
 refine hm.cs (fun hb43 hm => ?_) (fun hb43 hm => ?_)
 refine D.q 7 [] hQ hS rfl (.take 6 true 82 _ hb43 rfl rfl rfl) rfl rfl (by exact Rd.p T rfl) rfl (by kernel_rfl) ?_
 refine D.q 8 [] hQ hS rfl (.take 6 true 82 _ hb43 rfl rfl rfl) rfl rfl (by exact Rd.p T rfl) rfl (by kernel_rfl) ?_
 refine D.q 9 [] hQ hS rfl (.take 6 true 82 _ hb43 rfl rfl rfl) rfl rfl (by exact Rd.p T rfl) rfl (by kernel_rfl) ?_
 refine D.q 10 [] hQ hS rfl (.take 6 true 82 _ hb43 rfl rfl rfl) rfl rfl (by exact Rd.p T rfl) rfl (by kernel_rfl) ?_
 refine D.q 11 [] hQ hS rfl (.take 6 true 82 _ hb43 rfl rfl rfl) rfl rfl (by exact Rd.l T rfl rfl rfl) rfl (by kernel_rfl) ?_
 refine D.q 12 [] hQ hS rfl (.take 6 true 82 _ hb43 rfl rfl rfl) rfl rfl (by exact Rd.p T rfl) rfl (by kernel_rfl) ?_
 refine D.q 13 [] hQ hS rfl (.take 6 true 82 _ hb43 rfl rfl rfl) rfl rfl (by exact Rd.l T rfl rfl rfl) rfl (by kernel_rfl) ?_
 refine D.q 14 [] hQ hS rfl (.take 6 true 82 _ hb43 rfl rfl rfl) rfl rfl (by exact Rd.p T rfl) rfl (by kernel_rfl) ?_
 refine D.q 15 [] hQ hS rfl (.take 6 true 82 _ hb43 rfl rfl rfl) rfl rfl (by exact Rd.p T rfl) rfl (by kernel_rfl) ?_
 refine D.q 16 [] hQ hS rfl (.take 6 true 82 _ hb43 rfl rfl rfl) rfl rfl (by exact Rd.p T rfl) rfl (by kernel_rfl) ?_
 refine D.q 17 [] hQ hS rfl (.take 6 true 82 _ hb43 rfl rfl rfl) rfl rfl (by exact Rd.p T rfl) rfl (by kernel_rfl) ?_
 refine D.q 18 [] hQ hS rfl (.take 6 true 82 _ hb43 rfl rfl rfl) rfl rfl (by exact Rd.l T rfl rfl rfl) rfl (by kernel_rfl) ?_
 refine D.q 19 [] hQ hS rfl (.take 6 true 82 _ hb43 rfl rfl rfl) rfl rfl (by exact Rd.p T rfl) rfl (by kernel_rfl) ?_
 obtain ⟨x44, hx44, hm⟩ := hm
 refine D.q 20 [] hQ hS rfl (.take 6 true 82 _ hb43 rfl rfl rfl) rfl rfl (by exact Rd.ix T rfl rfl rfl rfl rfl rfl hx44) rfl (by kernel_rfl) ?_
 refine D.q 21 [] hQ hS rfl (.take 6 true 82 _ hb43 rfl rfl rfl) rfl rfl (by exact Rd.p T rfl) rfl (by kernel_rfl) ?_
 refine D.q 22 [] hQ hS rfl (.take 6 true 82 _ hb43 rfl rfl rfl) rfl rfl (by exact Rd.l T rfl rfl rfl) rfl (by kernel_rfl) ?_
 refine D.k 23 (T_survey_Apart m.site.Aparts x18.Class x44.Class _ hm) en76 (fun x45 hm => ?_) (hw := .take 6 true 82 _ hb43 rfl rfl rfl)
 refine D.q 24 [] hQ hS rfl (.none rfl) rfl rfl (by exact Rd.pk rfl rfl hb43 rfl) rfl (by kernel_rfl) ?_
 refine D.done (by kernel_rfl) ?_
 exact St.wa (idR 3) (hJ41 _ hm)
 refine D.sx 7 [] hQ hS (.skip 6 true 82 _ hb43 rfl rfl rfl) ?_
 refine D.sx 8 [] hQ hS (.skip 6 true 82 _ hb43 rfl rfl rfl) ?_
 refine D.sx 9 [] hQ hS (.skip 6 true 82 _ hb43 rfl rfl rfl) ?_
 refine D.sx 10 [] hQ hS (.skip 6 true 82 _ hb43 rfl rfl rfl) ?_
 refine D.sx 11 [] hQ hS (.skip 6 true 82 _ hb43 rfl rfl rfl) ?_
 refine D.sx 12 [] hQ hS (.skip 6 true 82 _ hb43 rfl rfl rfl) ?_
 refine D.sx 13 [] hQ hS (.skip 6 true 82 _ hb43 rfl rfl rfl) ?_
 refine D.sx 14 [] hQ hS (.skip 6 true 82 _ hb43 rfl rfl rfl) ?_
 refine D.sx 15 [] hQ hS (.skip 6 true 82 _ hb43 rfl rfl rfl) ?_
 refine D.sx 16 [] hQ hS (.skip 6 true 82 _ hb43 rfl rfl rfl) ?_
 refine D.sx 17 [] hQ hS (.skip 6 true 82 _ hb43 rfl rfl rfl) ?_
 refine D.sx 18 [] hQ hS (.skip 6 true 82 _ hb43 rfl rfl rfl) ?_
 refine D.sx 19 [] hQ hS (.skip 6 true 82 _ hb43 rfl rfl rfl) ?_
 refine D.sx 20 [] hQ hS (.skip 6 true 82 _ hb43 rfl rfl rfl) ?_
 refine D.sx 21 [] hQ hS (.skip 6 true 82 _ hb43 rfl rfl rfl) ?_
 refine D.sx 22 [] hQ hS (.skip 6 true 82 _ hb43 rfl rfl rfl) ?_
 refine D.sx 23 [] hQ hS (.skip 6 true 82 _ hb43 rfl rfl rfl) ?_
 refine D.q 24 [] hQ hS rfl (.none rfl) rfl rfl (by exact Rd.pk' rfl rfl hb43 rfl) rfl (by kernel_rfl) ?_
 refine D.done (by kernel_rfl) ?_
 exact St.wa (idR 3) (hJ41 _ hm)
 refine D.sx 2 [] hQ hS (.skip 1 true 77 _ hb42 rfl rfl rfl) ?_
 refine D.sx 3 [] hQ hS (.skip 1 true 77 _ hb42 rfl rfl rfl) ?_
 refine D.sx 4 [] hQ hS (.skip 1 true 77 _ hb42 rfl rfl rfl) ?_
 refine D.q 5 [] hQ hS rfl (.none rfl) rfl rfl (by exact Rd.pk' rfl rfl hb42 rfl) rfl (by kernel_rfl) ?_
 refine D.ps 1 [(6, [])] rfl hQ hS T rfl rfl (by kernel_rfl) ?_
 refine D.sx 7 [] hQ hS (.skip 6 true 82 _ rfl rfl rfl rfl) ?_
 refine D.sx 8 [] hQ hS (.skip 6 true 82 _ rfl rfl rfl rfl) ?_
 refine D.sx 9 [] hQ hS (.skip 6 true 82 _ rfl rfl rfl rfl) ?_
 refine D.sx 10 [] hQ hS (.skip 6 true 82 _ rfl rfl rfl rfl) ?_
 refine D.sx 11 [] hQ hS (.skip 6 true 82 _ rfl rfl rfl rfl) ?_
 refine D.sx 12 [] hQ hS (.skip 6 true 82 _ rfl rfl rfl rfl) ?_
 refine D.sx 13 [] hQ hS (.skip 6 true 82 _ rfl rfl rfl rfl) ?_
 refine D.sx 14 [] hQ hS (.skip 6 true 82 _ rfl rfl rfl rfl) ?_
 refine D.sx 15 [] hQ hS (.skip 6 true 82 _ rfl rfl rfl rfl) ?_
 refine D.sx 16 [] hQ hS (.skip 6 true 82 _ rfl rfl rfl rfl) ?_
 refine D.sx 17 [] hQ hS (.skip 6 true 82 _ rfl rfl rfl rfl) ?_
 refine D.sx 18 [] hQ hS (.skip 6 true 82 _ rfl rfl rfl rfl) ?_
 refine D.sx 19 [] hQ hS (.skip 6 true 82 _ rfl rfl rfl rfl) ?_
 refine D.sx 20 [] hQ hS (.skip 6 true 82 _ rfl rfl rfl rfl) ?_
 refine D.sx 21 [] hQ hS (.skip 6 true 82 _ rfl rfl rfl rfl) ?_
 refine D.sx 22 [] hQ hS (.skip 6 true 82 _ rfl rfl rfl rfl) ?_
 refine D.sx 23 [] hQ hS (.skip 6 true 82 _ rfl rfl rfl rfl) ?_
 refine D.q 24 [] hQ hS rfl (.none rfl) rfl rfl (by exact Rd.pk' rfl rfl rfl rfl) rfl (by kernel_rfl) ?_
 refine D.done (by kernel_rfl) ?_
 exact St.wa (idR 3) (hJ41 _ hm)
 refine C.exit (C.ex (C.ex (C.bex ?_)))
 exact St.wa [some 0] (hJ29 _ hm)
 refine C.exit (C.ex (C.ex (C.bex ?_)))
 exact St.wk (hJ8 _ hm) (Wk.mk' [] rfl rfl trivial trivial rfl)
theorem T_survey_maker_crowded_1 (z : ApiZone) (c0 : SurveyMaker) (post : Bool → Prop) (hm : V_survey_maker_crowded_1 z c0 post) :
    Tr Tryz.prog 81 [.agg (eApiZone z), .rp [.rp [.i c0.site.Floor.W, .i c0.site.Floor.H, .i c0.site.Floor.D, .sl 1 eI c0.site.Floor.Kind, .sl 1 eI c0.site.Floor.Out, .sl 5 eApiZone c0.site.Zones, .sl 2 eApiApart c0.site.Aparts, .sl 2 eApiShelf c0.site.Shelves, .sl 2 eApiStart c0.site.Robots, .rm kI veI c0.shelf, .rm kI veB c0.robot, .rm kI veB c0.zoned, .rm kS veI c0.names, .rm kI veB c0.oneways, .sl 1 eI c0.shelves, .sl 1 eI c0.zones]]] [] 0 (fun A H' k => ∃ y, post y ∧ A = (.b y) ∧ H' = [] ∧ k = 0) := by
 refine Tr.intro (n := 46) Tryz.func81 rfl Tryz.ntmps81 rfl (fun w0 ok F β hβ => ?_)
 unfold V_survey_maker_crowded_1 at hm
 refine C.seq (U.start ?_)
 refine U.bx ?_
 refine U.pd 1 T (C.nx (C.seq (U.start ?_)))
 refine U.pd 1 T (C.nx (C.seq (C.seq (U.start ?_))))
 refine U.pd 4 T (C.nx ?_)
 refine C.jn (fun (x7 : Int) => [(2, .p 0 0), (4, .i x7)]) (fun (x7 : Int) => [(0, .box (eApiZone z))]) 1 hm (fun x7 hm => ?_) (fun J8 hm hJ8 => ?_)
 refine C.nx (C.seq (U.start ?_))
 refine U.pd 5 T (C.nx (C.ret ?_))
 exact C.f1 T hβ ⟨decide (x7 < z.Keep), hm, rfl, rfl, rfl⟩
 refine C.block ?_
 refine St.wk (C.loop (fun (s9 : Int × Int) => [(1, .rp [.rp [.i c0.site.Floor.W, .i c0.site.Floor.H, .i c0.site.Floor.D, .sl 1 eI c0.site.Floor.Kind, .sl 1 eI c0.site.Floor.Out, .sl 5 eApiZone c0.site.Zones, .sl 2 eApiApart c0.site.Aparts, .sl 2 eApiShelf c0.site.Shelves, .sl 2 eApiStart c0.site.Robots, .rm kI veI c0.shelf, .rm kI veB c0.robot, .rm kI veB c0.zoned, .rm kS veI c0.names, .rm kI veB c0.oneways, .sl 1 eI c0.shelves, .sl 1 eI c0.zones]]), (2, .p 0 0), (4, .i s9.1), (10, .sl 1 eI z.Cells), (11, .i (z.Cells.length : Int)), (12, .i s9.2)]) (fun (s9 : Int × Int) => [(0, .box (eApiZone z))]) hm (fun s9 Y10 hm => ?_)) (Wk.a [some 0])
 refine C.seq (U.start ?_)
 refine U.pd 1 T (C.nx (C.seq ?_))
 refine C.ite rfl hm (fun hb13 hm => ?_) (fun hb13 hm => ?_)
 refine C.skip (C.nx (C.seq (C.block (C.seq (U.start ?_)))))
 obtain ⟨x16, hx16, hm⟩ := hm
 refine U.r rfl (.none rfl) rfl rfl (by exact Rd.ix T rfl rfl rfl rfl rfl rfl hx16) ?_
 refine U.pd 2 T (C.nx (C.seq (U.start ?_)))
 refine U.ps 5 T rfl ?_
 refine U.r rfl (.none rfl) rfl rfl (by exact Rd.lk2 T (ke := kI) (ve := veI) (xs := c0.shelf) (z0 := 0) (x := x16) rfl rfl kt3 zt3 (fun _ => rfl) rfl .rm rfl rfl rfl) ?_
 refine U.pd 5 T (C.nx (C.seq ?_))
 refine C.jn (fun (x19 : Bool) => [(1, .rp [.rp [.i c0.site.Floor.W, .i c0.site.Floor.H, .i c0.site.Floor.D, .sl 1 eI c0.site.Floor.Kind, .sl 1 eI c0.site.Floor.Out, .sl 5 eApiZone c0.site.Zones, .sl 2 eApiApart c0.site.Aparts, .sl 2 eApiShelf c0.site.Shelves, .sl 2 eApiStart c0.site.Robots, .rm kI veI c0.shelf, .rm kI veB c0.robot, .rm kI veB c0.zoned, .rm kS veI c0.names, .rm kI veB c0.oneways, .sl 1 eI c0.shelves, .sl 1 eI c0.zones]]), (2, .p 0 0), (4, .i s9.1), (10, .sl 1 eI z.Cells), (11, .i (z.Cells.length : Int)), (12, .i s9.2), (38, .b x19)]) (fun (x19 : Bool) => [(0, .box (eApiZone z))]) 1 hm (fun x19 hm => ?_) (fun J20 hm hJ20 => ?_)
 refine C.nx ?_
 refine C.jn (fun (x24 : Int) => [(1, .rp [.rp [.i c0.site.Floor.W, .i c0.site.Floor.H, .i c0.site.Floor.D, .sl 1 eI c0.site.Floor.Kind, .sl 1 eI c0.site.Floor.Out, .sl 5 eApiZone c0.site.Zones, .sl 2 eApiApart c0.site.Aparts, .sl 2 eApiShelf c0.site.Shelves, .sl 2 eApiStart c0.site.Robots, .rm kI veI c0.shelf, .rm kI veB c0.robot, .rm kI veB c0.zoned, .rm kS veI c0.names, .rm kI veB c0.oneways, .sl 1 eI c0.shelves, .sl 1 eI c0.zones]]), (2, .p 0 0), (4, .i x24), (10, .sl 1 eI z.Cells), (11, .i (z.Cells.length : Int)), (12, .i s9.2)]) (fun (x24 : Int) => [(0, .box (eApiZone z))]) 1 hm (fun x24 hm => ?_) (fun J25 hm hJ25 => ?_)
 refine C.bnx (C.nx (U.start ?_))
 refine U.pd 2 T (C.nx ?_)
 exact St.wk (C.next hm) (Wk.a [some 0])
 refine C.ite rfl hm (fun hb26 hm => ?_) (fun hb26 hm => ?_)
 refine U.start ?_
 refine U.pd 3 T ?_
 exact St.wa [some 0] (hJ25 _ hm)
 refine C.skip ?_
 exact St.wa [some 0] (hJ25 _ hm)
 refine U.start ?_
 refine U.ps 3 T rfl ?_
 refine hm.cs (fun hb21 hm => ?_) (fun hb21 hm => ?_)
 refine U.sks 10 2 true 27 (ntF hb21) rfl rfl rfl ?_
 refine U.r rfl (.none rfl) rfl rfl (by exact Rd.pk' rfl rfl (ntF hb21) rfl) ?_
 refine U.done ?_
 exact St.wa [some 0] (hJ20 _ hm)
 refine U.pg 7 2 true 27 (ntT hb21) T rfl rfl rfl rfl ?_
 obtain ⟨x22, hx22, hm⟩ := hm
 refine U.r rfl (.take 2 true 27 _ (ntT hb21) rfl rfl rfl) rfl rfl (by exact Rd.ix T rfl rfl rfl rfl rfl rfl hx22) ?_
 refine U.pg 1 2 true 27 (ntT hb21) T rfl rfl rfl rfl ?_
 refine U.k (T_survey_stands x22 _ hm) en77 (fun x23 hm => ?_) (hw := .take 2 true 27 _ (ntT hb21) rfl rfl rfl)
 refine U.r rfl (.none rfl) rfl rfl (by exact Rd.pk rfl rfl (ntT hb21) rfl) ?_
 refine U.done ?_
 exact St.wa [some 0] (hJ20 _ hm)
 refine C.exit (C.ex (C.ex (C.bex ?_)))
 exact St.wa [some 0] (hJ8 _ hm)
theorem T_slices_IndexFunc_api_Zone_api_Zone__survey_maker_crowded_1 (s_1 : List ApiZone) (f_c0 : SurveyMaker) (post : Int → Prop) (hm : V_slices_IndexFunc_api_Zone_api_Zone__survey_maker_crowded_1 s_1 f_c0 post) :
    Tr Tryz.prog 80 [.sl 5 eApiZone s_1, .fn (.func 81) [] [.rp [.rp [.i f_c0.site.Floor.W, .i f_c0.site.Floor.H, .i f_c0.site.Floor.D, .sl 1 eI f_c0.site.Floor.Kind, .sl 1 eI f_c0.site.Floor.Out, .sl 5 eApiZone f_c0.site.Zones, .sl 2 eApiApart f_c0.site.Aparts, .sl 2 eApiShelf f_c0.site.Shelves, .sl 2 eApiStart f_c0.site.Robots, .rm kI veI f_c0.shelf, .rm kI veB f_c0.robot, .rm kI veB f_c0.zoned, .rm kS veI f_c0.names, .rm kI veB f_c0.oneways, .sl 1 eI f_c0.shelves, .sl 1 eI f_c0.zones]]]] [] 0 (fun A H' k => ∃ y, post y ∧ A = (.i y) ∧ H' = [] ∧ k = 0) := by
 refine Tr.intro (n := 19) Tryz.func80 rfl Tryz.ntmps80 rfl (fun w0 ok F β hβ => ?_)
 unfold V_slices_IndexFunc_api_Zone_api_Zone__survey_maker_crowded_1 at hm
 refine C.seq (U.start ?_)
 refine U.pd 1 T (C.nx (C.seq (C.seq (U.start ?_))))
 refine U.pd 3 T (C.nx ?_)
 refine C.jn (fun (x5 : Unit) => []) (fun (x5 : Unit) => []) 0 hm (fun x5 hm => ?_) (fun J6 hm hJ6 => ?_)
 refine C.nx (C.seq (U.start ?_))
 refine U.pd 1 T (C.nx (C.ret ?_))
 exact C.f1 T hβ ⟨(-1), hm, rfl, rfl, rfl⟩
 refine C.block ?_
 refine St.wk (C.loop (fun (s7 : Int) => [(0, .sl 5 eApiZone s_1), (1, .fn (.func 81) [] [.rp [.rp [.i f_c0.site.Floor.W, .i f_c0.site.Floor.H, .i f_c0.site.Floor.D, .sl 1 eI f_c0.site.Floor.Kind, .sl 1 eI f_c0.site.Floor.Out, .sl 5 eApiZone f_c0.site.Zones, .sl 2 eApiApart f_c0.site.Aparts, .sl 2 eApiShelf f_c0.site.Shelves, .sl 2 eApiStart f_c0.site.Robots, .rm kI veI f_c0.shelf, .rm kI veB f_c0.robot, .rm kI veB f_c0.zoned, .rm kS veI f_c0.names, .rm kI veB f_c0.oneways, .sl 1 eI f_c0.shelves, .sl 1 eI f_c0.zones]]]), (7, .i (s_1.length : Int)), (8, .i s7)]) (fun (s7 : Int) => []) hm (fun s7 Y8 hm => ?_)) (Wk.e)
 refine C.seq (U.start ?_)
 refine U.pd 1 T (C.nx (C.seq ?_))
 refine C.ite rfl hm (fun hb11 hm => ?_) (fun hb11 hm => ?_)
 refine C.skip (C.nx (C.seq (C.block (C.seq (U.start ?_)))))
 refine U.pd 2 T (C.nx (C.seq (U.start ?_)))
 refine U.ps 3 T rfl ?_
 obtain ⟨x16, hx16, hm⟩ := hm
 refine U.r rfl (.none rfl) rfl rfl (by exact Rd.ix T rfl rfl rfl rfl rfl rfl hx16) ?_
 refine U.ps 1 T rfl ?_
 refine U.k (T_survey_maker_crowded_1 x16 f_c0 _ hm) en81 (fun x17 hm => ?_)
 refine U.done (C.nx ?_)
 refine C.ite rfl hm (fun hb18 hm => ?_) (fun hb18 hm => ?_)
 refine C.seq (U.start ?_)
 refine U.pd 2 T (C.nx (C.ret (C.brt (C.rt (C.rt (C.brt (C.rt ?_)))))))
 exact C.f1 T hβ ⟨s7, hm, rfl, rfl, rfl⟩
 refine C.skip (C.bnx (C.nx (U.start ?_)))
 refine U.pd 2 T (C.nx ?_)
 exact St.wk (C.next hm) (Wk.e)
 refine C.exit (C.ex (C.ex (C.bex ?_)))
 exact St.wk (hJ6 _ hm) (Wk.mk' [] rfl rfl trivial trivial rfl)
theorem T_survey_maker_crowded (m : SurveyMaker) (post : Int → Prop) (hm : V_survey_maker_crowded m post) :
    Tr Tryz.prog 41 [.rp [.i m.site.Floor.W, .i m.site.Floor.H, .i m.site.Floor.D, .sl 1 eI m.site.Floor.Kind, .sl 1 eI m.site.Floor.Out, .sl 5 eApiZone m.site.Zones, .sl 2 eApiApart m.site.Aparts, .sl 2 eApiShelf m.site.Shelves, .sl 2 eApiStart m.site.Robots, .rm kI veI m.shelf, .rm kI veB m.robot, .rm kI veB m.zoned, .rm kS veI m.names, .rm kI veB m.oneways, .sl 1 eI m.shelves, .sl 1 eI m.zones]] [] 0 (fun A H' k => ∃ y, post y ∧ A = (.i y) ∧ H' = [] ∧ k = 0) := by
 refine Tr.intro (n := 10) Tryz.func41 rfl Tryz.ntmps41 rfl (fun w0 ok F β hβ => ?_)
 unfold V_survey_maker_crowded at hm
 refine C.seq (U.start ?_)
 refine U.bx ?_
 refine U.pd 1 T (C.nx (C.seq (U.start ?_)))
 refine U.ps 6 T rfl ?_
 refine U.k (T_slices_IndexFunc_api_Zone_api_Zone__survey_maker_crowded_1 m.site.Zones m _ hm) en80 (fun x5 hm => ?_)
 refine U.pd 1 T (C.nx (C.ret ?_))
 exact C.f1 T hβ ⟨x5, hm, rfl, rfl, rfl⟩
theorem T_survey_maker_charger (m : SurveyMaker) (post : Bool → Prop) (hm : V_survey_maker_charger m post) :
    Tr Tryz.prog 42 [.rp [.i m.site.Floor.W, .i m.site.Floor.H, .i m.site.Floor.D, .sl 1 eI m.site.Floor.Kind, .sl 1 eI m.site.Floor.Out, .sl 5 eApiZone m.site.Zones, .sl 2 eApiApart m.site.Aparts, .sl 2 eApiShelf m.site.Shelves, .sl 2 eApiStart m.site.Robots, .rm kI veI m.shelf, .rm kI veB m.robot, .rm kI veB m.zoned, .rm kS veI m.names, .rm kI veB m.oneways, .sl 1 eI m.shelves, .sl 1 eI m.zones]] [] 0 (fun A H' k => ∃ y, post y ∧ A = (.b y) ∧ H' = [] ∧ k = 0) := by
 refine Tr.intro (n := 10) Tryz.func42 rfl Tryz.ntmps42 rfl (fun w0 ok F β hβ => ?_)
 unfold V_survey_maker_charger at hm
 refine C.seq (U.start ?_)
 refine U.pd 1 T (C.nx (C.seq (U.start ?_)))
 refine U.ps 6 T rfl ?_
 refine U.k (T_slices_Contains_int_int m.site.Floor.Kind 3 _ hm) en54 (fun x5 hm => ?_)
 refine U.pd 1 T (C.nx (C.ret ?_))
 exact C.f1 T hβ ⟨x5, hm, rfl, rfl, rfl⟩
end Go.Proofs.YtbkpekodmhkbdaaGreat
