/- The walks: each Go function does what its verification condition says (written by a program of the prover). -/
import Derived.Test.YtbpbennpgnjbkaaGreatW2
import Derived.KernelRfl
set_option maxRecDepth 100000
set_option maxHeartbeats 8000000
set_option linter.unusedVariables false
set_option linter.unusedSimpArgs false
namespace Go.Proofs.YtbpbennpgnjbkaaGreat
open Go Go.Taq
abbrev cE0 (st:ApiState):Nat×AVal:=(0,.agg (Q1 st))
abbrev cE1 (st:ApiState):Nat×AVal:=(4,.i st.Tick)
abbrev cE2 (st:ApiState):Nat×AVal:=(7,.sl 1 eI st.Shelves)
abbrev cE3:Nat×AVal:=(10,.p 0 2)
abbrev cE4 (st:ApiState):Nat×AVal:=(11,.sl 6 Q4 st.Robots)
abbrev cE5:Nat×AVal:=(14,.p 0 3)
abbrev cE6 (st:ApiState):Nat×AVal:=(15,.sl 1 eI st.People)
abbrev cE7:Nat×AVal:=(18,.p 0 4)
abbrev cE8 (st:ApiState):Nat×AVal:=(19,.sl 1 eI st.Dead)
abbrev cE9:Nat×AVal:=(22,.p 0 5)
abbrev cE10 (st:ApiState):Nat×AVal:=(23,.sl 2 Q3 st.Stuck)
abbrev cE11 (st:ApiState):Nat×Res:=(0,.box (Q1 st))
abbrev cE12:Nat×Res:=(1,.box [.i 0,vN,vN,vN,vN,vN])
abbrev cE13 (st:ApiState):Nat×Res:=(3,.val (.os 1 eI (([]:List Int)++st.Shelves)))
abbrev cE14 (st:ApiState):Nat×Res:=(5,.val (.os 6 Q4 (([]:List ApiRobot)++st.Robots)))
abbrev cE15 (st:ApiState):Nat×Res:=(7,.val (.os 1 eI (([]:List Int)++st.People)))
abbrev cE16:Nat×Res:=(6,.val (.os 1 eI ([]:List Int)))
abbrev cE17:Nat×Res:=(7,.val (.os 2 Q3 ([]:List Q0)))
abbrev cE18:Nat×Res:=(4,.val (.os 6 Q4 ([]:List ApiRobot)))
abbrev cE19:Nat×Res:=(5,.val (.os 1 eI ([]:List Int)))
abbrev cE20:Nat×Res:=(6,.val (.os 2 Q3 ([]:List Q0)))
abbrev cE21:Nat×Res:=(4,.val (.os 1 eI ([]:List Int)))
abbrev cE22:Nat×Res:=(2,.val (.os 1 eI ([]:List Int)))
abbrev cE23:Nat×Res:=(3,.val (.os 6 Q4 ([]:List ApiRobot)))
abbrev cE24:Nat×Res:=(5,.val (.os 2 Q3 ([]:List Q0)))
abbrev cE25:Nat×Res:=(3,.val (.os 1 eI ([]:List Int)))
abbrev cE26:Nat×Res:=(2,.val (.os 6 Q4 ([]:List ApiRobot)))
abbrev cE27:Nat×Res:=(4,.val (.os 2 Q3 ([]:List Q0)))
abbrev cE28:Nat×Res:=(3,.val (.os 2 Q3 ([]:List Q0)))
theorem W5 (st:ApiState) (post:ApiState→Prop) (g:K9 st post):
  Tr Tryz.prog 54 [.agg (Q1 st)] [] 0 (fun A H' k=>∃y,post y∧A=(.agg [.i y.Tick,.o 0,.o 1,.o 2,.o 3,.o 4])∧H'=[(0,.val (.os 1 eI y.Shelves)),(1,.val (.os 6 Q4 y.Robots)),(2,.val (.os 1 eI y.People)),(3,.val (.os 1 eI y.Dead)),(4,.val (.os 2 Q3 y.Stuck))]∧k=5):=by
 refine Tr.go Tryz.func54 Tryz.ntmps54 fun _ _ _ _ o=>?_
 unfold K9 at g
 refine C.ss (U.bx ?_)
 refine U.al T ?_
 refine U.done (C.xs (D.bq mix 23 [0] [2,3,4,5,6,7,8,9,10] (fun hQ hS ws M'=>?_)))
 refine D.pq 12 (zl [0,1,3,4,7,8,11,12,15,16,19,20]) T ?_
 obtain⟨y5,g⟩:=g
 obtain⟨y6,g⟩:=g
 obtain⟨y7,g⟩:=g
 obtain⟨y8,g⟩:=g
 refine D.have false [cE0 st,(1,.p 0 0),(2,.p 1 0),(3,.p 0 0),cE1 st,(5,.o 2),(6,.p 0 1),cE2 st,(8,.o 3),(9,.o 4),cE3,cE4 st,(12,.o 5),(13,.o 6),cE5,cE6 st,(16,.o 7),(17,.o 8),cE7,cE8 st,(20,.o 9),(21,.o 10),cE9,cE10 st] [cE11 st,cE12,cE13 st,cE14 st,cE15 st,(9,.val (.os 1 eI (([]:List Int)++st.Dead))),(10,.val (.os 2 Q3 ([]:List Q0)))] 11 3 (bvA 24 [21,22,23]) ?_ fun hd4_61=>?_
 obtain⟨y9,g⟩:=g
 refine D.e1 21 rfl (.none rfl) (by exact Eff1.ap T rfl rfl rfl rfl rfl rfl (.inl rfl) rfl rfl rfl (fun _=>rfl) rfl y9) (by kernel_rfl) rfl rfl ?_
 refine D.pq 1 [(22,[])] T ?_
 refine D.ze1 rfl (.none rfl) (by exact Eff1.st T rfl rfl rfl rfl rfl rfl rfl rfl rfl rfl) (by kernel_rfl) (by kernel_rfl) ?_
 refine C.nx (C.ret ?_)
 exact C.g1 [some 3,some 5,some 7,some 9,some 11] T o ⟨({Tick:=st.Tick,Shelves:=(([]:List Int)++st.Shelves),Robots:=(([]:List ApiRobot)++st.Robots),People:=(([]:List Int)++st.People),Dead:=(([]:List Int)++st.Dead),Stuck:=(([]:List Q0)++st.Stuck):ApiState}),g,rfl,rfl,rfl⟩
 refine D.have false [cE0 st,(1,.p 0 0),(2,.p 1 0),(3,.p 0 0),cE1 st,(5,.o 2),(6,.p 0 1),cE2 st,(8,.o 3),(9,.o 4),cE3,cE4 st,(12,.o 5),(13,.o 6),cE5,cE6 st,(16,.o 7),(17,.o 8),cE7,cE8 st,(20,.o 9),cE9,cE10 st] [cE11 st,cE12,cE13 st,cE14 st,cE15 st,(9,.val (.os 1 eI (([]:List Int)++st.Dead)))] 10 4 (bvA 24 [18,21,22,23]) ?_ fun hd4_59=>?_
 refine D.all 18 [] (by kernel_rfl) ⟨?_,trivial⟩
 refine D.bs T Q3 ([]:List Q0) ?_
 exact D.tq [0,1,2,3,4,5,6,7,8,9,10] hd4_61
 refine D.have false [cE0 st,(1,.p 0 0),(2,.p 1 0),(3,.p 0 0),cE1 st,(5,.o 2),(6,.p 0 1),cE2 st,(8,.o 3),(9,.o 4),cE3,cE4 st,(12,.o 5),(13,.o 6),cE5,cE6 st,(16,.o 7),(17,.o 8),cE7,cE8 st,(21,.o 9),cE9,cE10 st] [cE11 st,cE12,cE13 st,cE14 st,cE15 st,(8,.val (.os 1 eI ([]:List Int))),(9,.val (.os 2 Q3 ([]:List Q0)))] 10 4 (bvA 24 [17,21,22,23]) ?_ fun hd4_60=>?_
 refine D.all 17 [] (by kernel_rfl) ⟨?_,trivial⟩
 refine D.ef1 rfl (.none rfl) (by exact Eff1.ap T rfl rfl rfl rfl rfl rfl (.inl rfl) rfl rfl rfl (fun _=>rfl) rfl y8) rfl rfl ?_
 exact D.tq [0,1,2,3,4,5,6,7,8,10,9] hd4_61
 refine D.have false [cE0 st,(1,.p 0 0),(2,.p 1 0),(3,.p 0 0),cE1 st,(5,.o 2),(6,.p 0 1),cE2 st,(8,.o 3),(9,.o 4),cE3,cE4 st,(12,.o 5),(13,.o 6),cE5,cE6 st,(16,.o 7),(17,.o 8),cE7,cE8 st,cE9,cE10 st] [cE11 st,cE12,cE13 st,cE14 st,cE15 st,(8,.val (.os 1 eI ([]:List Int)))] 9 5 (bvA 24 [17,18,21,22,23]) ?_ fun hd4_56=>?_
 refine D.all 17 [18] (by kernel_rfl) ⟨?_,?_,trivial⟩
 refine D.ef1 rfl (.none rfl) (by exact Eff1.ap T rfl rfl rfl rfl rfl rfl (.inl rfl) rfl rfl rfl (fun _=>rfl) rfl y8) rfl rfl ?_
 exact D.tq [0,1,2,3,4,5,6,7,8,9] hd4_59
 refine D.bs T Q3 ([]:List Q0) ?_
 exact D.tq [0,1,2,3,4,5,6,7,8,9] hd4_60
 refine D.have false [cE0 st,(1,.p 0 0),(2,.p 1 0),(3,.p 0 0),cE1 st,(5,.o 2),(6,.p 0 1),cE2 st,(8,.o 3),(9,.o 4),cE3,cE4 st,(12,.o 5),(13,.o 6),cE5,cE6 st,(16,.o 7),cE7,cE8 st,(21,.o 8),cE9,cE10 st] [cE11 st,cE12,cE13 st,cE14 st,cE15 st,(8,.val (.os 2 Q3 ([]:List Q0)))] 9 5 (bvA 24 [14,17,21,22,23]) ?_ fun hd4_57=>?_
 refine D.all 14 [] (by kernel_rfl) ⟨?_,trivial⟩
 refine D.bs T eI ([]:List Int) ?_
 exact D.tq [0,1,2,3,4,5,6,7,9,8] hd4_60
 refine D.have false [cE0 st,(1,.p 0 0),(2,.p 1 0),(3,.p 0 0),cE1 st,(5,.o 2),(6,.p 0 1),cE2 st,(8,.o 3),(9,.o 4),cE3,cE4 st,(12,.o 5),(13,.o 6),cE5,cE6 st,(17,.o 7),cE7,cE8 st,(21,.o 8),cE9,cE10 st] [cE11 st,cE12,cE13 st,cE14 st,cE16,(7,.val (.os 1 eI ([]:List Int))),(8,.val (.os 2 Q3 ([]:List Q0)))] 9 5 (bvA 24 [13,17,21,22,23]) ?_ fun hd4_58=>?_
 refine D.all 13 [] (by kernel_rfl) ⟨?_,trivial⟩
 refine D.ef1 rfl (.none rfl) (by exact Eff1.ap T rfl rfl rfl rfl rfl rfl (.inl rfl) rfl rfl rfl (fun _=>rfl) rfl y7) rfl rfl ?_
 exact D.tq [0,1,2,3,4,5,6,9,7,8] hd4_60
 refine D.have false [cE0 st,(1,.p 0 0),(2,.p 1 0),(3,.p 0 0),cE1 st,(5,.o 2),(6,.p 0 1),cE2 st,(8,.o 3),(9,.o 4),cE3,cE4 st,(12,.o 5),(13,.o 6),cE5,cE6 st,(16,.o 7),cE7,cE8 st,cE9,cE10 st] [cE11 st,cE12,cE13 st,cE14 st,cE15 st] 8 6 (bvA 24 [14,17,18,21,22,23]) ?_ fun hd4_51=>?_
 refine D.all 14 [18] (by kernel_rfl) ⟨?_,?_,trivial⟩
 refine D.bs T eI ([]:List Int) ?_
 exact D.tq [0,1,2,3,4,5,6,7,8] hd4_56
 refine D.bs T Q3 ([]:List Q0) ?_
 exact D.tq [0,1,2,3,4,5,6,7,8] hd4_57
 refine D.have false [cE0 st,(1,.p 0 0),(2,.p 1 0),(3,.p 0 0),cE1 st,(5,.o 2),(6,.p 0 1),cE2 st,(8,.o 3),(9,.o 4),cE3,cE4 st,(12,.o 5),(13,.o 6),cE5,cE6 st,(17,.o 7),cE7,cE8 st,cE9,cE10 st] [cE11 st,cE12,cE13 st,cE14 st,cE16,(7,.val (.os 1 eI ([]:List Int)))] 8 6 (bvA 24 [13,17,18,21,22,23]) ?_ fun hd4_52=>?_
 refine D.all 13 [18] (by kernel_rfl) ⟨?_,?_,trivial⟩
 refine D.ef1 rfl (.none rfl) (by exact Eff1.ap T rfl rfl rfl rfl rfl rfl (.inl rfl) rfl rfl rfl (fun _=>rfl) rfl y7) rfl rfl ?_
 exact D.tq [0,1,2,3,4,5,6,8,7] hd4_56
 refine D.bs T Q3 ([]:List Q0) ?_
 exact D.tq [0,1,2,3,4,5,6,7,8] hd4_58
 refine D.have false [cE0 st,(1,.p 0 0),(2,.p 1 0),(3,.p 0 0),cE1 st,(5,.o 2),(6,.p 0 1),cE2 st,(8,.o 3),(9,.o 4),cE3,cE4 st,(12,.o 5),(13,.o 6),cE5,cE6 st,cE7,cE8 st,(21,.o 7),cE9,cE10 st] [cE11 st,cE12,cE13 st,cE14 st,cE16,cE17] 8 6 (bvA 24 [13,14,17,21,22,23]) ?_ fun hd4_53=>?_
 refine D.all 13 [14] (by kernel_rfl) ⟨?_,?_,trivial⟩
 refine D.ef1 rfl (.none rfl) (by exact Eff1.ap T rfl rfl rfl rfl rfl rfl (.inl rfl) rfl rfl rfl (fun _=>rfl) rfl y7) rfl rfl ?_
 exact D.tq [0,1,2,3,4,5,6,8,7] hd4_57
 refine D.bs T eI ([]:List Int) ?_
 exact D.tq [0,1,2,3,4,5,6,8,7] hd4_58
 refine D.have false [cE0 st,(1,.p 0 0),(2,.p 1 0),(3,.p 0 0),cE1 st,(5,.o 2),(6,.p 0 1),cE2 st,(8,.o 3),(9,.o 4),cE3,cE4 st,(12,.o 5),cE5,cE6 st,(17,.o 6),cE7,cE8 st,(21,.o 7),cE9,cE10 st] [cE11 st,cE12,cE13 st,cE14 st,cE16,cE17] 8 6 (bvA 24 [10,13,17,21,22,23]) ?_ fun hd4_54=>?_
 refine D.all 10 [] (by kernel_rfl) ⟨?_,trivial⟩
 refine D.bs T eI ([]:List Int) ?_
 exact D.tq [0,1,2,3,4,5,8,6,7] hd4_58
 refine D.have false [cE0 st,(1,.p 0 0),(2,.p 1 0),(3,.p 0 0),cE1 st,(5,.o 2),(6,.p 0 1),cE2 st,(8,.o 3),(9,.o 4),cE3,cE4 st,(13,.o 5),cE5,cE6 st,(17,.o 6),cE7,cE8 st,(21,.o 7),cE9,cE10 st] [cE11 st,cE12,cE13 st,cE18,cE19,cE16,cE17] 8 6 (bvA 24 [9,13,17,21,22,23]) ?_ fun hd4_55=>?_
 refine D.all 9 [] (by kernel_rfl) ⟨?_,trivial⟩
 refine D.ef1 rfl (.none rfl) (by exact Eff1.ap T rfl rfl rfl rfl rfl rfl (.inl rfl) rfl rfl rfl (fun _=>rfl) rfl y6) rfl rfl ?_
 exact D.tq [0,1,2,3,4,8,5,6,7] hd4_58
 refine D.have false [cE0 st,(1,.p 0 0),(2,.p 1 0),(3,.p 0 0),cE1 st,(5,.o 2),(6,.p 0 1),cE2 st,(8,.o 3),(9,.o 4),cE3,cE4 st,(12,.o 5),(13,.o 6),cE5,cE6 st,cE7,cE8 st,cE9,cE10 st] [cE11 st,cE12,cE13 st,cE14 st,cE16] 7 7 (bvA 24 [13,14,17,18,21,22,23]) ?_ fun hd4_43=>?_
 refine D.all 13 [14,18] (by kernel_rfl) ⟨?_,?_,?_,trivial⟩
 refine D.ef1 rfl (.none rfl) (by exact Eff1.ap T rfl rfl rfl rfl rfl rfl (.inl rfl) rfl rfl rfl (fun _=>rfl) rfl y7) rfl rfl ?_
 exact D.tq [0,1,2,3,4,5,6,7] hd4_51
 refine D.bs T eI ([]:List Int) ?_
 exact D.tq [0,1,2,3,4,5,6,7] hd4_52
 refine D.bs T Q3 ([]:List Q0) ?_
 exact D.tq [0,1,2,3,4,5,6,7] hd4_53
 refine D.have false [cE0 st,(1,.p 0 0),(2,.p 1 0),(3,.p 0 0),cE1 st,(5,.o 2),(6,.p 0 1),cE2 st,(8,.o 3),(9,.o 4),cE3,cE4 st,(12,.o 5),cE5,cE6 st,(17,.o 6),cE7,cE8 st,cE9,cE10 st] [cE11 st,cE12,cE13 st,cE14 st,cE16] 7 7 (bvA 24 [10,13,17,18,21,22,23]) ?_ fun hd4_44=>?_
 refine D.all 10 [18] (by kernel_rfl) ⟨?_,?_,trivial⟩
 refine D.bs T eI ([]:List Int) ?_
 exact D.tq [0,1,2,3,4,5,7,6] hd4_52
 refine D.bs T Q3 ([]:List Q0) ?_
 exact D.tq [0,1,2,3,4,5,6,7] hd4_54
 refine D.have false [cE0 st,(1,.p 0 0),(2,.p 1 0),(3,.p 0 0),cE1 st,(5,.o 2),(6,.p 0 1),cE2 st,(8,.o 3),(9,.o 4),cE3,cE4 st,(12,.o 5),cE5,cE6 st,cE7,cE8 st,(21,.o 6),cE9,cE10 st] [cE11 st,cE12,cE13 st,cE14 st,cE20] 7 7 (bvA 24 [10,13,14,17,21,22,23]) ?_ fun hd4_45=>?_
 refine D.all 10 [14] (by kernel_rfl) ⟨?_,?_,trivial⟩
 refine D.bs T eI ([]:List Int) ?_
 exact D.tq [0,1,2,3,4,5,7,6] hd4_53
 refine D.bs T eI ([]:List Int) ?_
 exact D.tq [0,1,2,3,4,5,7,6] hd4_54
 refine D.have false [cE0 st,(1,.p 0 0),(2,.p 1 0),(3,.p 0 0),cE1 st,(5,.o 2),(6,.p 0 1),cE2 st,(8,.o 3),(9,.o 4),cE3,cE4 st,(13,.o 5),cE5,cE6 st,(17,.o 6),cE7,cE8 st,cE9,cE10 st] [cE11 st,cE12,cE13 st,cE18,cE19,cE16] 7 7 (bvA 24 [9,13,17,18,21,22,23]) ?_ fun hd4_46=>?_
 refine D.all 9 [18] (by kernel_rfl) ⟨?_,?_,trivial⟩
 refine D.ef1 rfl (.none rfl) (by exact Eff1.ap T rfl rfl rfl rfl rfl rfl (.inl rfl) rfl rfl rfl (fun _=>rfl) rfl y6) rfl rfl ?_
 exact D.tq [0,1,2,3,4,7,5,6] hd4_52
 refine D.bs T Q3 ([]:List Q0) ?_
 exact D.tq [0,1,2,3,4,5,6,7] hd4_55
 refine D.have false [cE0 st,(1,.p 0 0),(2,.p 1 0),(3,.p 0 0),cE1 st,(5,.o 2),(6,.p 0 1),cE2 st,(8,.o 3),(9,.o 4),cE3,cE4 st,(13,.o 5),cE5,cE6 st,cE7,cE8 st,(21,.o 6),cE9,cE10 st] [cE11 st,cE12,cE13 st,cE18,cE19,cE20] 7 7 (bvA 24 [9,13,14,17,21,22,23]) ?_ fun hd4_47=>?_
 refine D.all 9 [14] (by kernel_rfl) ⟨?_,?_,trivial⟩
 refine D.ef1 rfl (.none rfl) (by exact Eff1.ap T rfl rfl rfl rfl rfl rfl (.inl rfl) rfl rfl rfl (fun _=>rfl) rfl y6) rfl rfl ?_
 exact D.tq [0,1,2,3,4,7,5,6] hd4_53
 refine D.bs T eI ([]:List Int) ?_
 exact D.tq [0,1,2,3,4,5,7,6] hd4_55
 refine D.have false [cE0 st,(1,.p 0 0),(2,.p 1 0),(3,.p 0 0),cE1 st,(5,.o 2),(6,.p 0 1),cE2 st,(8,.o 3),(9,.o 4),cE3,cE4 st,cE5,cE6 st,(17,.o 5),cE7,cE8 st,(21,.o 6),cE9,cE10 st] [cE11 st,cE12,cE13 st,cE18,cE19,cE20] 7 7 (bvA 24 [9,10,13,17,21,22,23]) ?_ fun hd4_48=>?_
 refine D.all 9 [10] (by kernel_rfl) ⟨?_,?_,trivial⟩
 refine D.ef1 rfl (.none rfl) (by exact Eff1.ap T rfl rfl rfl rfl rfl rfl (.inl rfl) rfl rfl rfl (fun _=>rfl) rfl y6) rfl rfl ?_
 exact D.tq [0,1,2,3,4,7,5,6] hd4_54
 refine D.bs T eI ([]:List Int) ?_
 exact D.tq [0,1,2,3,4,7,5,6] hd4_55
 refine D.have false [cE0 st,(1,.p 0 0),(2,.p 1 0),(3,.p 0 0),cE1 st,(5,.o 2),(6,.p 0 1),cE2 st,(8,.o 3),cE3,cE4 st,(13,.o 4),cE5,cE6 st,(17,.o 5),cE7,cE8 st,(21,.o 6),cE9,cE10 st] [cE11 st,cE12,cE13 st,cE21,cE19,cE20] 7 7 (bvA 24 [6,9,13,17,21,22,23]) ?_ fun hd4_49=>?_
 refine D.all 6 [] (by kernel_rfl) ⟨?_,trivial⟩
 refine D.bs T Q4 ([]:List ApiRobot) ?_
 exact D.tq [0,1,2,3,7,4,5,6] hd4_55
 refine D.have false [cE0 st,(1,.p 0 0),(2,.p 1 0),(3,.p 0 0),cE1 st,(5,.o 2),(6,.p 0 1),cE2 st,(9,.o 3),cE3,cE4 st,(13,.o 4),cE5,cE6 st,(17,.o 5),cE7,cE8 st,(21,.o 6),cE9,cE10 st] [cE11 st,cE12,cE22,cE23,cE21,cE19,cE20] 7 7 (bvA 24 [5,9,13,17,21,22,23]) ?_ fun hd4_50=>?_
 refine D.all 5 [] (by kernel_rfl) ⟨?_,trivial⟩
 refine D.ef1 rfl (.none rfl) (by exact Eff1.ap T rfl rfl rfl rfl rfl rfl (.inl rfl) rfl rfl rfl (fun _=>rfl) rfl y5) rfl rfl ?_
 exact D.tq [0,1,2,7,3,4,5,6] hd4_55
 refine D.have false [cE0 st,(1,.p 0 0),(2,.p 1 0),(3,.p 0 0),cE1 st,(5,.o 2),(6,.p 0 1),cE2 st,(8,.o 3),(9,.o 4),cE3,cE4 st,(12,.o 5),cE5,cE6 st,cE7,cE8 st,cE9,cE10 st] [cE11 st,cE12,cE13 st,cE14 st] 6 8 (bvA 24 [10,13,14,17,18,21,22,23]) ?_ fun hd4_31=>?_
 refine D.all 10 [14,18] (by kernel_rfl) ⟨?_,?_,?_,trivial⟩
 refine D.bs T eI ([]:List Int) ?_
 exact D.tq [0,1,2,3,4,5,6] hd4_43
 refine D.bs T eI ([]:List Int) ?_
 exact D.tq [0,1,2,3,4,5,6] hd4_44
 refine D.bs T Q3 ([]:List Q0) ?_
 exact D.tq [0,1,2,3,4,5,6] hd4_45
 refine D.have false [cE0 st,(1,.p 0 0),(2,.p 1 0),(3,.p 0 0),cE1 st,(5,.o 2),(6,.p 0 1),cE2 st,(8,.o 3),(9,.o 4),cE3,cE4 st,(13,.o 5),cE5,cE6 st,cE7,cE8 st,cE9,cE10 st] [cE11 st,cE12,cE13 st,cE18,cE19] 6 8 (bvA 24 [9,13,14,17,18,21,22,23]) ?_ fun hd4_32=>?_
 refine D.all 9 [14,18] (by kernel_rfl) ⟨?_,?_,?_,trivial⟩
 refine D.ef1 rfl (.none rfl) (by exact Eff1.ap T rfl rfl rfl rfl rfl rfl (.inl rfl) rfl rfl rfl (fun _=>rfl) rfl y6) rfl rfl ?_
 exact D.tq [0,1,2,3,4,6,5] hd4_43
 refine D.bs T eI ([]:List Int) ?_
 exact D.tq [0,1,2,3,4,5,6] hd4_46
 refine D.bs T Q3 ([]:List Q0) ?_
 exact D.tq [0,1,2,3,4,5,6] hd4_47
 refine D.have false [cE0 st,(1,.p 0 0),(2,.p 1 0),(3,.p 0 0),cE1 st,(5,.o 2),(6,.p 0 1),cE2 st,(8,.o 3),(9,.o 4),cE3,cE4 st,cE5,cE6 st,(17,.o 5),cE7,cE8 st,cE9,cE10 st] [cE11 st,cE12,cE13 st,cE18,cE19] 6 8 (bvA 24 [9,10,13,17,18,21,22,23]) ?_ fun hd4_33=>?_
 refine D.all 9 [10,18] (by kernel_rfl) ⟨?_,?_,?_,trivial⟩
 refine D.ef1 rfl (.none rfl) (by exact Eff1.ap T rfl rfl rfl rfl rfl rfl (.inl rfl) rfl rfl rfl (fun _=>rfl) rfl y6) rfl rfl ?_
 exact D.tq [0,1,2,3,4,6,5] hd4_44
 refine D.bs T eI ([]:List Int) ?_
 exact D.tq [0,1,2,3,4,6,5] hd4_46
 refine D.bs T Q3 ([]:List Q0) ?_
 exact D.tq [0,1,2,3,4,5,6] hd4_48
 refine D.have false [cE0 st,(1,.p 0 0),(2,.p 1 0),(3,.p 0 0),cE1 st,(5,.o 2),(6,.p 0 1),cE2 st,(8,.o 3),(9,.o 4),cE3,cE4 st,cE5,cE6 st,cE7,cE8 st,(21,.o 5),cE9,cE10 st] [cE11 st,cE12,cE13 st,cE18,cE24] 6 8 (bvA 24 [9,10,13,14,17,21,22,23]) ?_ fun hd4_34=>?_
 refine D.all 9 [10,14] (by kernel_rfl) ⟨?_,?_,?_,trivial⟩
 refine D.ef1 rfl (.none rfl) (by exact Eff1.ap T rfl rfl rfl rfl rfl rfl (.inl rfl) rfl rfl rfl (fun _=>rfl) rfl y6) rfl rfl ?_
 exact D.tq [0,1,2,3,4,6,5] hd4_45
 refine D.bs T eI ([]:List Int) ?_
 exact D.tq [0,1,2,3,4,6,5] hd4_47
 refine D.bs T eI ([]:List Int) ?_
 exact D.tq [0,1,2,3,4,6,5] hd4_48
 refine D.have false [cE0 st,(1,.p 0 0),(2,.p 1 0),(3,.p 0 0),cE1 st,(5,.o 2),(6,.p 0 1),cE2 st,(8,.o 3),cE3,cE4 st,(13,.o 4),cE5,cE6 st,(17,.o 5),cE7,cE8 st,cE9,cE10 st] [cE11 st,cE12,cE13 st,cE21,cE19] 6 8 (bvA 24 [6,9,13,17,18,21,22,23]) ?_ fun hd4_35=>?_
 refine D.all 6 [18] (by kernel_rfl) ⟨?_,?_,trivial⟩
 refine D.bs T Q4 ([]:List ApiRobot) ?_
 exact D.tq [0,1,2,3,6,4,5] hd4_46
 refine D.bs T Q3 ([]:List Q0) ?_
 exact D.tq [0,1,2,3,4,5,6] hd4_49
 refine D.have false [cE0 st,(1,.p 0 0),(2,.p 1 0),(3,.p 0 0),cE1 st,(5,.o 2),(6,.p 0 1),cE2 st,(8,.o 3),cE3,cE4 st,(13,.o 4),cE5,cE6 st,cE7,cE8 st,(21,.o 5),cE9,cE10 st] [cE11 st,cE12,cE13 st,cE21,cE24] 6 8 (bvA 24 [6,9,13,14,17,21,22,23]) ?_ fun hd4_36=>?_
 refine D.all 6 [14] (by kernel_rfl) ⟨?_,?_,trivial⟩
 refine D.bs T Q4 ([]:List ApiRobot) ?_
 exact D.tq [0,1,2,3,6,4,5] hd4_47
 refine D.bs T eI ([]:List Int) ?_
 exact D.tq [0,1,2,3,4,6,5] hd4_49
 refine D.have false [cE0 st,(1,.p 0 0),(2,.p 1 0),(3,.p 0 0),cE1 st,(5,.o 2),(6,.p 0 1),cE2 st,(8,.o 3),cE3,cE4 st,cE5,cE6 st,(17,.o 4),cE7,cE8 st,(21,.o 5),cE9,cE10 st] [cE11 st,cE12,cE13 st,cE21,cE24] 6 8 (bvA 24 [6,9,10,13,17,21,22,23]) ?_ fun hd4_37=>?_
 refine D.all 6 [10] (by kernel_rfl) ⟨?_,?_,trivial⟩
 refine D.bs T Q4 ([]:List ApiRobot) ?_
 exact D.tq [0,1,2,3,6,4,5] hd4_48
 refine D.bs T eI ([]:List Int) ?_
 exact D.tq [0,1,2,3,6,4,5] hd4_49
 refine D.have false [cE0 st,(1,.p 0 0),(2,.p 1 0),(3,.p 0 0),cE1 st,(5,.o 2),(6,.p 0 1),cE2 st,(9,.o 3),cE3,cE4 st,(13,.o 4),cE5,cE6 st,(17,.o 5),cE7,cE8 st,cE9,cE10 st] [cE11 st,cE12,cE22,cE23,cE21,cE19] 6 8 (bvA 24 [5,9,13,17,18,21,22,23]) ?_ fun hd4_38=>?_
 refine D.all 5 [18] (by kernel_rfl) ⟨?_,?_,trivial⟩
 refine D.ef1 rfl (.none rfl) (by exact Eff1.ap T rfl rfl rfl rfl rfl rfl (.inl rfl) rfl rfl rfl (fun _=>rfl) rfl y5) rfl rfl ?_
 exact D.tq [0,1,2,6,3,4,5] hd4_46
 refine D.bs T Q3 ([]:List Q0) ?_
 exact D.tq [0,1,2,3,4,5,6] hd4_50
 refine D.have false [cE0 st,(1,.p 0 0),(2,.p 1 0),(3,.p 0 0),cE1 st,(5,.o 2),(6,.p 0 1),cE2 st,(9,.o 3),cE3,cE4 st,(13,.o 4),cE5,cE6 st,cE7,cE8 st,(21,.o 5),cE9,cE10 st] [cE11 st,cE12,cE22,cE23,cE21,cE24] 6 8 (bvA 24 [5,9,13,14,17,21,22,23]) ?_ fun hd4_39=>?_
 refine D.all 5 [14] (by kernel_rfl) ⟨?_,?_,trivial⟩
 refine D.ef1 rfl (.none rfl) (by exact Eff1.ap T rfl rfl rfl rfl rfl rfl (.inl rfl) rfl rfl rfl (fun _=>rfl) rfl y5) rfl rfl ?_
 exact D.tq [0,1,2,6,3,4,5] hd4_47
 refine D.bs T eI ([]:List Int) ?_
 exact D.tq [0,1,2,3,4,6,5] hd4_50
 refine D.have false [cE0 st,(1,.p 0 0),(2,.p 1 0),(3,.p 0 0),cE1 st,(5,.o 2),(6,.p 0 1),cE2 st,(9,.o 3),cE3,cE4 st,cE5,cE6 st,(17,.o 4),cE7,cE8 st,(21,.o 5),cE9,cE10 st] [cE11 st,cE12,cE22,cE23,cE21,cE24] 6 8 (bvA 24 [5,9,10,13,17,21,22,23]) ?_ fun hd4_40=>?_
 refine D.all 5 [10] (by kernel_rfl) ⟨?_,?_,trivial⟩
 refine D.ef1 rfl (.none rfl) (by exact Eff1.ap T rfl rfl rfl rfl rfl rfl (.inl rfl) rfl rfl rfl (fun _=>rfl) rfl y5) rfl rfl ?_
 exact D.tq [0,1,2,6,3,4,5] hd4_48
 refine D.bs T eI ([]:List Int) ?_
 exact D.tq [0,1,2,3,6,4,5] hd4_50
 refine D.have false [cE0 st,(1,.p 0 0),(2,.p 1 0),(3,.p 0 0),cE1 st,(5,.o 2),(6,.p 0 1),cE2 st,cE3,cE4 st,(13,.o 3),cE5,cE6 st,(17,.o 4),cE7,cE8 st,(21,.o 5),cE9,cE10 st] [cE11 st,cE12,cE22,cE25,cE21,cE24] 6 8 (bvA 24 [5,6,9,13,17,21,22,23]) ?_ fun hd4_41=>?_
 refine D.all 5 [6] (by kernel_rfl) ⟨?_,?_,trivial⟩
 refine D.ef1 rfl (.none rfl) (by exact Eff1.ap T rfl rfl rfl rfl rfl rfl (.inl rfl) rfl rfl rfl (fun _=>rfl) rfl y5) rfl rfl ?_
 exact D.tq [0,1,2,6,3,4,5] hd4_49
 refine D.bs T Q4 ([]:List ApiRobot) ?_
 exact D.tq [0,1,2,6,3,4,5] hd4_50
 refine D.have false [cE0 st,(1,.p 0 0),(2,.p 1 0),(3,.p 0 0),cE1 st,(6,.p 0 1),cE2 st,(9,.o 2),cE3,cE4 st,(13,.o 3),cE5,cE6 st,(17,.o 4),cE7,cE8 st,(21,.o 5),cE9,cE10 st] [cE11 st,cE12,cE26,cE25,cE21,cE24] 6 8 (bvA 24 [2,5,9,13,17,21,22,23]) ?_ fun hd4_42=>?_
 refine D.all 2 [] (by kernel_rfl) ⟨?_,trivial⟩
 refine D.bs T eI ([]:List Int) ?_
 exact D.tq [0,1,6,2,3,4,5] hd4_50
 refine D.have false [cE0 st,(1,.p 0 0),(2,.p 1 0),(3,.p 0 0),cE1 st,(5,.o 2),(6,.p 0 1),cE2 st,(8,.o 3),(9,.o 4),cE3,cE4 st,cE5,cE6 st,cE7,cE8 st,cE9,cE10 st] [cE11 st,cE12,cE13 st,cE18] 5 9 (bvA 24 [9,10,13,14,17,18,21,22,23]) ?_ fun hd4_17=>?_
 refine D.all 9 [10,14,18] (by kernel_rfl) ⟨?_,?_,?_,?_,trivial⟩
 refine D.ef1 rfl (.none rfl) (by exact Eff1.ap T rfl rfl rfl rfl rfl rfl (.inl rfl) rfl rfl rfl (fun _=>rfl) rfl y6) rfl rfl ?_
 exact D.tq [0,1,2,3,4,5] hd4_31
 refine D.bs T eI ([]:List Int) ?_
 exact D.tq [0,1,2,3,4,5] hd4_32
 refine D.bs T eI ([]:List Int) ?_
 exact D.tq [0,1,2,3,4,5] hd4_33
 refine D.bs T Q3 ([]:List Q0) ?_
 exact D.tq [0,1,2,3,4,5] hd4_34
 refine D.have false [cE0 st,(1,.p 0 0),(2,.p 1 0),(3,.p 0 0),cE1 st,(5,.o 2),(6,.p 0 1),cE2 st,(8,.o 3),cE3,cE4 st,(13,.o 4),cE5,cE6 st,cE7,cE8 st,cE9,cE10 st] [cE11 st,cE12,cE13 st,cE21] 5 9 (bvA 24 [6,9,13,14,17,18,21,22,23]) ?_ fun hd4_18=>?_
 refine D.all 6 [14,18] (by kernel_rfl) ⟨?_,?_,?_,trivial⟩
 refine D.bs T Q4 ([]:List ApiRobot) ?_
 exact D.tq [0,1,2,3,5,4] hd4_32
 refine D.bs T eI ([]:List Int) ?_
 exact D.tq [0,1,2,3,4,5] hd4_35
 refine D.bs T Q3 ([]:List Q0) ?_
 exact D.tq [0,1,2,3,4,5] hd4_36
 refine D.have false [cE0 st,(1,.p 0 0),(2,.p 1 0),(3,.p 0 0),cE1 st,(5,.o 2),(6,.p 0 1),cE2 st,(8,.o 3),cE3,cE4 st,cE5,cE6 st,(17,.o 4),cE7,cE8 st,cE9,cE10 st] [cE11 st,cE12,cE13 st,cE21] 5 9 (bvA 24 [6,9,10,13,17,18,21,22,23]) ?_ fun hd4_19=>?_
 refine D.all 6 [10,18] (by kernel_rfl) ⟨?_,?_,?_,trivial⟩
 refine D.bs T Q4 ([]:List ApiRobot) ?_
 exact D.tq [0,1,2,3,5,4] hd4_33
 refine D.bs T eI ([]:List Int) ?_
 exact D.tq [0,1,2,3,5,4] hd4_35
 refine D.bs T Q3 ([]:List Q0) ?_
 exact D.tq [0,1,2,3,4,5] hd4_37
 refine D.have false [cE0 st,(1,.p 0 0),(2,.p 1 0),(3,.p 0 0),cE1 st,(5,.o 2),(6,.p 0 1),cE2 st,(8,.o 3),cE3,cE4 st,cE5,cE6 st,cE7,cE8 st,(21,.o 4),cE9,cE10 st] [cE11 st,cE12,cE13 st,cE27] 5 9 (bvA 24 [6,9,10,13,14,17,21,22,23]) ?_ fun hd4_20=>?_
 refine D.all 6 [10,14] (by kernel_rfl) ⟨?_,?_,?_,trivial⟩
 refine D.bs T Q4 ([]:List ApiRobot) ?_
 exact D.tq [0,1,2,3,5,4] hd4_34
 refine D.bs T eI ([]:List Int) ?_
 exact D.tq [0,1,2,3,5,4] hd4_36
 refine D.bs T eI ([]:List Int) ?_
 exact D.tq [0,1,2,3,5,4] hd4_37
 refine D.have false [cE0 st,(1,.p 0 0),(2,.p 1 0),(3,.p 0 0),cE1 st,(5,.o 2),(6,.p 0 1),cE2 st,(9,.o 3),cE3,cE4 st,(13,.o 4),cE5,cE6 st,cE7,cE8 st,cE9,cE10 st] [cE11 st,cE12,cE22,cE23,cE21] 5 9 (bvA 24 [5,9,13,14,17,18,21,22,23]) ?_ fun hd4_21=>?_
 refine D.all 5 [14,18] (by kernel_rfl) ⟨?_,?_,?_,trivial⟩
 refine D.ef1 rfl (.none rfl) (by exact Eff1.ap T rfl rfl rfl rfl rfl rfl (.inl rfl) rfl rfl rfl (fun _=>rfl) rfl y5) rfl rfl ?_
 exact D.tq [0,1,2,5,3,4] hd4_32
 refine D.bs T eI ([]:List Int) ?_
 exact D.tq [0,1,2,3,4,5] hd4_38
 refine D.bs T Q3 ([]:List Q0) ?_
 exact D.tq [0,1,2,3,4,5] hd4_39
 refine D.have false [cE0 st,(1,.p 0 0),(2,.p 1 0),(3,.p 0 0),cE1 st,(5,.o 2),(6,.p 0 1),cE2 st,(9,.o 3),cE3,cE4 st,cE5,cE6 st,(17,.o 4),cE7,cE8 st,cE9,cE10 st] [cE11 st,cE12,cE22,cE23,cE21] 5 9 (bvA 24 [5,9,10,13,17,18,21,22,23]) ?_ fun hd4_22=>?_
 refine D.all 5 [10,18] (by kernel_rfl) ⟨?_,?_,?_,trivial⟩
 refine D.ef1 rfl (.none rfl) (by exact Eff1.ap T rfl rfl rfl rfl rfl rfl (.inl rfl) rfl rfl rfl (fun _=>rfl) rfl y5) rfl rfl ?_
 exact D.tq [0,1,2,5,3,4] hd4_33
 refine D.bs T eI ([]:List Int) ?_
 exact D.tq [0,1,2,3,5,4] hd4_38
 refine D.bs T Q3 ([]:List Q0) ?_
 exact D.tq [0,1,2,3,4,5] hd4_40
 refine D.have false [cE0 st,(1,.p 0 0),(2,.p 1 0),(3,.p 0 0),cE1 st,(5,.o 2),(6,.p 0 1),cE2 st,(9,.o 3),cE3,cE4 st,cE5,cE6 st,cE7,cE8 st,(21,.o 4),cE9,cE10 st] [cE11 st,cE12,cE22,cE23,cE27] 5 9 (bvA 24 [5,9,10,13,14,17,21,22,23]) ?_ fun hd4_23=>?_
 refine D.all 5 [10,14] (by kernel_rfl) ⟨?_,?_,?_,trivial⟩
 refine D.ef1 rfl (.none rfl) (by exact Eff1.ap T rfl rfl rfl rfl rfl rfl (.inl rfl) rfl rfl rfl (fun _=>rfl) rfl y5) rfl rfl ?_
 exact D.tq [0,1,2,5,3,4] hd4_34
 refine D.bs T eI ([]:List Int) ?_
 exact D.tq [0,1,2,3,5,4] hd4_39
 refine D.bs T eI ([]:List Int) ?_
 exact D.tq [0,1,2,3,5,4] hd4_40
 refine D.have false [cE0 st,(1,.p 0 0),(2,.p 1 0),(3,.p 0 0),cE1 st,(5,.o 2),(6,.p 0 1),cE2 st,cE3,cE4 st,(13,.o 3),cE5,cE6 st,(17,.o 4),cE7,cE8 st,cE9,cE10 st] [cE11 st,cE12,cE22,cE25,cE21] 5 9 (bvA 24 [5,6,9,13,17,18,21,22,23]) ?_ fun hd4_24=>?_
 refine D.all 5 [6,18] (by kernel_rfl) ⟨?_,?_,?_,trivial⟩
 refine D.ef1 rfl (.none rfl) (by exact Eff1.ap T rfl rfl rfl rfl rfl rfl (.inl rfl) rfl rfl rfl (fun _=>rfl) rfl y5) rfl rfl ?_
 exact D.tq [0,1,2,5,3,4] hd4_35
 refine D.bs T Q4 ([]:List ApiRobot) ?_
 exact D.tq [0,1,2,5,3,4] hd4_38
 refine D.bs T Q3 ([]:List Q0) ?_
 exact D.tq [0,1,2,3,4,5] hd4_41
 refine D.have false [cE0 st,(1,.p 0 0),(2,.p 1 0),(3,.p 0 0),cE1 st,(5,.o 2),(6,.p 0 1),cE2 st,cE3,cE4 st,(13,.o 3),cE5,cE6 st,cE7,cE8 st,(21,.o 4),cE9,cE10 st] [cE11 st,cE12,cE22,cE25,cE27] 5 9 (bvA 24 [5,6,9,13,14,17,21,22,23]) ?_ fun hd4_25=>?_
 refine D.all 5 [6,14] (by kernel_rfl) ⟨?_,?_,?_,trivial⟩
 refine D.ef1 rfl (.none rfl) (by exact Eff1.ap T rfl rfl rfl rfl rfl rfl (.inl rfl) rfl rfl rfl (fun _=>rfl) rfl y5) rfl rfl ?_
 exact D.tq [0,1,2,5,3,4] hd4_36
 refine D.bs T Q4 ([]:List ApiRobot) ?_
 exact D.tq [0,1,2,5,3,4] hd4_39
 refine D.bs T eI ([]:List Int) ?_
 exact D.tq [0,1,2,3,5,4] hd4_41
 refine D.have false [cE0 st,(1,.p 0 0),(2,.p 1 0),(3,.p 0 0),cE1 st,(5,.o 2),(6,.p 0 1),cE2 st,cE3,cE4 st,cE5,cE6 st,(17,.o 3),cE7,cE8 st,(21,.o 4),cE9,cE10 st] [cE11 st,cE12,cE22,cE25,cE27] 5 9 (bvA 24 [5,6,9,10,13,17,21,22,23]) ?_ fun hd4_26=>?_
 refine D.all 5 [6,10] (by kernel_rfl) ⟨?_,?_,?_,trivial⟩
 refine D.ef1 rfl (.none rfl) (by exact Eff1.ap T rfl rfl rfl rfl rfl rfl (.inl rfl) rfl rfl rfl (fun _=>rfl) rfl y5) rfl rfl ?_
 exact D.tq [0,1,2,5,3,4] hd4_37
 refine D.bs T Q4 ([]:List ApiRobot) ?_
 exact D.tq [0,1,2,5,3,4] hd4_40
 refine D.bs T eI ([]:List Int) ?_
 exact D.tq [0,1,2,5,3,4] hd4_41
 refine D.have false [cE0 st,(1,.p 0 0),(2,.p 1 0),(3,.p 0 0),cE1 st,(6,.p 0 1),cE2 st,(9,.o 2),cE3,cE4 st,(13,.o 3),cE5,cE6 st,(17,.o 4),cE7,cE8 st,cE9,cE10 st] [cE11 st,cE12,cE26,cE25,cE21] 5 9 (bvA 24 [2,5,9,13,17,18,21,22,23]) ?_ fun hd4_27=>?_
 refine D.all 2 [18] (by kernel_rfl) ⟨?_,?_,trivial⟩
 refine D.bs T eI ([]:List Int) ?_
 exact D.tq [0,1,5,2,3,4] hd4_38
 refine D.bs T Q3 ([]:List Q0) ?_
 exact D.tq [0,1,2,3,4,5] hd4_42
 refine D.have false [cE0 st,(1,.p 0 0),(2,.p 1 0),(3,.p 0 0),cE1 st,(6,.p 0 1),cE2 st,(9,.o 2),cE3,cE4 st,(13,.o 3),cE5,cE6 st,cE7,cE8 st,(21,.o 4),cE9,cE10 st] [cE11 st,cE12,cE26,cE25,cE27] 5 9 (bvA 24 [2,5,9,13,14,17,21,22,23]) ?_ fun hd4_28=>?_
 refine D.all 2 [14] (by kernel_rfl) ⟨?_,?_,trivial⟩
 refine D.bs T eI ([]:List Int) ?_
 exact D.tq [0,1,5,2,3,4] hd4_39
 refine D.bs T eI ([]:List Int) ?_
 exact D.tq [0,1,2,3,5,4] hd4_42
 refine D.have false [cE0 st,(1,.p 0 0),(2,.p 1 0),(3,.p 0 0),cE1 st,(6,.p 0 1),cE2 st,(9,.o 2),cE3,cE4 st,cE5,cE6 st,(17,.o 3),cE7,cE8 st,(21,.o 4),cE9,cE10 st] [cE11 st,cE12,cE26,cE25,cE27] 5 9 (bvA 24 [2,5,9,10,13,17,21,22,23]) ?_ fun hd4_29=>?_
 refine D.all 2 [10] (by kernel_rfl) ⟨?_,?_,trivial⟩
 refine D.bs T eI ([]:List Int) ?_
 exact D.tq [0,1,5,2,3,4] hd4_40
 refine D.bs T eI ([]:List Int) ?_
 exact D.tq [0,1,2,5,3,4] hd4_42
 refine D.have false [cE0 st,(1,.p 0 0),(2,.p 1 0),(3,.p 0 0),cE1 st,(6,.p 0 1),cE2 st,cE3,cE4 st,(13,.o 2),cE5,cE6 st,(17,.o 3),cE7,cE8 st,(21,.o 4),cE9,cE10 st] [cE11 st,cE12,cE22,cE25,cE27] 5 9 (bvA 24 [2,5,6,9,13,17,21,22,23]) ?_ fun hd4_30=>?_
 refine D.all 2 [6] (by kernel_rfl) ⟨?_,?_,trivial⟩
 refine D.bs T eI ([]:List Int) ?_
 exact D.tq [0,1,5,2,3,4] hd4_41
 refine D.bs T Q4 ([]:List ApiRobot) ?_
 exact D.tq [0,1,5,2,3,4] hd4_42
 refine D.have false [cE0 st,(1,.p 0 0),(2,.p 1 0),(3,.p 0 0),cE1 st,(5,.o 2),(6,.p 0 1),cE2 st,(8,.o 3),cE3,cE4 st,cE5,cE6 st,cE7,cE8 st,cE9,cE10 st] [cE11 st,cE12,cE13 st] 4 10 (bvA 24 [6,9,10,13,14,17,18,21,22,23]) ?_ fun hd4_6=>?_
 refine D.all 6 [10,14,18] (by kernel_rfl) ⟨?_,?_,?_,?_,trivial⟩
 refine D.bs T Q4 ([]:List ApiRobot) ?_
 exact D.tq [0,1,2,3,4] hd4_17
 refine D.bs T eI ([]:List Int) ?_
 exact D.tq [0,1,2,3,4] hd4_18
 refine D.bs T eI ([]:List Int) ?_
 exact D.tq [0,1,2,3,4] hd4_19
 refine D.bs T Q3 ([]:List Q0) ?_
 exact D.tq [0,1,2,3,4] hd4_20
 refine D.have false [cE0 st,(1,.p 0 0),(2,.p 1 0),(3,.p 0 0),cE1 st,(5,.o 2),(6,.p 0 1),cE2 st,(9,.o 3),cE3,cE4 st,cE5,cE6 st,cE7,cE8 st,cE9,cE10 st] [cE11 st,cE12,cE22,cE23] 4 10 (bvA 24 [5,9,10,13,14,17,18,21,22,23]) ?_ fun hd4_7=>?_
 refine D.all 5 [10,14,18] (by kernel_rfl) ⟨?_,?_,?_,?_,trivial⟩
 refine D.ef1 rfl (.none rfl) (by exact Eff1.ap T rfl rfl rfl rfl rfl rfl (.inl rfl) rfl rfl rfl (fun _=>rfl) rfl y5) rfl rfl ?_
 exact D.tq [0,1,2,4,3] hd4_17
 refine D.bs T eI ([]:List Int) ?_
 exact D.tq [0,1,2,3,4] hd4_21
 refine D.bs T eI ([]:List Int) ?_
 exact D.tq [0,1,2,3,4] hd4_22
 refine D.bs T Q3 ([]:List Q0) ?_
 exact D.tq [0,1,2,3,4] hd4_23
 refine D.have false [cE0 st,(1,.p 0 0),(2,.p 1 0),(3,.p 0 0),cE1 st,(5,.o 2),(6,.p 0 1),cE2 st,cE3,cE4 st,(13,.o 3),cE5,cE6 st,cE7,cE8 st,cE9,cE10 st] [cE11 st,cE12,cE22,cE25] 4 10 (bvA 24 [5,6,9,13,14,17,18,21,22,23]) ?_ fun hd4_8=>?_
 refine D.all 5 [6,14,18] (by kernel_rfl) ⟨?_,?_,?_,?_,trivial⟩
 refine D.ef1 rfl (.none rfl) (by exact Eff1.ap T rfl rfl rfl rfl rfl rfl (.inl rfl) rfl rfl rfl (fun _=>rfl) rfl y5) rfl rfl ?_
 exact D.tq [0,1,2,4,3] hd4_18
 refine D.bs T Q4 ([]:List ApiRobot) ?_
 exact D.tq [0,1,2,4,3] hd4_21
 refine D.bs T eI ([]:List Int) ?_
 exact D.tq [0,1,2,3,4] hd4_24
 refine D.bs T Q3 ([]:List Q0) ?_
 exact D.tq [0,1,2,3,4] hd4_25
 refine D.have false [cE0 st,(1,.p 0 0),(2,.p 1 0),(3,.p 0 0),cE1 st,(5,.o 2),(6,.p 0 1),cE2 st,cE3,cE4 st,cE5,cE6 st,(17,.o 3),cE7,cE8 st,cE9,cE10 st] [cE11 st,cE12,cE22,cE25] 4 10 (bvA 24 [5,6,9,10,13,17,18,21,22,23]) ?_ fun hd4_9=>?_
 refine D.all 5 [6,10,18] (by kernel_rfl) ⟨?_,?_,?_,?_,trivial⟩
 refine D.ef1 rfl (.none rfl) (by exact Eff1.ap T rfl rfl rfl rfl rfl rfl (.inl rfl) rfl rfl rfl (fun _=>rfl) rfl y5) rfl rfl ?_
 exact D.tq [0,1,2,4,3] hd4_19
 refine D.bs T Q4 ([]:List ApiRobot) ?_
 exact D.tq [0,1,2,4,3] hd4_22
 refine D.bs T eI ([]:List Int) ?_
 exact D.tq [0,1,2,4,3] hd4_24
 refine D.bs T Q3 ([]:List Q0) ?_
 exact D.tq [0,1,2,3,4] hd4_26
 refine D.have false [cE0 st,(1,.p 0 0),(2,.p 1 0),(3,.p 0 0),cE1 st,(5,.o 2),(6,.p 0 1),cE2 st,cE3,cE4 st,cE5,cE6 st,cE7,cE8 st,(21,.o 3),cE9,cE10 st] [cE11 st,cE12,cE22,cE28] 4 10 (bvA 24 [5,6,9,10,13,14,17,21,22,23]) ?_ fun hd4_10=>?_
 refine D.all 5 [6,10,14] (by kernel_rfl) ⟨?_,?_,?_,?_,trivial⟩
 refine D.ef1 rfl (.none rfl) (by exact Eff1.ap T rfl rfl rfl rfl rfl rfl (.inl rfl) rfl rfl rfl (fun _=>rfl) rfl y5) rfl rfl ?_
 exact D.tq [0,1,2,4,3] hd4_20
 refine D.bs T Q4 ([]:List ApiRobot) ?_
 exact D.tq [0,1,2,4,3] hd4_23
 refine D.bs T eI ([]:List Int) ?_
 exact D.tq [0,1,2,4,3] hd4_25
 refine D.bs T eI ([]:List Int) ?_
 exact D.tq [0,1,2,4,3] hd4_26
 refine D.have false [cE0 st,(1,.p 0 0),(2,.p 1 0),(3,.p 0 0),cE1 st,(6,.p 0 1),cE2 st,(9,.o 2),cE3,cE4 st,(13,.o 3),cE5,cE6 st,cE7,cE8 st,cE9,cE10 st] [cE11 st,cE12,cE26,cE25] 4 10 (bvA 24 [2,5,9,13,14,17,18,21,22,23]) ?_ fun hd4_11=>?_
 refine D.all 2 [14,18] (by kernel_rfl) ⟨?_,?_,?_,trivial⟩
 refine D.bs T eI ([]:List Int) ?_
 exact D.tq [0,1,4,2,3] hd4_21
 refine D.bs T eI ([]:List Int) ?_
 exact D.tq [0,1,2,3,4] hd4_27
 refine D.bs T Q3 ([]:List Q0) ?_
 exact D.tq [0,1,2,3,4] hd4_28
 refine D.have false [cE0 st,(1,.p 0 0),(2,.p 1 0),(3,.p 0 0),cE1 st,(6,.p 0 1),cE2 st,(9,.o 2),cE3,cE4 st,cE5,cE6 st,(17,.o 3),cE7,cE8 st,cE9,cE10 st] [cE11 st,cE12,cE26,cE25] 4 10 (bvA 24 [2,5,9,10,13,17,18,21,22,23]) ?_ fun hd4_12=>?_
 refine D.all 2 [10,18] (by kernel_rfl) ⟨?_,?_,?_,trivial⟩
 refine D.bs T eI ([]:List Int) ?_
 exact D.tq [0,1,4,2,3] hd4_22
 refine D.bs T eI ([]:List Int) ?_
 exact D.tq [0,1,2,4,3] hd4_27
 refine D.bs T Q3 ([]:List Q0) ?_
 exact D.tq [0,1,2,3,4] hd4_29
 refine D.have false [cE0 st,(1,.p 0 0),(2,.p 1 0),(3,.p 0 0),cE1 st,(6,.p 0 1),cE2 st,(9,.o 2),cE3,cE4 st,cE5,cE6 st,cE7,cE8 st,(21,.o 3),cE9,cE10 st] [cE11 st,cE12,cE26,cE28] 4 10 (bvA 24 [2,5,9,10,13,14,17,21,22,23]) ?_ fun hd4_13=>?_
 refine D.all 2 [10,14] (by kernel_rfl) ⟨?_,?_,?_,trivial⟩
 refine D.bs T eI ([]:List Int) ?_
 exact D.tq [0,1,4,2,3] hd4_23
 refine D.bs T eI ([]:List Int) ?_
 exact D.tq [0,1,2,4,3] hd4_28
 refine D.bs T eI ([]:List Int) ?_
 exact D.tq [0,1,2,4,3] hd4_29
 refine D.have false [cE0 st,(1,.p 0 0),(2,.p 1 0),(3,.p 0 0),cE1 st,(6,.p 0 1),cE2 st,cE3,cE4 st,(13,.o 2),cE5,cE6 st,(17,.o 3),cE7,cE8 st,cE9,cE10 st] [cE11 st,cE12,cE22,cE25] 4 10 (bvA 24 [2,5,6,9,13,17,18,21,22,23]) ?_ fun hd4_14=>?_
 refine D.all 2 [6,18] (by kernel_rfl) ⟨?_,?_,?_,trivial⟩
 refine D.bs T eI ([]:List Int) ?_
 exact D.tq [0,1,4,2,3] hd4_24
 refine D.bs T Q4 ([]:List ApiRobot) ?_
 exact D.tq [0,1,4,2,3] hd4_27
 refine D.bs T Q3 ([]:List Q0) ?_
 exact D.tq [0,1,2,3,4] hd4_30
 refine D.have false [cE0 st,(1,.p 0 0),(2,.p 1 0),(3,.p 0 0),cE1 st,(6,.p 0 1),cE2 st,cE3,cE4 st,(13,.o 2),cE5,cE6 st,cE7,cE8 st,(21,.o 3),cE9,cE10 st] [cE11 st,cE12,cE22,cE28] 4 10 (bvA 24 [2,5,6,9,13,14,17,21,22,23]) ?_ fun hd4_15=>?_
 refine D.all 2 [6,14] (by kernel_rfl) ⟨?_,?_,?_,trivial⟩
 refine D.bs T eI ([]:List Int) ?_
 exact D.tq [0,1,4,2,3] hd4_25
 refine D.bs T Q4 ([]:List ApiRobot) ?_
 exact D.tq [0,1,4,2,3] hd4_28
 refine D.bs T eI ([]:List Int) ?_
 exact D.tq [0,1,2,4,3] hd4_30
 refine D.have false [cE0 st,(1,.p 0 0),(2,.p 1 0),(3,.p 0 0),cE1 st,(6,.p 0 1),cE2 st,cE3,cE4 st,cE5,cE6 st,(17,.o 2),cE7,cE8 st,(21,.o 3),cE9,cE10 st] [cE11 st,cE12,cE22,cE28] 4 10 (bvA 24 [2,5,6,9,10,13,17,21,22,23]) ?_ fun hd4_16=>?_
 refine D.all 2 [6,10] (by kernel_rfl) ⟨?_,?_,?_,trivial⟩
 refine D.bs T eI ([]:List Int) ?_
 exact D.tq [0,1,4,2,3] hd4_26
 refine D.bs T Q4 ([]:List ApiRobot) ?_
 exact D.tq [0,1,4,2,3] hd4_29
 refine D.bs T eI ([]:List Int) ?_
 exact D.tq [0,1,4,2,3] hd4_30
 refine D.have false [cE0 st,(1,.p 0 0),(2,.p 1 0),(3,.p 0 0),cE1 st,(5,.o 2),(6,.p 0 1),cE2 st,cE3,cE4 st,cE5,cE6 st,cE7,cE8 st,cE9,cE10 st] [cE11 st,cE12,cE22] 3 11 (bvA 24 [5,6,9,10,13,14,17,18,21,22,23]) ?_ fun hd4_1=>?_
 refine D.all 5 [6,10,14,18] (by kernel_rfl) ⟨?_,?_,?_,?_,?_,trivial⟩
 refine D.ef1 rfl (.none rfl) (by exact Eff1.ap T rfl rfl rfl rfl rfl rfl (.inl rfl) rfl rfl rfl (fun _=>rfl) rfl y5) rfl rfl ?_
 exact D.tq [0,1,2,3] hd4_6
 refine D.bs T Q4 ([]:List ApiRobot) ?_
 exact D.tq [0,1,2,3] hd4_7
 refine D.bs T eI ([]:List Int) ?_
 exact D.tq [0,1,2,3] hd4_8
 refine D.bs T eI ([]:List Int) ?_
 exact D.tq [0,1,2,3] hd4_9
 refine D.bs T Q3 ([]:List Q0) ?_
 exact D.tq [0,1,2,3] hd4_10
 refine D.have false [cE0 st,(1,.p 0 0),(2,.p 1 0),(3,.p 0 0),cE1 st,(6,.p 0 1),cE2 st,(9,.o 2),cE3,cE4 st,cE5,cE6 st,cE7,cE8 st,cE9,cE10 st] [cE11 st,cE12,cE26] 3 11 (bvA 24 [2,5,9,10,13,14,17,18,21,22,23]) ?_ fun hd4_2=>?_
 refine D.all 2 [10,14,18] (by kernel_rfl) ⟨?_,?_,?_,?_,trivial⟩
 refine D.bs T eI ([]:List Int) ?_
 exact D.tq [0,1,3,2] hd4_7
 refine D.bs T eI ([]:List Int) ?_
 exact D.tq [0,1,2,3] hd4_11
 refine D.bs T eI ([]:List Int) ?_
 exact D.tq [0,1,2,3] hd4_12
 refine D.bs T Q3 ([]:List Q0) ?_
 exact D.tq [0,1,2,3] hd4_13
 refine D.have false [cE0 st,(1,.p 0 0),(2,.p 1 0),(3,.p 0 0),cE1 st,(6,.p 0 1),cE2 st,cE3,cE4 st,(13,.o 2),cE5,cE6 st,cE7,cE8 st,cE9,cE10 st] [cE11 st,cE12,cE22] 3 11 (bvA 24 [2,5,6,9,13,14,17,18,21,22,23]) ?_ fun hd4_3=>?_
 refine D.all 2 [6,14,18] (by kernel_rfl) ⟨?_,?_,?_,?_,trivial⟩
 refine D.bs T eI ([]:List Int) ?_
 exact D.tq [0,1,3,2] hd4_8
 refine D.bs T Q4 ([]:List ApiRobot) ?_
 exact D.tq [0,1,3,2] hd4_11
 refine D.bs T eI ([]:List Int) ?_
 exact D.tq [0,1,2,3] hd4_14
 refine D.bs T Q3 ([]:List Q0) ?_
 exact D.tq [0,1,2,3] hd4_15
 refine D.have false [cE0 st,(1,.p 0 0),(2,.p 1 0),(3,.p 0 0),cE1 st,(6,.p 0 1),cE2 st,cE3,cE4 st,cE5,cE6 st,(17,.o 2),cE7,cE8 st,cE9,cE10 st] [cE11 st,cE12,cE22] 3 11 (bvA 24 [2,5,6,9,10,13,17,18,21,22,23]) ?_ fun hd4_4=>?_
 refine D.all 2 [6,10,18] (by kernel_rfl) ⟨?_,?_,?_,?_,trivial⟩
 refine D.bs T eI ([]:List Int) ?_
 exact D.tq [0,1,3,2] hd4_9
 refine D.bs T Q4 ([]:List ApiRobot) ?_
 exact D.tq [0,1,3,2] hd4_12
 refine D.bs T eI ([]:List Int) ?_
 exact D.tq [0,1,3,2] hd4_14
 refine D.bs T Q3 ([]:List Q0) ?_
 exact D.tq [0,1,2,3] hd4_16
 refine D.have false [cE0 st,(1,.p 0 0),(2,.p 1 0),(3,.p 0 0),cE1 st,(6,.p 0 1),cE2 st,cE3,cE4 st,cE5,cE6 st,cE7,cE8 st,(21,.o 2),cE9,cE10 st] [cE11 st,cE12,(2,.val (.os 2 Q3 ([]:List Q0)))] 3 11 (bvA 24 [2,5,6,9,10,13,14,17,21,22,23]) ?_ fun hd4_5=>?_
 refine D.all 2 [6,10,14] (by kernel_rfl) ⟨?_,?_,?_,?_,trivial⟩
 refine D.bs T eI ([]:List Int) ?_
 exact D.tq [0,1,3,2] hd4_10
 refine D.bs T Q4 ([]:List ApiRobot) ?_
 exact D.tq [0,1,3,2] hd4_13
 refine D.bs T eI ([]:List Int) ?_
 exact D.tq [0,1,3,2] hd4_15
 refine D.bs T eI ([]:List Int) ?_
 exact D.tq [0,1,3,2] hd4_16
 refine D.all 2 [6,10,14,18] (by kernel_rfl) ⟨?_,?_,?_,?_,?_,trivial⟩
 refine D.bs T eI ([]:List Int) ?_
 exact D.tq [0,1,2] hd4_1
 refine D.bs T Q4 ([]:List ApiRobot) ?_
 exact D.tq [0,1,2] hd4_2
 refine D.bs T eI ([]:List Int) ?_
 exact D.tq [0,1,2] hd4_3
 refine D.bs T eI ([]:List Int) ?_
 exact D.tq [0,1,2] hd4_4
 refine D.bs T Q3 ([]:List Q0) ?_
 exact D.tq [0,1,2] hd4_5
theorem Q0s (s_1:ApiSite) (c:Int) (post:Int→Prop) (g:Xd s_1 c post):
  Tr Tryz.prog 114 [.agg (Q2 s_1),.i c] [] 0 (pI post):=by
 refine Tr.go Tryz.func114 Tryz.ntmps114 fun _ _ _ _ o=>?_
 unfold Xd at g
 refine C.ss (U.bx ?_)
 refine U.pd 1 T (C.xt ?_)
 refine U.ps 2 T rfl (U.k (WQ s_1 c _ g) Q9K (fun x5 g=>?_))
 refine U.pd 1 T (C.xs (C.ss ?_))
 refine U.pd 2 T (C.nx ?_)
 refine C.ite rfl g (fun b8 g=>?_) fun b8 g=>?_
 refine C.ss (U.pd 1 T (C.nx (C.ret (C.rt ?_))))
 exact C.f1 T o (pIi g)
 refine C.skip (C.xt (U.ps 3 T rfl ?_))
 obtain⟨x13,y13,g⟩:=g
 refine U.ix T y13 ?_
 refine U.pd 3 T (C.nx (C.ret ?_))
 exact C.f1 T o (pIi g)
theorem Zg (s_1:ApiSite) (st:ApiState) (robot:Int) (act:Int) (post:ApiState→Prop) (g:Kr s_1 st robot act post):
  Tr Tryz.prog 41 [.agg (Q2 s_1),.agg (Q1 st),.i robot,.i act] [] 0 (fun A H' k=>∃y,post y∧A=(.agg [.i y.Tick,.o 0,.o 1,.o 2,.o 3,.o 4])∧H'=[(0,.val (.os 1 eI y.Shelves)),(1,.val (.os 6 Q4 y.Robots)),(2,.val (.os 1 eI y.People)),(3,.val (.os 1 eI y.Dead)),(4,.val (.os 2 Q3 y.Stuck))]∧k=5):=by
 refine Tr.go Tryz.func41 Tryz.ntmps41 fun _ _ _ _ o=>?_
 unfold Kr at g
 refine C.ss (U.bx ?_)
 refine U.bx ?_
 refine U.al T ?_
 refine U.done (C.xt (U.ps 1 T rfl (U.k (W5 st _ g) en54 (fun x5 g=>?_))))
 refine U.al T ?_
 refine U.st T ?_
 refine U.done (C.xs (C.seq ?_))
 refine C.jn (fun (x6:Bool)=>[(2,.i robot),(3,.i act),(4,.p 0 0),(5,.p 1 0),(8,.p 2 0),(9,.p 3 0),(25,.b x6)]) (fun x6=>[(0,.box (Q2 s_1)),(1,.box (Q1 st)),(2,.box [.i 0,vN,vN,vN,vN,vN]),(3,.box [.i x5.Tick,.o 4,.o 5,.o 6,.o 7,.o 8]),(4,.val (.os 1 eI x5.Shelves)),(5,.val (.os 6 Q4 x5.Robots)),(6,.val (.os 1 eI x5.People)),(7,.val (.os 1 eI x5.Dead)),(8,.val (.os 2 Q3 x5.Stuck))]) 9 g (fun x6 g=>?_) fun J7 g j7=>?_
 refine C.nx ?_
 refine C.ite rfl g (fun b9 g=>?_) fun b9 g=>?_
 refine C.ss (U.ps 1 T rfl (U.st T ?_))
 refine U.done (C.nx (C.ret (C.rt ?_)))
 exact C.g1 (sqR 4 5) T o ⟨x5,g,rfl,rfl,rfl⟩
 refine C.skip (C.xt (U.ps 3 T rfl ?_))
 obtain⟨x14,y14,g⟩:=g
 refine U.r rfl (.none rfl) rfl rfl (by exact Rd.io T rfl rfl rfl rfl rfl rfl rfl y14) ?_
 refine U.r rfl (.none rfl) rfl rfl (by exact Rd.le T rfl rfl rfl (Qj y14).2.2 rfl rfl rfl) ?_
 refine U.al T ?_
 refine U.st T ?_
 refine U.done (C.xs (C.ss (U.pd 2 T (C.nx ?_))))
 refine C.ite rfl g (fun b17 g=>?_) fun b17 g=>?_
 refine C.ss (U.ps 1 T rfl (U.st T ?_))
 refine U.done (C.nx (C.ret (C.rt ?_)))
 exact C.g1 (sqR 4 5) T o ⟨x5,g,rfl,rfl,rfl⟩
 refine C.skip (C.xt (U.ps 8 T rfl (U.k (Ya st.Tick x14.Charge act (decide (x14.Load≥0)) _ g) Q9C (fun x22 g=>?_))))
 refine U.pd 5 T (C.xs (C.ss ?_))
 refine U.pd 2 T (C.nx ?_)
 refine C.jn (fun (x25:Int)=>[(2,.i robot),(3,.i act),(4,.p 0 0),(5,.p 1 0),(8,.p 2 0),(9,.p 3 0),(10,.p 9 0),(11,.i x25)]) (fun x25=>[(0,.box (Q2 s_1)),(1,.box (Q1 st)),(2,.box [.i 0,vN,vN,vN,vN,vN]),(3,.box [.i x5.Tick,.o 4,.o 5,.o 6,.o 7,.o 8]),(4,.val (.os 1 eI x5.Shelves)),(5,.val (.os 6 Q4 x5.Robots)),(6,.val (.os 1 eI x5.People)),(7,.val (.os 1 eI x5.Dead)),(8,.val (.os 2 Q3 x5.Stuck)),(9,.box (Q4 x14))]) 10 g (fun x25 g=>?_) fun J26 g j26=>?_
 refine C.xt (U.ps 2 T rfl (U.st T ?_))
 refine U.done (C.xs (C.ss (U.pd 1 T (C.nx (C.block (C.ss ?_))))))
 refine U.pd 2 T (C.nx ?_)
 refine C.jn (fun (x36:Int)=>[(2,.i robot),(3,.i act),(4,.p 0 0),(5,.p 1 0),(8,.p 2 0),(9,.p 3 0),(10,.p 9 0)]) (fun x36=>[(0,.box (Q2 s_1)),(1,.box (Q1 st)),(2,.box [.i 0,vN,vN,vN,vN,vN]),(3,.box [.i x5.Tick,.o 4,.o 5,.o 6,.o 7,.o 8]),(4,.val (.os 1 eI x5.Shelves)),(5,.val (.os 6 Q4 x5.Robots)),(6,.val (.os 1 eI x5.People)),(7,.val (.os 1 eI x5.Dead)),(8,.val (.os 2 Q3 x5.Stuck)),(9,.box [.i x14.Cell,.i x36,.i x25,.i x14.Rest,.i x14.Mute,.b x14.Dead])]) 10 g (fun x36 g=>?_) fun J37 g j37=>?_
 refine C.bnx (C.xt (U.ps 4 T rfl (U.k (WR s_1 st robot act _ g) Q9J (fun x51 g=>?_))))
 refine U.pd 5 T (C.xs (C.ss ?_))
 refine U.pd 1 T (C.nx ?_)
 refine C.jn (fun (x54:List Int×Int×Int)=>[(2,.i robot),(8,.p 0 0),(9,.p 1 0),(10,.p 7 0)]) (fun x54=>[(0,.box [.i 0,vN,vN,vN,vN,vN]),(1,.box [.i x5.Tick,.o 2,.o 3,.o 4,.o 5,.o 6]),(2,.val (.os 1 eI x54.1)),(3,.val (.os 6 Q4 x5.Robots)),(4,.val (.os 1 eI x5.People)),(5,.val (.os 1 eI x5.Dead)),(6,.val (.os 2 Q3 x5.Stuck)),(7,.box [.i x54.2.1,.i x36,.i x25,.i x54.2.2,.i x14.Mute,.b x14.Dead])]) 8 g (fun x54 g=>?_) fun J55 g j55=>?_
 refine C.xt (U.ps 4 T rfl (U.r rfl (.none rfl) rfl rfl (by exact Rd.io T rfl rfl rfl rfl rfl rfl rfl y14) ?_))
 refine U.e1 rfl (.none rfl) (by exact Eff1.se T (z':=({Cell:=x54.2.1,Load:=x36,Charge:=x25,Rest:=x54.2.2,Mute:=x14.Mute,Dead:=x14.Dead:ApiRobot})) rfl rfl rfl (Qj y14).2.2 rfl rfl rfl rfl rfl rfl rfl rfl (fun _=>rfl) rfl) ?_
 refine U.done (C.xt (U.ps 1 T rfl (U.st T ?_)))
 refine U.done (C.nx (C.ret ?_))
 exact C.g1 (sqR 2 5) T o ⟨({Tick:=x5.Tick,Shelves:=x54.1,Robots:=(x5.Robots.set (Int.toNat robot) ({Cell:=x54.2.1,Load:=x36,Charge:=x25,Rest:=x54.2.2,Mute:=x14.Mute,Dead:=x14.Dead:ApiRobot})),People:=x5.People,Dead:=x5.Dead,Stuck:=x5.Stuck:ApiState}),g,rfl,rfl,rfl⟩
 refine C.ite rfl g (fun b56 g=>?_) fun b56 g=>?_
 refine C.ss (U.ps 2 T rfl (U.st T ?_))
 refine U.done (C.xt (U.ps 2 T rfl (U.k (Q0s s_1 x51.1 _ g) QaA (fun x61 g=>?_))))
 refine U.ps 2 T rfl (U.st T ?_)
 refine U.done (C.xs ?_)
 refine C.jn (fun (x62:Bool)=>[(2,.i robot),(8,.p 0 0),(9,.p 1 0),(10,.p 7 0),(13,.i x51.1),(89,.b x62)]) (fun x62=>[(0,.box [.i 0,vN,vN,vN,vN,vN]),(1,.box [.i x5.Tick,.o 2,.o 3,.o 4,.o 5,.o 6]),(2,.val (.os 1 eI x5.Shelves)),(3,.val (.os 6 Q4 x5.Robots)),(4,.val (.os 1 eI x5.People)),(5,.val (.os 1 eI x5.Dead)),(6,.val (.os 2 Q3 x5.Stuck)),(7,.box [.i x51.1,.i x36,.i x25,.i (w64 (x61-1)),.i x14.Mute,.b x14.Dead])]) 8 g (fun x62 g=>?_) fun J63 g j63=>?_
 refine C.nx ?_
 refine C.jn (fun (x65:List Int)=>[(2,.i robot),(8,.p 0 0),(9,.p 1 0),(10,.p 7 0)]) (fun x65=>[(0,.box [.i 0,vN,vN,vN,vN,vN]),(1,.box [.i x5.Tick,.o 2,.o 3,.o 4,.o 5,.o 6]),(2,.val (.os 1 eI x65)),(3,.val (.os 6 Q4 x5.Robots)),(4,.val (.os 1 eI x5.People)),(5,.val (.os 1 eI x5.Dead)),(6,.val (.os 2 Q3 x5.Stuck)),(7,.box [.i x51.1,.i x36,.i x25,.i (w64 (x61-1)),.i x14.Mute,.b x14.Dead])]) 8 g (fun x65 g=>?_) fun J66 g j66=>?_
 exact St.wa (idR 8) (j55 _ g)
 refine C.ite rfl g (fun b67 g=>?_) fun b67 g=>?_
 refine U.start (U.ps 5 T rfl ?_)
 obtain⟨x70,y70,g⟩:=g
 refine U.r rfl (.none rfl) rfl rfl (by exact Rd.io T rfl rfl rfl rfl rfl rfl rfl y70) ?_
 refine U.e1 rfl (.none rfl) (by exact Eff1.se T (z':=x51.1) rfl rfl rfl (Qj y70).2.2 rfl rfl rfl rfl rfl rfl rfl rfl (fun _=>rfl) rfl) ?_
 refine U.done ?_
 exact St.wa (idR 8) (j66 _ g)
 refine C.skip ?_
 exact St.wa (idR 8) (j66 _ g)
 refine U.start (U.ps 4 T rfl ?_)
 refine g.cs (fun b64 g=>?_) fun b64 g=>?_
 refine U.pq 6 3 true 82 b64 T ?_
 refine U.pk b64 ?_
 refine U.done ?_
 exact St.wa (sqR 2 8) (j63 _ g)
 refine U.sk' 6 3 true 82 b64 ?_
 refine U.pk' b64 ?_
 refine U.done ?_
 exact St.wa (sqR 2 8) (j63 _ g)
 refine C.skip ?_
 exact St.wa (sqR 2 8) (j55 _ g)
 refine C.ite rfl g (fun b38 g=>?_) fun b38 g=>?_
 refine U.start (U.ps 4 T rfl (U.k (Ze s_1 st x14.Cell _ g) Q9Z (fun x41 g=>?_)))
 refine U.ps 1 T rfl (U.st T ?_)
 refine U.done ?_
 exact St.wa (idR 10) (j37 _ g)
 refine C.ss (U.pd 2 T (C.nx ?_))
 refine C.jn (fun (x44:Int)=>[(2,.i robot),(3,.i act),(4,.p 0 0),(5,.p 1 0),(8,.p 2 0),(9,.p 3 0),(10,.p 9 0)]) (fun x44=>[(0,.box (Q2 s_1)),(1,.box (Q1 st)),(2,.box [.i 0,vN,vN,vN,vN,vN]),(3,.box [.i x5.Tick,.o 4,.o 5,.o 6,.o 7,.o 8]),(4,.val (.os 1 eI x5.Shelves)),(5,.val (.os 6 Q4 x5.Robots)),(6,.val (.os 1 eI x5.People)),(7,.val (.os 1 eI x5.Dead)),(8,.val (.os 2 Q3 x5.Stuck)),(9,.box [.i x14.Cell,.i x44,.i x25,.i x14.Rest,.i x14.Mute,.b x14.Dead])]) 10 g (fun x44 g=>?_) fun J45 g j45=>?_
 exact St.wa (idR 10) (j37 _ g)
 refine C.ite rfl g (fun b46 g=>?_) fun b46 g=>?_
 refine U.start (U.ps 1 T rfl (U.st T ?_))
 refine U.done ?_
 exact St.wa (idR 10) (j45 _ g)
 refine C.skip ?_
 exact St.wa (idR 10) (j45 _ g)
 refine C.ite rfl g (fun b27 g=>?_) fun b27 g=>?_
 refine U.start (U.pd 1 T ?_)
 exact St.wa (idR 10) (j26 _ g)
 refine C.skip ?_
 exact St.wa (idR 10) (j26 _ g)
 refine U.start (U.ps 3 T rfl ?_)
 refine g.cs (fun b8 g=>?_) fun b8 g=>?_
 refine U.sk' 5 2 false 19 b8 ?_
 refine U.pk b8 ?_
 refine U.done ?_
 exact St.wa [some 0,some 1,some 2,some 8,some 3,some 4,some 5,some 6,some 7] (j7 _ g)
 refine U.pq 5 2 false 19 b8 T ?_
 refine U.pk' b8 ?_
 refine U.done ?_
 exact St.wa [some 0,some 1,some 2,some 8,some 3,some 4,some 5,some 6,some 7] (j7 _ g)
theorem Yh (s_1:ApiSite) (st:ApiState) (acts:List Int) (post:Int→Prop) (g:Ky s_1 st acts post):
  Tr Tryz.prog 11 [.agg (Q2 s_1),.agg (Q1 st),.sl 1 eI acts] [] 0 (pI post):=by
 refine Tr.go Tryz.func11 Tryz.ntmps11 fun _ _ _ _ o=>?_
 unfold Ky at g
 refine C.ss (U.bx ?_)
 refine U.bx ?_
 refine U.pd 1 T (C.xs (C.ss ?_))
 refine U.pd 3 T (C.nx ?_)
 refine C.ite rfl g (fun b5 g=>?_) fun b5 g=>?_
 refine C.ss (U.pd 1 T (C.nx (C.ret (C.rt ?_))))
 exact C.f1 T o (pIi g)
 refine C.skip (C.xs (C.ss (U.pd 6 T (C.nx ?_))))
 refine C.ite rfl g (fun b10 g=>?_) fun b10 g=>?_
 refine C.ss (U.pd 1 T (C.nx (C.ret (C.rt ?_))))
 exact C.f1 T o (pIi g)
 refine C.skip (C.xs (C.ss (U.pd 1 T (C.nx ?_))))
 refine C.jn (fun (x15:Unit)=>[(2,.sl 1 eI acts),(3,.p 0 0),(4,.p 1 0)]) (fun x15=>[(0,.box (Q2 s_1)),(1,.box (Q1 st))]) 2 g (fun x15 g=>?_) fun J16 g j16=>?_
 refine C.xt (U.ps 4 T rfl (U.k (Q08 s_1.Floor st acts _ g) en40 (fun x35 g=>?_)))
 refine U.k (Yo x35 _ g) en39 fun x36 g=>?_
 refine U.pd 5 T (C.xs (C.ss ?_))
 refine U.pd 1 T (C.nx ?_)
 refine C.ite rfl g (fun b39 g=>?_) fun b39 g=>?_
 refine C.ss (U.pd 1 T (C.nx (C.ret (C.rt ?_))))
 exact C.f1 T o (pIi g)
 refine C.skip (C.xt (U.ps 1 T rfl (U.al T ?_)))
 refine U.st T ?_
 refine U.done (C.xs (C.ss (U.pd 1 T (C.nx ?_))))
 refine C.jn (fun (x46:Unit)=>[]) (fun x46=>[]) 0 g (fun x46 g=>?_) fun J47 g j47=>?_
 refine C.xt (U.pd 1 T (C.nx (C.ret ?_)))
 exact C.f1 T o (pIi g)
 refine C.block ?_
 refine St.wk (C.loop (fun (s48:Int×List Int×List ApiRobot×List Int×List Int×List Q0×Int)=>[(2,.sl 1 eI acts),(3,.p 0 0),(11,.p 1 0),(12,.i s48.2.2.2.2.2.2)]) (fun s48=>[(0,.box (Q2 s_1)),(1,.box [.i s48.1,.sl 1 eI s48.2.1,.sl 6 Q4 s48.2.2.1,.sl 1 eI s48.2.2.2.1,.sl 1 eI s48.2.2.2.2.1,.sl 2 Q3 s48.2.2.2.2.2.1])]) g (fun s48 Y49 g=>?_)) (Wk.a [some 0,some 3])
 refine C.seq (C.ss (U.pd 4 T (C.nx ?_)))
 refine C.ite rfl g (fun b52 g=>?_) fun b52 g=>?_
 refine C.skip (C.xs (C.block (C.seq (D.bq mix 9999 [0,1] [] (fun hQ hS ws M'=>?_)))))
 refine D.pq 5 (zl [0,1,2,3,4]) T ?_
 obtain⟨x55,y55,g⟩:=g
 refine D.ix 5 [] T y55 ?_
 refine D.pq 1 [(6,[])] T ?_
 refine D.k 7 (W6 s_1 ({Tick:=s48.1,Shelves:=s48.2.1,Robots:=s48.2.2.1,People:=s48.2.2.2.1,Dead:=s48.2.2.2.2.1,Stuck:=s48.2.2.2.2.2.1:ApiState}) s48.2.2.2.2.2.2 x55 _ g) en38 fun x56 g=>?_
 refine D.pq 1 [(8,[])] T ?_
 refine D.done (by kernel_rfl) ?_
 refine C.xs (C.ss (U.pd 2 T (C.nx ?_)))
 refine C.ite rfl g (fun b59 g=>?_) fun b59 g=>?_
 refine C.ss (U.pd 2 T (C.nx (C.ret (C.rt (C.brt (C.rt (C.rt (C.brt (C.rt ?_)))))))))
 exact C.f1 T o (pIi g)
 refine C.skip (C.nx (D.bq mix 8 [0,1] [] (fun hQ hS ws M'=>?_)))
 refine D.pq 5 (zl [0,1,2,3,4]) T ?_
 refine D.ix 5 [] T y55 ?_
 refine D.pq 1 [(6,[])] T ?_
 refine D.k 7 (Zg s_1 ({Tick:=s48.1,Shelves:=s48.2.1,Robots:=s48.2.2.1,People:=s48.2.2.2.1,Dead:=s48.2.2.2.2.1,Stuck:=s48.2.2.2.2.2.1:ApiState}) s48.2.2.2.2.2.2 x55 _ g) en41 fun x64 g=>?_
 refine D.ze1 rfl (.none rfl) (by exact Eff1.st T rfl rfl rfl rfl rfl rfl rfl rfl rfl rfl) (by kernel_rfl) (by kernel_rfl) ?_
 refine C.bnx (C.nx (U.start (U.pd 3 T (C.nx ?_))))
 exact St.wk (C.next g) (Wk.mk' [some 0,some 1] rfl rfl (.eqs rfl) ⟨bX,⟨_,rfl,.box rfl (.cons (.eq rfl) (.cons (.fz rfl rfl rfl (.os fun _=>.cons (.ro rfl) .nil)) (.cons (.fz rfl rfl rfl (.os fun _=>.cons (.ro rfl) (.cons (.ro rfl) (.cons (.ro rfl) (.cons (.ro rfl) (.cons (.ro rfl) (.cons (.ro rfl) .nil))))))) (.cons (.fz rfl rfl rfl (.os fun _=>.cons (.ro rfl) .nil)) (.cons (.fz rfl rfl rfl (.os fun _=>.cons (.ro rfl) .nil)) (.cons (.fz rfl rfl rfl (.os fun _=>.cons (.ro rfl) (.cons (.ro rfl) .nil))) .nil))))))⟩,trivial⟩ rfl)
 refine C.exit (C.ex (C.ex (C.bex ?_)))
 exact St.wk (j47 _ g) (Wk.mk' [] rfl rfl trivial trivial rfl)
 refine C.block (St.wk (C.loop (fun (s17:Int)=>[(2,.sl 1 eI acts),(3,.p 0 0),(4,.p 1 0),(7,.i s17)]) (fun s17=>[(0,.box (Q2 s_1)),(1,.box (Q1 st))]) g (fun s17 Y18 g=>?_)) (Wk.a (idR 2)))
 refine C.seq (C.ss (U.pd 4 T (C.nx ?_)))
 refine C.ite rfl g (fun b21 g=>?_) fun b21 g=>?_
 refine C.skip (C.xs (C.block (C.seq (D.bq mix 9999 [0,1] [] (fun hQ hS ws M'=>?_)))))
 refine D.pq 5 (zl [0,1,2,3,4]) T ?_
 obtain⟨x24,y24,g⟩:=g
 refine D.ix 5 [] T y24 ?_
 refine D.pq 1 [(6,[])] T ?_
 refine D.k 7 (W6 s_1 st s17 x24 _ g) en38 fun x25 g=>?_
 refine D.pq 1 [(8,[])] T ?_
 refine D.done (by kernel_rfl) ?_
 refine C.xt (U.pd 2 T (C.nx ?_))
 refine C.ite rfl g (fun b28 g=>?_) fun b28 g=>?_
 refine C.ss (U.pd 2 T (C.nx (C.ret (C.brt (C.rt (C.rt (C.brt (C.rt ?_))))))))
 exact C.f1 T o (pIi g)
 refine C.skip (C.bnx (C.nx (U.start (U.pd 3 T (C.nx ?_)))))
 exact St.wk (C.next g) (Wk.a (idR 2))
 refine C.exit (C.ex (C.ex (C.bex ?_)))
 exact St.wa (idR 2) (j16 _ g)
theorem Ym (st:ApiState) (i:Int) (post:Bool→Prop) (g:KC st i post):
  Tr Tryz.prog 46 [.agg (Q1 st),.i i] [] 0 (pB post):=by
 refine Tr.go Tryz.func46 Tryz.ntmps46 fun _ _ _ _ o=>?_
 unfold KC at g
 refine C.ss (U.bx ?_)
 refine U.pd 1 T (C.xs (C.seq ?_))
 refine C.jn (fun (x3:Bool)=>[(1,.i i),(2,.p 0 0),(13,.b x3)]) (fun x3=>[(0,.box (Q1 st))]) 1 g (fun x3 g=>?_) fun J4 g j4=>?_
 refine C.nx ?_
 refine C.ite rfl g (fun b6 g=>?_) fun b6 g=>?_
 refine C.ss (U.pd 1 T (C.nx (C.ret (C.rt ?_))))
 exact C.f1 T o (pBi g)
 refine C.skip (C.xt (U.ps 3 T rfl ?_))
 obtain⟨x11,y11,g⟩:=g
 refine U.ix T y11 ?_
 refine U.pd 4 T (C.nx (C.ret ?_))
 exact C.f1 T o (pBi g)
 refine U.start (U.ps 3 T rfl ?_)
 refine g.cs (fun b5 g=>?_) fun b5 g=>?_
 refine U.sk' 5 2 false 7 b5 ?_
 refine U.pk b5 ?_
 refine U.done ?_
 exact St.wa [some 0] (j4 _ g)
 refine U.pq 5 2 false 7 b5 T ?_
 refine U.pk' b5 ?_
 refine U.done ?_
 exact St.wa [some 0] (j4 _ g)
theorem Wo (s_1:ApiSite) (c:Int) (post:Int→Prop) (g:Ki s_1 c post):
  Tr Tryz.prog 47 [.agg (Q2 s_1),.i c] [] 0 (pI post):=by
 refine Tr.go Tryz.func47 Tryz.ntmps47 fun _ _ _ _ o=>?_
 unfold Ki at g
 refine C.ss (U.bx ?_)
 refine U.pd 1 T (C.xs (C.seq ?_))
 refine C.jn (fun (x3:Bool)=>[(1,.i c),(2,.p 0 0),(14,.b x3)]) (fun x3=>[(0,.box (Q2 s_1))]) 1 g (fun x3 g=>?_) fun J4 g j4=>?_
 refine C.nx ?_
 refine C.ite rfl g (fun b6 g=>?_) fun b6 g=>?_
 refine C.ss (U.pd 1 T (C.nx (C.ret (C.rt ?_))))
 exact C.f1 T o (pIi g)
 refine C.skip (C.xt (U.ps 4 T rfl ?_))
 obtain⟨x11,y11,g⟩:=g
 refine U.ix T y11 ?_
 refine U.pd 2 T (C.nx (C.ret ?_))
 exact C.f1 T o (pIi g)
 refine U.start (U.ps 3 T rfl ?_)
 refine g.cs (fun b5 g=>?_) fun b5 g=>?_
 refine U.sk' 6 2 false 7 b5 ?_
 refine U.pk b5 ?_
 refine U.done ?_
 exact St.wa [some 0] (j4 _ g)
 refine U.pq 6 2 false 7 b5 T ?_
 refine U.pk' b5 ?_
 refine U.done ?_
 exact St.wa [some 0] (j4 _ g)
theorem Gn (s_1:ApiSite) (st:ApiState) (f:Qk) (post:Int→Prop) (g:QU s_1 st f post):
  Tr Tryz.prog 13 [.agg (Q2 s_1),.agg (Q1 st),.agg (Ks f)] [] 0 (pI post):=by
 refine Tr.go Tryz.func13 Tryz.ntmps13 fun _ _ _ _ o=>?_
 unfold QU at g
 refine C.ss (U.bx ?_)
 refine U.bx ?_
 refine U.bx ?_
 refine U.pd 1 T (C.xt ?_)
 refine U.pd 1 T (C.xs (C.ss ?_))
 refine U.pd 2 T (C.nx (C.block (C.ss ?_)))
 refine U.pd 2 T (C.nx ?_)
 refine C.jn (fun (x9:Bool)=>[(7,.b x9)]) (fun x9=>[]) 0 g (fun x9 g=>?_) fun J10 g j10=>?_
 refine C.bnx (C.xs (C.ss (U.pd 2 T (C.nx ?_))))
 refine C.ite rfl g (fun b90 g=>?_) fun b90 g=>?_
 refine C.ss (U.pd 1 T (C.nx (C.ret (C.rt ?_))))
 exact C.f1 T o (pIi g)
 refine C.skip (C.xt (U.pd 1 T (C.nx (C.ret ?_))))
 exact C.f1 T o (pIi g)
 refine C.ite rfl g (fun b11 g=>?_) fun b11 g=>?_
 refine U.start (U.pd 1 T ?_)
 exact St.wn (j10 _ g)
 refine C.ss (U.pd 2 T (C.nx ?_))
 refine C.jn (fun (x16:Bool)=>[(7,.b x16)]) (fun x16=>[]) 0 g (fun x16 g=>?_) fun J17 g j17=>?_
 exact St.wn (j10 _ g)
 refine C.ite rfl g (fun b18 g=>?_) fun b18 g=>?_
 refine U.start (U.ps 3 T rfl (U.k (Ym st f.A _ g) en46 (fun x21 g=>?_)))
 refine U.pd 1 T ?_
 exact St.wn (j17 _ g)
 refine C.ss (U.pd 2 T (C.nx ?_))
 refine C.jn (fun (x24:Bool)=>[(7,.b x24)]) (fun x24=>[]) 0 g (fun x24 g=>?_) fun J25 g j25=>?_
 exact St.wn (j17 _ g)
 refine C.ite rfl g (fun b26 g=>?_) fun b26 g=>?_
 refine C.jn (fun (x27:Bool)=>[(7,.b x27)]) (fun x27=>[]) 0 g (fun x27 g=>?_) fun J28 g j28=>?_
 exact St.wn (j25 _ g)
 refine U.start (U.ps 3 T rfl (U.k (Ym st f.A _ g) en46 (fun x29 g=>?_)))
 refine U.ps 1 T rfl ?_
 refine g.cs (fun b30 g=>?_) fun b30 g=>?_
 refine U.pq 3 4 true 27 b30 T ?_
 refine U.pk b30 ?_
 refine U.ps 1 T rfl ?_
 refine g.cs (fun b31 g=>?_) fun b31 g=>?_
 refine U.pq 3 9 true 32 b31 T ?_
 refine U.pk b31 ?_
 refine U.pd 1 T ?_
 exact St.wn (j28 _ g)
 refine U.sk' 3 9 true 32 b31 ?_
 refine U.pk' b31 ?_
 refine U.pd 1 T ?_
 exact St.wn (j28 _ g)
 refine U.sk' 3 4 true 27 b30 ?_
 refine U.pk' b30 ?_
 refine U.ps 1 T rfl (U.sk' 3 9 true 32 rfl ?_)
 refine U.pk' rfl ?_
 refine U.pd 1 T ?_
 exact St.wn (j28 _ g)
 refine C.ss (U.pd 2 T (C.nx ?_))
 refine C.jn (fun (x34:Bool)=>[(7,.b x34)]) (fun x34=>[]) 0 g (fun x34 g=>?_) fun J35 g j35=>?_
 exact St.wn (j25 _ g)
 refine C.ite rfl g (fun b36 g=>?_) fun b36 g=>?_
 refine C.jn (fun (x37:Bool)=>[(7,.b x37)]) (fun x37=>[]) 0 g (fun x37 g=>?_) fun J38 g j38=>?_
 exact St.wn (j35 _ g)
 refine U.start (U.ps 3 T rfl (U.k (Wo s_1 f.A _ g) en47 (fun x39 g=>?_)))
 refine U.ps 2 T rfl ?_
 refine g.cs (fun b40 g=>?_) fun b40 g=>?_
 refine U.pq 4 5 true 44 b40 T ?_
 refine U.k (Kc st.Dead f.A _ g) en48 (fun x41 g=>?_) (hw:=.take 5 true 44 _ b40 rfl rfl rfl)
 refine U.pq 1 5 true 44 b40 T ?_
 refine U.pk b40 ?_
 refine U.pd 1 T ?_
 exact St.wn (j38 _ g)
 refine U.sk' 6 5 true 44 b40 ?_
 refine U.pk' b40 ?_
 refine U.pd 1 T ?_
 exact St.wn (j38 _ g)
 refine C.ss (U.pd 2 T (C.nx ?_))
 refine C.jn (fun (x44:Bool)=>[(7,.b x44)]) (fun x44=>[]) 0 g (fun x44 g=>?_) fun J45 g j45=>?_
 exact St.wn (j35 _ g)
 refine C.ite rfl g (fun b46 g=>?_) fun b46 g=>?_
 refine C.jn (fun (x47:Bool)=>[(7,.b x47)]) (fun x47=>[]) 0 g (fun x47 g=>?_) fun J48 g j48=>?_
 exact St.wn (j45 _ g)
 refine U.start (U.ps 3 T rfl (U.k (Wo s_1 f.A _ g) en47 (fun x49 g=>?_)))
 refine U.ps 2 T rfl ?_
 refine g.cs (fun b50 g=>?_) fun b50 g=>?_
 refine U.pq 3 5 true 59 b50 T ?_
 refine U.pk b50 ?_
 refine U.ps 1 T rfl ?_
 refine g.cs (fun b51 g=>?_) fun b51 g=>?_
 refine U.pq 3 10 true 64 b51 T ?_
 refine U.pk b51 ?_
 refine U.pd 1 T ?_
 exact St.wn (j48 _ g)
 refine U.sk' 3 10 true 64 b51 ?_
 refine U.pk' b51 ?_
 refine U.pd 1 T ?_
 exact St.wn (j48 _ g)
 refine U.sk' 3 5 true 59 b50 ?_
 refine U.pk' b50 ?_
 refine U.ps 1 T rfl (U.sk' 3 10 true 64 rfl ?_)
 refine U.pk' rfl ?_
 refine U.pd 1 T ?_
 exact St.wn (j48 _ g)
 refine C.ss (U.pd 2 T (C.nx ?_))
 refine C.jn (fun (x54:Bool)=>[(7,.b x54)]) (fun x54=>[]) 0 g (fun x54 g=>?_) fun J55 g j55=>?_
 exact St.wn (j45 _ g)
 refine C.ite rfl g (fun b56 g=>?_) fun b56 g=>?_
 refine C.ss (U.ps 3 T rfl (U.k (Wo s_1 f.N _ g) en47 (fun x59 g=>?_)))
 refine U.pd 1 T (C.xt ?_)
 refine U.ps 1 T rfl (U.k (GH st _ g) en49 (fun x62 g=>?_))
 refine U.pd 1 T (C.xs ?_)
 refine C.jn (fun (x63:Bool)=>[(3,.p 0 0),(4,.p 1 0),(5,.p 2 0),(8,.i x59),(10,.b x63)]) (fun x63=>[(0,.box (Q2 s_1)),(1,.box (Q1 st)),(2,.box (Ks f))]) 3 g (fun x63 g=>?_) fun J64 g j64=>?_
 refine C.xs ?_
 refine C.jn (fun (x68:Bool)=>[(3,.p 0 0),(4,.p 1 0),(5,.p 2 0),(8,.i x59),(10,.b x63),(102,.b x68)]) (fun x68=>[(0,.box (Q2 s_1)),(1,.box (Q1 st)),(2,.box (Ks f))]) 3 g (fun x68 g=>?_) fun J69 g j69=>?_
 refine C.nx ?_
 refine C.jn (fun (x71:Bool)=>[(7,.b x71)]) (fun x71=>[]) 0 g (fun x71 g=>?_) fun J72 g j72=>?_
 exact St.wn (j55 _ g)
 refine C.ite rfl g (fun b73 g=>?_) fun b73 g=>?_
 refine C.jn (fun (x74:Bool)=>[(7,.b x74)]) (fun x74=>[]) 0 g (fun x74 g=>?_) fun J75 g j75=>?_
 exact St.wn (j72 _ g)
 refine D.bq mix 9999 [0,1,2] [] (fun hQ hS ws M'=>?_)
 refine D.pq 2 (zl [0,1]) T ?_
 refine g.cs (fun b76 g=>?_) fun b76 g=>?_
 refine D.pt 2 [] 1 true 104 b76 T ?_
 refine D.pt 3 [] 1 true 104 b76 T ?_
 refine D.pt 4 [] 1 true 104 b76 T ?_
 refine g.cs (fun b77 g=>?_) fun b77 g=>?_
 refine D.sz 5 [] 4 false 107 b77 ?_
 refine D.sz 6 [] 4 false 107 b77 ?_
 refine D.q 7 [] hQ hS rfl (.tk 1 true 104 b76) rfl rfl (by exact Rd.pk rfl rfl b77 rfl) rfl (by kernel_rfl) ?_
 refine D.kt 8 [] b76 ?_
 refine D.pq 1 [(9,[])] T ?_
 refine D.pt 10 [] 9 true 112 rfl T ?_
 refine D.q 11 [] hQ hS rfl (.tk 9 true 112 rfl) rfl rfl (by exact Rd.l T rfl rfl rfl) rfl (by kernel_rfl) ?_
 refine D.pt 12 [] 9 true 112 rfl T ?_
 refine D.q 13 [] hQ hS rfl (.tk 9 true 112 rfl) rfl rfl (by exact Rd.l T rfl rfl rfl) rfl (by kernel_rfl) ?_
 refine D.pt 14 [] 9 true 112 rfl T ?_
 refine D.q 15 [] hQ hS rfl (.tk 9 true 112 rfl) rfl rfl (by exact Rd.l T rfl rfl rfl) rfl (by kernel_rfl) ?_
 obtain⟨x78,y78,g⟩:=g
 refine D.q 16 [] hQ hS rfl (.tk 9 true 112 rfl) rfl rfl (by exact Rd.ix T rfl rfl rfl rfl rfl rfl y78) rfl (by kernel_rfl) ?_
 refine D.q 17 [] hQ hS rfl (.tk 9 true 112 rfl) rfl rfl (by exact Rd.l T rfl rfl rfl) rfl (by kernel_rfl) ?_
 refine D.pt 18 [] 9 true 112 rfl T ?_
 refine D.q 19 [] hQ hS rfl (.tk 9 true 112 rfl) rfl rfl (by exact Rd.l T rfl rfl rfl) rfl (by kernel_rfl) ?_
 refine D.k 20 (Wi s_1.Floor x78 f.N _ g) en50 (fun x79 g=>?_) (hw:=.take 9 true 112 _ rfl rfl rfl rfl)
 refine D.kt 21 [] rfl ?_
 refine D.pq 1 [(22,[])] T ?_
 refine D.done (by kernel_rfl) ?_
 exact St.wn (j75 _ g)
 refine D.pt 5 [] 4 false 107 b77 T ?_
 refine D.pt 6 [] 4 false 107 b77 T ?_
 refine D.q 7 [] hQ hS rfl (.tk 1 true 104 b76) rfl rfl (by exact Rd.pk' rfl rfl b77 rfl) rfl (by kernel_rfl) ?_
 refine D.kt 8 [] b76 ?_
 refine D.pq 1 [(9,[])] T ?_
 refine g.cs (fun b80 g=>?_) fun b80 g=>?_
 refine D.pt 10 [] 9 true 112 b80 T ?_
 refine D.q 11 [] hQ hS rfl (.tk 9 true 112 b80) rfl rfl (by exact Rd.l T rfl rfl rfl) rfl (by kernel_rfl) ?_
 refine D.pt 12 [] 9 true 112 b80 T ?_
 refine D.q 13 [] hQ hS rfl (.tk 9 true 112 b80) rfl rfl (by exact Rd.l T rfl rfl rfl) rfl (by kernel_rfl) ?_
 refine D.pt 14 [] 9 true 112 b80 T ?_
 refine D.q 15 [] hQ hS rfl (.tk 9 true 112 b80) rfl rfl (by exact Rd.l T rfl rfl rfl) rfl (by kernel_rfl) ?_
 obtain⟨x81,y81,g⟩:=g
 refine D.q 16 [] hQ hS rfl (.tk 9 true 112 b80) rfl rfl (by exact Rd.ix T rfl rfl rfl rfl rfl rfl y81) rfl (by kernel_rfl) ?_
 refine D.q 17 [] hQ hS rfl (.tk 9 true 112 b80) rfl rfl (by exact Rd.l T rfl rfl rfl) rfl (by kernel_rfl) ?_
 refine D.pt 18 [] 9 true 112 b80 T ?_
 refine D.q 19 [] hQ hS rfl (.tk 9 true 112 b80) rfl rfl (by exact Rd.l T rfl rfl rfl) rfl (by kernel_rfl) ?_
 refine D.k 20 (Wi s_1.Floor x81 f.N _ g) en50 (fun x82 g=>?_) (hw:=.take 9 true 112 _ b80 rfl rfl rfl)
 refine D.kt 21 [] b80 ?_
 refine D.pq 1 [(22,[])] T ?_
 refine D.done (by kernel_rfl) ?_
 exact St.wn (j75 _ g)
 refine D.sz 10 [] 9 true 112 b80 ?_
 refine D.sz 11 [] 9 true 112 b80 ?_
 refine D.sz 12 [] 9 true 112 b80 ?_
 refine D.sz 13 [] 9 true 112 b80 ?_
 refine D.sz 14 [] 9 true 112 b80 ?_
 refine D.sz 15 [] 9 true 112 b80 ?_
 refine D.sz 16 [] 9 true 112 b80 ?_
 refine D.sz 17 [] 9 true 112 b80 ?_
 refine D.sz 18 [] 9 true 112 b80 ?_
 refine D.sz 19 [] 9 true 112 b80 ?_
 refine D.sz 20 [] 9 true 112 b80 ?_
 refine D.kf 21 [] b80 ?_
 refine D.pq 1 [(22,[])] T ?_
 refine D.done (by kernel_rfl) ?_
 exact St.wn (j75 _ g)
 refine D.sz 2 [] 1 true 104 b76 ?_
 refine D.sz 3 [] 1 true 104 b76 ?_
 refine D.sz 4 [] 1 true 104 b76 ?_
 refine D.sx 5 [] hQ hS (.und 4 false 107 rfl rfl rfl) ?_
 refine D.sx 6 [] hQ hS (.und 4 false 107 rfl rfl rfl) ?_
 refine D.sz 7 [] 1 true 104 b76 ?_
 refine D.kf 8 [] b76 ?_
 refine D.pq 1 [(9,[])] T ?_
 refine D.sz 10 [] 9 true 112 rfl ?_
 refine D.sz 11 [] 9 true 112 rfl ?_
 refine D.sz 12 [] 9 true 112 rfl ?_
 refine D.sz 13 [] 9 true 112 rfl ?_
 refine D.sz 14 [] 9 true 112 rfl ?_
 refine D.sz 15 [] 9 true 112 rfl ?_
 refine D.sz 16 [] 9 true 112 rfl ?_
 refine D.sz 17 [] 9 true 112 rfl ?_
 refine D.sz 18 [] 9 true 112 rfl ?_
 refine D.sz 19 [] 9 true 112 rfl ?_
 refine D.sz 20 [] 9 true 112 rfl ?_
 refine D.kf 21 [] rfl ?_
 refine D.pq 1 [(22,[])] T ?_
 refine D.done (by kernel_rfl) ?_
 exact St.wn (j75 _ g)
 refine C.jn (fun (x83:Bool)=>[(7,.b x83)]) (fun x83=>[]) 0 g (fun x83 g=>?_) fun J84 g j84=>?_
 exact St.wn (j72 _ g)
 refine U.start (U.ps 2 T rfl ?_)
 refine g.cs (fun b85 g=>?_) fun b85 g=>?_
 refine U.pq 2 1 true 126 b85 T ?_
 refine U.pk b85 ?_
 refine U.ps 1 T rfl ?_
 refine g.cs (fun b86 g=>?_) fun b86 g=>?_
 refine U.pq 6 5 true 130 b86 T ?_
 refine U.pk b86 ?_
 refine U.ps 1 T rfl ?_
 refine g.cs (fun b87 g=>?_) fun b87 g=>?_
 refine U.pq 3 13 true 138 b87 T ?_
 refine U.pk b87 ?_
 refine U.pd 1 T ?_
 exact St.wn (j84 _ g)
 refine U.sk' 3 13 true 138 b87 ?_
 refine U.pk' b87 ?_
 refine U.pd 1 T ?_
 exact St.wn (j84 _ g)
 refine U.sk' 6 5 true 130 b86 ?_
 refine U.pk' b86 ?_
 refine U.ps 1 T rfl (U.sk' 3 13 true 138 rfl ?_)
 refine U.pk' rfl ?_
 refine U.pd 1 T ?_
 exact St.wn (j84 _ g)
 refine U.sk' 2 1 true 126 b85 ?_
 refine U.pk' b85 ?_
 refine U.ps 1 T rfl (U.sk' 6 5 true 130 rfl ?_)
 refine U.pk' rfl ?_
 refine U.ps 1 T rfl (U.sk' 3 13 true 138 rfl ?_)
 refine U.pk' rfl ?_
 refine U.pd 1 T ?_
 exact St.wn (j84 _ g)
 refine U.start (U.ps 4 T rfl ?_)
 refine g.cs (fun b70 g=>?_) fun b70 g=>?_
 refine U.pq 6 3 true 95 b70 T ?_
 refine U.pk b70 ?_
 refine U.done ?_
 exact St.wa (idR 3) (j69 _ g)
 refine U.sk' 6 3 true 95 b70 ?_
 refine U.pk' b70 ?_
 refine U.done ?_
 exact St.wa (idR 3) (j69 _ g)
 refine U.start (U.ps 4 T rfl (U.k (Kc x62 (w64 (2*f.N)) _ g) en48 (fun x65 g=>?_)))
 refine U.ps 2 T rfl ?_
 refine g.cs (fun b66 g=>?_) fun b66 g=>?_
 refine U.sk' 7 6 true 83 (ntF b66) ?_
 refine U.pk' (ntF b66) ?_
 refine U.pd 1 T ?_
 exact St.wa (idR 3) (j64 _ g)
 refine U.pq 5 6 true 83 (ntT b66) T ?_
 refine U.k (Kc x62 (w64 ((w64 (2*f.N))+1)) _ g) en48 (fun x67 g=>?_) (hw:=.take 6 true 83 _ (ntT b66) rfl rfl rfl)
 refine U.pq 1 6 true 83 (ntT b66) T ?_
 refine U.pk (ntT b66) ?_
 refine U.pd 1 T ?_
 exact St.wa (idR 3) (j64 _ g)
 refine C.skip ?_
 exact St.wn (j55 _ g)
theorem WP (s_1:ApiSite) (st:ApiState) (f:Qk) (post:ApiState→Prop) (g:Kl s_1 st f post):
  Tr Tryz.prog 16 [.agg (Q2 s_1),.agg (Q1 st),.agg (Ks f)] [] 0 (fun A H' k=>∃y,post y∧A=(.agg [.i y.Tick,.o 0,.o 1,.o 2,.o 3,.o 4])∧H'=[(0,.val (.os 1 eI y.Shelves)),(1,.val (.os 6 Q4 y.Robots)),(2,.val (.os 1 eI y.People)),(3,.val (.os 1 eI y.Dead)),(4,.val (.os 2 Q3 y.Stuck))]∧k=5):=by
 refine Tr.go Tryz.func16 Tryz.ntmps16 fun _ _ _ _ o=>?_
 unfold Kl at g
 refine C.ss (U.bx ?_)
 refine U.bx ?_
 refine U.bx ?_
 refine U.al T ?_
 refine U.done (C.xt (U.ps 1 T rfl (U.k (W5 st _ g) en54 (fun x5 g=>?_))))
 refine U.al T ?_
 refine U.st T ?_
 refine U.done (C.xs (C.ss (U.ps 3 T rfl (U.k (Gn s_1 st f _ g) en13 (fun x8 g=>?_)))))
 refine U.pd 1 T (C.nx ?_)
 refine C.ite rfl g (fun b9 g=>?_) fun b9 g=>?_
 refine C.ss (U.ps 1 T rfl (U.st T ?_))
 refine U.done (C.nx (C.ret (C.rt ?_)))
 exact C.g1 (sqR 4 5) T o ⟨x5,g,rfl,rfl,rfl⟩
 refine C.skip (C.xs (C.ss (U.pd 2 T (C.nx ?_))))
 refine C.jn (fun (x14:List ApiRobot×List Int×List Int×List Q0)=>[(6,.p 0 0),(7,.p 1 0)]) (fun x14=>[(0,.box [.i 0,vN,vN,vN,vN,vN]),(1,.box [.i x5.Tick,.o 2,.o 3,.o 4,.o 5,.o 6]),(2,.val (.os 1 eI x5.Shelves)),(3,.val (.os 6 Q4 x14.1)),(4,.val (.os 1 eI x14.2.1)),(5,.val (.os 1 eI x14.2.2.1)),(6,.val (.os 2 Q3 x14.2.2.2))]) 7 g (fun x14 g=>?_) fun J15 g j15=>?_
 refine C.xt (U.ps 1 T rfl (U.st T ?_))
 refine U.done (C.nx (C.ret ?_))
 exact C.g1 (sqR 2 5) T o ⟨({Tick:=x5.Tick,Shelves:=x5.Shelves,Robots:=x14.1,People:=x14.2.1,Dead:=x14.2.2.1,Stuck:=x14.2.2.2:ApiState}),g,rfl,rfl,rfl⟩
 refine C.block (C.ss (U.pd 2 T (C.nx ?_)))
 refine C.jn (fun (x18:List ApiRobot×List Int×List Int×List Q0)=>[(6,.p 0 0),(7,.p 1 0)]) (fun x18=>[(0,.box [.i 0,vN,vN,vN,vN,vN]),(1,.box [.i x5.Tick,.o 2,.o 3,.o 4,.o 5,.o 6]),(2,.val (.os 1 eI x5.Shelves)),(3,.val (.os 6 Q4 x18.1)),(4,.val (.os 1 eI x18.2.1)),(5,.val (.os 1 eI x18.2.2.1)),(6,.val (.os 2 Q3 x18.2.2.2))]) 7 g (fun x18 g=>?_) fun J19 g j19=>?_
 refine C.bnx ?_
 exact St.wa (idR 7) (j15 _ g)
 refine C.ite rfl g (fun b20 g=>?_) fun b20 g=>?_
 refine U.start (U.ps 4 T rfl ?_)
 obtain⟨x23,y23,g⟩:=g
 refine U.r rfl (.none rfl) rfl rfl (by exact Rd.io T rfl rfl rfl rfl rfl rfl rfl y23) ?_
 refine U.ps 1 T rfl (U.e1 rfl (.none rfl) (by exact Eff1.se T (z':=({Cell:=x23.Cell,Load:=x23.Load,Charge:=x23.Charge,Rest:=x23.Rest,Mute:=x23.Mute,Dead:=true:ApiRobot})) rfl rfl rfl (Qj y23).2.2 rfl rfl rfl rfl rfl rfl rfl rfl (fun _=>rfl) rfl) ?_)
 refine U.done ?_
 exact St.wa [some 3,some 9,some 4,some 5,some 6,some 7,some 8] (j19 _ g)
 refine C.ss (U.pd 2 T (C.nx ?_))
 refine C.jn (fun (x26:List ApiRobot×List Int×List Int×List Q0)=>[(6,.p 0 0),(7,.p 1 0)]) (fun x26=>[(0,.box [.i 0,vN,vN,vN,vN,vN]),(1,.box [.i x5.Tick,.o 2,.o 3,.o 4,.o 5,.o 6]),(2,.val (.os 1 eI x5.Shelves)),(3,.val (.os 6 Q4 x26.1)),(4,.val (.os 1 eI x26.2.1)),(5,.val (.os 1 eI x26.2.2.1)),(6,.val (.os 2 Q3 x26.2.2.2))]) 7 g (fun x26 g=>?_) fun J27 g j27=>?_
 exact St.wa (idR 7) (j19 _ g)
 refine C.ite rfl g (fun b28 g=>?_) fun b28 g=>?_
 refine U.start (U.ps 6 T rfl ?_)
 obtain⟨x31,y31,g⟩:=g
 refine U.r rfl (.none rfl) rfl rfl (by exact Rd.io T rfl rfl rfl rfl rfl rfl rfl y31) ?_
 refine U.ps 1 T rfl (U.e1 rfl (.none rfl) (by exact Eff1.se T (z':=({Cell:=x31.Cell,Load:=x31.Load,Charge:=x31.Charge,Rest:=x31.Rest,Mute:=f.N,Dead:=x31.Dead:ApiRobot})) rfl rfl rfl (Qj y31).2.2 rfl rfl rfl rfl rfl rfl rfl rfl (fun _=>rfl) rfl) ?_)
 refine U.done ?_
 exact St.wa [some 3,some 9,some 4,some 5,some 6,some 7,some 8] (j27 _ g)
 refine C.ss (U.pd 2 T (C.nx ?_))
 refine C.jn (fun (x34:List Int×List Int×List Q0)=>[(6,.p 0 0),(7,.p 1 0)]) (fun x34=>[(0,.box [.i 0,vN,vN,vN,vN,vN]),(1,.box [.i x5.Tick,.o 2,.o 3,.o 4,.o 5,.o 6]),(2,.val (.os 1 eI x5.Shelves)),(3,.val (.os 6 Q4 x5.Robots)),(4,.val (.os 1 eI x34.1)),(5,.val (.os 1 eI x34.2.1)),(6,.val (.os 2 Q3 x34.2.2))]) 7 g (fun x34 g=>?_) fun J35 g j35=>?_
 exact St.wa (idR 7) (j27 _ g)
 refine C.ite rfl g (fun b36 g=>?_) fun b36 g=>?_
 refine U.start (U.ps 4 T rfl (U.bs T eI ([f.A]:List Int) ?_))
 obtain⟨y39,g⟩:=g
 refine U.ap T y39 ?_
 refine U.k (GQ (x5.Dead++([f.A]:List Int)) _ g) en55 fun x40 g=>?_
 refine U.ps 1 T rfl (U.st T ?_)
 refine U.done ?_
 exact St.wa [some 3,some 9,some 4,some 5,some 6,some 12,some 8] (j35 _ g)
 refine C.ss (U.pd 2 T (C.nx ?_))
 refine C.jn (fun (x43:List Int×List Q0)=>[(6,.p 0 0),(7,.p 1 0)]) (fun x43=>[(0,.box [.i 0,vN,vN,vN,vN,vN]),(1,.box [.i x5.Tick,.o 2,.o 3,.o 4,.o 5,.o 6]),(2,.val (.os 1 eI x5.Shelves)),(3,.val (.os 6 Q4 x5.Robots)),(4,.val (.os 1 eI x43.1)),(5,.val (.os 1 eI x5.Dead)),(6,.val (.os 2 Q3 x43.2))]) 7 g (fun x43 g=>?_) fun J44 g j44=>?_
 exact St.wa (idR 7) (j35 _ g)
 refine C.ite rfl g (fun b45 g=>?_) fun b45 g=>?_
 refine C.ss (U.pd 1 T (C.xt ?_))
 refine U.pd 3 T (C.xt ?_)
 refine U.pd 1 T (C.xs (C.ss ?_))
 refine U.pd 1 T (C.nx ?_)
 refine C.jn (fun (x54:List Q0×Int×Bool)=>[(5,.p 0 0),(6,.p 1 0),(7,.p 2 0),(8,.o 8),(9,.i x54.2.1),(10,.b x54.2.2)]) (fun x54=>[(0,.box (Ks f)),(1,.box [.i 0,vN,vN,vN,vN,vN]),(2,.box [.i x5.Tick,.o 3,.o 4,.o 5,.o 6,.o 7]),(3,.val (.os 1 eI x5.Shelves)),(4,.val (.os 6 Q4 x5.Robots)),(5,.val (.os 1 eI x5.People)),(6,.val (.os 1 eI x5.Dead)),(7,.val (.os 2 Q3 x5.Stuck)),(8,.val (.os 2 Q3 x54.1))]) 9 g (fun x54 g=>?_) fun J55 g j55=>?_
 refine C.xs (C.ss (U.pd 2 T (C.nx ?_)))
 refine C.jn (fun (x89:List Q0)=>[(6,.p 0 0),(7,.p 1 0),(8,.o 7)]) (fun x89=>[(0,.box [.i 0,vN,vN,vN,vN,vN]),(1,.box [.i x5.Tick,.o 2,.o 3,.o 4,.o 5,.o 6]),(2,.val (.os 1 eI x5.Shelves)),(3,.val (.os 6 Q4 x5.Robots)),(4,.val (.os 1 eI x5.People)),(5,.val (.os 1 eI x5.Dead)),(6,.val (.os 2 Q3 x5.Stuck)),(7,.val (.os 2 Q3 x89))]) 8 g (fun x89 g=>?_) fun J90 g j90=>?_
 refine C.nx (U.start (U.ps 2 T rfl (U.st T ?_)))
 refine U.done ?_
 exact St.wa [some 0,some 1,some 2,some 3,some 4,some 5,some 7] (j44 _ g)
 refine C.ite rfl g (fun b91 g=>?_) fun b91 g=>?_
 refine U.start (U.ps 5 T rfl (U.bs T Q3 ([({Cell:=f.A,Left:=x54.2.1:Q0})]:List Q0) ?_))
 obtain⟨y94,g⟩:=g
 refine U.ap T y94 ?_
 refine U.pd 1 T ?_
 exact St.wa [some 1,some 2,some 3,some 4,some 5,some 6,some 7,some 10] (j90 _ g)
 refine C.skip ?_
 exact St.wa (sqR 1 8) (j90 _ g)
 refine C.block ?_
 refine St.wk (C.loop (fun (s56:List Q0×Int×Bool×Int)=>[(5,.p 0 0),(6,.p 1 0),(7,.p 2 0),(8,.o 8),(9,.i s56.2.1),(10,.b s56.2.2.1),(11,.i s56.2.2.2)]) (fun s56=>[(0,.box (Ks f)),(1,.box [.i 0,vN,vN,vN,vN,vN]),(2,.box [.i x5.Tick,.o 3,.o 4,.o 5,.o 6,.o 7]),(3,.val (.os 1 eI x5.Shelves)),(4,.val (.os 6 Q4 x5.Robots)),(5,.val (.os 1 eI x5.People)),(6,.val (.os 1 eI x5.Dead)),(7,.val (.os 2 Q3 x5.Stuck)),(8,.val (.os 2 Q3 s56.1))]) g (fun s56 Y57 g=>?_)) (Wk.mk' [some 2,some 3,some 9,some 4,some 5,some 6,some 7,some 8,none] rfl rfl ⟨⟨_,rfl,(.eq rfl)⟩,⟨_,rfl,(.eq rfl)⟩,⟨_,rfl,(.eq rfl)⟩,⟨_,rfl,(.nilO _ _ ⟨rfl,rfl⟩ rfl)⟩,ChkG.eqs rfl⟩ ⟨bX,bX,bX,vL,vL,vL,vL,vL,⟨_,rfl,.nil _ _⟩,trivial⟩ rfl)
 refine C.seq (C.ss (U.pd 5 T (C.nx ?_)))
 refine C.ite rfl g (fun b60 g=>?_) fun b60 g=>?_
 refine C.skip (C.xs ?_)
 refine C.jn (fun (x61:List Q0×Int×Bool)=>[(5,.p 0 0),(6,.p 1 0),(7,.p 2 0),(8,.o 8),(9,.i x61.2.1),(10,.b x61.2.2),(11,.i s56.2.2.2)]) (fun x61=>[(0,.box (Ks f)),(1,.box [.i 0,vN,vN,vN,vN,vN]),(2,.box [.i x5.Tick,.o 3,.o 4,.o 5,.o 6,.o 7]),(3,.val (.os 1 eI x5.Shelves)),(4,.val (.os 6 Q4 x5.Robots)),(5,.val (.os 1 eI x5.People)),(6,.val (.os 1 eI x5.Dead)),(7,.val (.os 2 Q3 x5.Stuck)),(8,.val (.os 2 Q3 x61.1))]) 9 g (fun x61 g=>?_) fun J62 g j62=>?_
 refine C.nx (U.start (U.pd 3 T (C.nx ?_)))
 exact St.wk (C.next g) (Wk.a (idR 9))
 refine C.block (C.ss (U.ps 3 T rfl ?_))
 obtain⟨x65,y65,g⟩:=g
 refine U.r rfl (.none rfl) rfl rfl (by exact Rd.io T rfl rfl rfl rfl rfl rfl rfl y65) ?_
 refine U.r rfl (.none rfl) rfl rfl (by exact Rd.le T rfl rfl rfl (Qj y65).2.2 rfl rfl rfl) ?_
 refine U.al T ?_
 refine U.st T ?_
 refine U.done (C.xs (C.ss (U.pd 5 T (C.nx ?_))))
 refine C.ite rfl g (fun b68 g=>?_) fun b68 g=>?_
 refine C.ss (U.pd 5 T (C.nx (C.exit (C.ex (C.bex ?_)))))
 exact St.wa (idR 9) (j62 _ g)
 refine C.skip (C.xs (C.seq ?_))
 refine C.jn (fun (x71:Bool)=>[(5,.p 0 0),(6,.p 1 0),(7,.p 2 0),(8,.o 8),(9,.i s56.2.1),(10,.b s56.2.2.1),(11,.i s56.2.2.2),(12,.p 9 0),(84,.b x71)]) (fun x71=>[(0,.box (Ks f)),(1,.box [.i 0,vN,vN,vN,vN,vN]),(2,.box [.i x5.Tick,.o 3,.o 4,.o 5,.o 6,.o 7]),(3,.val (.os 1 eI x5.Shelves)),(4,.val (.os 6 Q4 x5.Robots)),(5,.val (.os 1 eI x5.People)),(6,.val (.os 1 eI x5.Dead)),(7,.val (.os 2 Q3 x5.Stuck)),(8,.val (.os 2 Q3 s56.1)),(9,.box [.i x65.Cell,.i x65.Left])]) 10 g (fun x71 g=>?_) fun J72 g j72=>?_
 refine C.nx ?_
 refine C.jn (fun (x74:List Q0×Bool)=>[(5,.p 0 0),(6,.p 1 0),(7,.p 2 0),(8,.o 8),(9,.i s56.2.1),(10,.b x74.2),(11,.i s56.2.2.2),(12,.p 9 0)]) (fun x74=>[(0,.box (Ks f)),(1,.box [.i 0,vN,vN,vN,vN,vN]),(2,.box [.i x5.Tick,.o 3,.o 4,.o 5,.o 6,.o 7]),(3,.val (.os 1 eI x5.Shelves)),(4,.val (.os 6 Q4 x5.Robots)),(5,.val (.os 1 eI x5.People)),(6,.val (.os 1 eI x5.Dead)),(7,.val (.os 2 Q3 x5.Stuck)),(8,.val (.os 2 Q3 x74.1)),(9,.box [.i x65.Cell,.i x65.Left])]) 10 g (fun x74 g=>?_) fun J75 g j75=>?_
 refine C.nx (U.start (U.ps 2 T rfl (U.bs T Q3 ([x65]:List Q0) ?_)))
 obtain⟨y84,g⟩:=g
 refine U.ap T y84 ?_
 refine U.pd 1 T (C.bnx ?_)
 exact St.wa [some 0,some 1,some 2,some 3,some 4,some 5,some 6,some 7,some 11] (j62 _ g)
 refine C.ite rfl g (fun b76 g=>?_) fun b76 g=>?_
 refine C.ss (U.ps 5 T rfl (U.bs T Q3 ([({Cell:=f.A,Left:=s56.2.1:Q0})]:List Q0) ?_))
 obtain⟨y79,g⟩:=g
 refine U.ap T y79 ?_
 refine U.pd 1 T (C.nx (U.start ?_))
 refine U.pd 1 T ?_
 exact St.wa [some 0,some 1,some 2,some 3,some 4,some 5,some 6,some 7,some 11,some 9] (j75 _ g)
 refine C.skip ?_
 exact St.wa (idR 10) (j75 _ g)
 refine U.start (U.ps 6 T rfl ?_)
 refine g.cs (fun b73 g=>?_) fun b73 g=>?_
 refine U.pq 2 5 true 81 b73 T ?_
 refine U.pk b73 ?_
 refine U.done ?_
 exact St.wa (idR 10) (j72 _ g)
 refine U.sk' 2 5 true 81 b73 ?_
 refine U.pk' b73 ?_
 refine U.done ?_
 exact St.wa (idR 10) (j72 _ g)
 refine C.exit (C.ex (C.ex (C.bex ?_)))
 exact St.wa (idR 9) (j55 _ g)
 refine C.ss (U.pd 2 T (C.nx ?_))
 refine C.jn (fun (x99:List Int)=>[(6,.p 0 0),(7,.p 1 0)]) (fun x99=>[(0,.box [.i 0,vN,vN,vN,vN,vN]),(1,.box [.i x5.Tick,.o 2,.o 3,.o 4,.o 5,.o 6]),(2,.val (.os 1 eI x5.Shelves)),(3,.val (.os 6 Q4 x5.Robots)),(4,.val (.os 1 eI x99)),(5,.val (.os 1 eI x5.Dead)),(6,.val (.os 2 Q3 x5.Stuck))]) 7 g (fun x99 g=>?_) fun J100 g j100=>?_
 exact St.wa (idR 7) (j44 _ g)
 refine C.ite rfl g (fun b101 g=>?_) fun b101 g=>?_
 refine C.ss (U.pd 6 T (C.nx ?_))
 refine C.jn (fun (x104:List Int)=>[(6,.p 0 0),(7,.p 1 0)]) (fun x104=>[(0,.box [.i 0,vN,vN,vN,vN,vN]),(1,.box [.i x5.Tick,.o 2,.o 3,.o 4,.o 5,.o 6]),(2,.val (.os 1 eI x5.Shelves)),(3,.val (.os 6 Q4 x5.Robots)),(4,.val (.os 1 eI x104)),(5,.val (.os 1 eI x5.Dead)),(6,.val (.os 2 Q3 x5.Stuck))]) 7 g (fun x104 g=>?_) fun J105 g j105=>?_
 exact St.wa (idR 7) (j100 _ g)
 refine C.ite rfl g (fun b106 g=>?_) fun b106 g=>?_
 refine U.start (U.ps 4 T rfl (U.bs T eI ([f.N]:List Int) ?_))
 obtain⟨y109,g⟩:=g
 refine U.ap T y109 ?_
 refine U.ps 1 T rfl (U.st T ?_)
 refine U.done ?_
 exact St.wa [some 3,some 9,some 4,some 5,some 11,some 7,some 8] (j105 _ g)
 refine U.start (U.ps 6 T rfl ?_)
 obtain⟨x112,y112,g⟩:=g
 refine U.r rfl (.none rfl) rfl rfl (by exact Rd.io T rfl rfl rfl rfl rfl rfl rfl y112) ?_
 refine U.e1 rfl (.none rfl) (by exact Eff1.se T (z':=f.N) rfl rfl rfl (Qj y112).2.2 rfl rfl rfl rfl rfl rfl rfl rfl (fun _=>rfl) rfl) ?_
 refine U.done ?_
 exact St.wa [some 3,some 9,some 4,some 5,some 6,some 7,some 8] (j105 _ g)
 refine C.skip ?_
 exact St.wa [some 3,some 9,some 4,some 5,some 6,some 7,some 8] (j100 _ g)
theorem Gm (a:List Int) (b:List Int) (post:Bool→Prop) (g:K6 a b post):
  Tr Tryz.prog 31 [.sl 1 eI a,.sl 1 eI b] [] 0 (pB post):=by
 refine Tr.go Tryz.func31 Tryz.ntmps31 fun _ _ _ _ o=>?_
 unfold K6 at g
 refine C.ss (U.pd 1 T (C.xs (C.ss ?_)))
 refine U.pd 5 T (C.nx ?_)
 refine C.ite rfl g (fun b5 g=>?_) fun b5 g=>?_
 refine C.ss (U.pd 1 T (C.nx (C.ret (C.rt ?_))))
 exact C.f1 T o (pBi g)
 refine C.skip (C.xs (C.ss (U.pd 1 T (C.nx ?_))))
 refine C.jn (fun (x10:Unit)=>[]) (fun x10=>[]) 0 g (fun x10 g=>?_) fun J11 g j11=>?_
 refine C.xt (U.pd 1 T (C.nx (C.ret ?_)))
 exact C.f1 T o (pBi g)
 refine C.block (St.wk (C.loop (fun (s12:Int)=>[(0,.sl 1 eI a),(1,.sl 1 eI b),(5,.i s12)]) (fun s12=>[]) g (fun s12 Y13 g=>?_)) (Wk.e))
 refine C.seq (C.ss (U.pd 4 T (C.nx ?_)))
 refine C.ite rfl g (fun b16 g=>?_) fun b16 g=>?_
 refine C.skip (C.xs (C.block (C.seq (D.bq mix 9999 [] [] (fun hQ hS ws M'=>?_)))))
 refine D.pq 2 (zl [0,1]) T ?_
 obtain⟨x19,y19,g⟩:=g
 refine D.ix 2 [] T y19 ?_
 refine D.pq 3 (zl [3,4,5]) T ?_
 obtain⟨x20,y20,g⟩:=g
 refine D.ix 6 [] T y20 ?_
 refine D.pq 2 (zl [7,8]) T ?_
 refine D.done (by kernel_rfl) ?_
 refine C.nx ?_
 refine C.ite rfl g (fun b21 g=>?_) fun b21 g=>?_
 refine C.ss (U.pd 1 T (C.nx (C.ret (C.brt (C.rt (C.rt (C.brt (C.rt ?_))))))))
 exact C.f1 T o (pBi g)
 refine C.skip (C.bnx (C.nx (U.start (U.pd 3 T (C.nx ?_)))))
 exact St.wk (C.next g) (Wk.e)
 refine C.exit (C.ex (C.ex (C.bex ?_)))
 exact St.wk (j11 _ g) (Wk.mk' [] rfl rfl trivial trivial rfl)
theorem YE (a:ApiState) (b:ApiState) (post:Bool→Prop) (g:KU a b post):
  Tr Tryz.prog 14 [.agg (Q1 a),.agg (Q1 b)] [] 0 (pB post):=by
 refine Tr.go Tryz.func14 Tryz.ntmps14 fun _ _ _ _ o=>?_
 unfold KU at g
 refine C.ss (U.bx ?_)
 refine U.bx ?_
 refine U.pd 1 T (C.xs (C.seq ?_))
 refine C.jn (fun (x3:Bool)=>[(2,.p 0 0),(3,.p 1 0),(29,.b x3)]) (fun x3=>[(0,.box (Q1 a)),(1,.box (Q1 b))]) 2 g (fun x3 g=>?_) fun J4 g j4=>?_
 refine C.nx ?_
 refine C.ite rfl g (fun b7 g=>?_) fun b7 g=>?_
 refine C.ss (U.pd 1 T (C.nx (C.ret (C.rt ?_))))
 exact C.f1 T o (pBi g)
 refine C.skip (C.xs (C.ss (U.pd 1 T (C.nx ?_))))
 refine C.jn (fun (x12:Unit)=>[(2,.p 0 0),(3,.p 1 0)]) (fun x12=>[(0,.box (Q1 a)),(1,.box (Q1 b))]) 2 g (fun x12 g=>?_) fun J13 g j13=>?_
 refine C.xs (C.ss (U.pd 1 T (C.nx ?_)))
 refine C.jn (fun (x30:Unit)=>[(2,.p 0 0),(3,.p 1 0)]) (fun x30=>[(0,.box (Q1 a)),(1,.box (Q1 b))]) 2 g (fun x30 g=>?_) fun J31 g j31=>?_
 refine C.xs ?_
 refine C.jn (fun (x46:Bool)=>[(4,.b x46)]) (fun x46=>[]) 0 g (fun x46 g=>?_) fun J47 g j47=>?_
 refine C.nx (C.ret ?_)
 exact C.f1 T o (pBi g)
 refine U.start (U.ps 4 T rfl (U.k (Gm a.Shelves b.Shelves _ g) en31 (fun x48 g=>?_)))
 refine U.ps 1 T rfl ?_
 refine g.cs (fun b49 g=>?_) fun b49 g=>?_
 refine U.pq 4 5 true 71 b49 T ?_
 refine U.k (Gm a.People b.People _ g) en31 (fun x50 g=>?_) (hw:=.take 5 true 71 _ b49 rfl rfl rfl)
 refine U.pk b49 ?_
 refine U.ps 1 T rfl ?_
 refine g.cs (fun b51 g=>?_) fun b51 g=>?_
 refine U.pq 4 12 true 78 b51 T ?_
 refine U.k (Gm a.Dead b.Dead _ g) en31 (fun x52 g=>?_) (hw:=.take 12 true 78 _ b51 rfl rfl rfl)
 refine U.pk b51 ?_
 refine U.pd 1 T ?_
 exact St.wn (j47 _ g)
 refine U.sk' 5 12 true 78 b51 ?_
 refine U.pk' b51 ?_
 refine U.pd 1 T ?_
 exact St.wn (j47 _ g)
 refine U.sk' 5 5 true 71 b49 ?_
 refine U.pk' b49 ?_
 refine U.ps 1 T rfl (U.sk' 5 12 true 78 rfl ?_)
 refine U.pk' rfl ?_
 refine U.pd 1 T ?_
 exact St.wn (j47 _ g)
 refine C.block (St.wk (C.loop (fun (s32:Int)=>[(2,.p 0 0),(3,.p 1 0),(6,.i s32)]) (fun s32=>[(0,.box (Q1 a)),(1,.box (Q1 b))]) g (fun s32 Y33 g=>?_)) (Wk.a (idR 2)))
 refine C.seq (C.ss (U.pd 5 T (C.nx ?_)))
 refine C.ite rfl g (fun b36 g=>?_) fun b36 g=>?_
 refine C.skip (C.xs (C.block (C.seq (D.bq mix 9999 [0,1] [] (fun hQ hS ws M'=>?_)))))
 refine D.pq 3 (zl [0,1,2]) T ?_
 obtain⟨x39,y39,g⟩:=g
 refine D.ix 3 [] T y39 ?_
 refine D.pq 4 (zl [4,5,6,7]) T ?_
 obtain⟨x40,y40,g⟩:=g
 refine D.ix 8 [] T y40 ?_
 refine D.pq 1 [(9,[])] T ?_
 refine D.q 10 [] hQ hS rfl (.none rfl) rfl rfl (by exact Rd.nes T rfl rfl QaD rfl rfl rfl) rfl (by kernel_rfl) ?_
 refine D.done (by kernel_rfl) ?_
 refine C.nx ?_
 refine C.ite rfl g (fun b41 g=>?_) fun b41 g=>?_
 refine C.ss (U.pd 1 T (C.nx (C.ret (C.brt (C.rt (C.rt (C.brt (C.rt ?_))))))))
 exact C.f1 T o (pBi g)
 refine C.skip (C.bnx (C.nx (U.start (U.pd 3 T (C.nx ?_)))))
 exact St.wk (C.next g) (Wk.a (idR 2))
 refine C.exit (C.ex (C.ex (C.bex ?_)))
 exact St.wa (idR 2) (j31 _ g)
 refine C.block (St.wk (C.loop (fun (s14:Int)=>[(2,.p 0 0),(3,.p 1 0),(5,.i s14)]) (fun s14=>[(0,.box (Q1 a)),(1,.box (Q1 b))]) g (fun s14 Y15 g=>?_)) (Wk.a (idR 2)))
 refine C.seq (C.ss (U.pd 5 T (C.nx ?_)))
 refine C.ite rfl g (fun b18 g=>?_) fun b18 g=>?_
 refine C.skip (C.xs (C.block (C.seq (D.bq mix 9999 [0,1] [] (fun hQ hS ws M'=>?_)))))
 refine D.pq 3 (zl [0,1,2]) T ?_
 obtain⟨x21,y21,g⟩:=g
 refine D.ix 3 [] T y21 ?_
 refine D.pq 4 (zl [4,5,6,7]) T ?_
 obtain⟨x22,y22,g⟩:=g
 refine D.ix 8 [] T y22 ?_
 refine D.pq 1 [(9,[])] T ?_
 refine D.q 10 [] hQ hS rfl (.none rfl) rfl rfl (by exact Rd.nes T rfl rfl Qbi rfl rfl rfl) rfl (by kernel_rfl) ?_
 refine D.done (by kernel_rfl) ?_
 refine C.nx ?_
 refine C.ite rfl g (fun b23 g=>?_) fun b23 g=>?_
 refine C.ss (U.pd 1 T (C.nx (C.ret (C.brt (C.rt (C.rt (C.brt (C.rt ?_))))))))
 exact C.f1 T o (pBi g)
 refine C.skip (C.bnx (C.nx (U.start (U.pd 3 T (C.nx ?_)))))
 exact St.wk (C.next g) (Wk.a (idR 2))
 refine C.exit (C.ex (C.ex (C.bex ?_)))
 exact St.wa (idR 2) (j13 _ g)
 refine U.start (U.ps 6 T rfl ?_)
 refine g.cs (fun b5 g=>?_) fun b5 g=>?_
 refine U.sk' 7 5 false 12 b5 ?_
 refine U.pk b5 ?_
 refine U.ps 1 T rfl (U.sk' 7 14 false 21 rfl ?_)
 refine U.pk rfl ?_
 refine U.done ?_
 exact St.wa (idR 2) (j4 _ g)
 refine U.pq 7 5 false 12 b5 T ?_
 refine U.pk' b5 ?_
 refine U.ps 1 T rfl ?_
 refine g.cs (fun b6 g=>?_) fun b6 g=>?_
 refine U.sk' 7 14 false 21 b6 ?_
 refine U.pk b6 ?_
 refine U.done ?_
 exact St.wa (idR 2) (j4 _ g)
 refine U.pq 7 14 false 21 b6 T ?_
 refine U.pk' b6 ?_
 refine U.done ?_
 exact St.wa (idR 2) (j4 _ g)
theorem Q0S (s_1:ApiSite) (st:ApiState) (acts:List Int) (f:Qk) (post:(ApiState×Int)→Prop) (g:Xu s_1 st acts f post):
  Tr Tryz.prog 18 [.agg (Q2 s_1),.agg (Q1 st),.sl 1 eI acts,.agg (Ks f)] [] 0 (fun A H' k=>∃y,post y∧A=(.tup [.agg [.i y.1.Tick,.o 0,.o 1,.o 2,.o 3,.o 4],.i y.2])∧H'=[(0,.val (.os 1 eI y.1.Shelves)),(1,.val (.os 6 Q4 y.1.Robots)),(2,.val (.os 1 eI y.1.People)),(3,.val (.os 1 eI y.1.Dead)),(4,.val (.os 2 Q3 y.1.Stuck))]∧k=5):=by
 refine Tr.go Tryz.func18 Tryz.ntmps18 fun _ _ _ _ o=>?_
 unfold Xu at g
 refine C.ss (U.bx ?_)
 refine U.bx ?_
 refine U.bx ?_
 refine U.al T ?_
 refine U.pd 1 T (C.xt ?_)
 refine U.ps 3 T rfl (U.k (Yh s_1 st acts _ g) en11 (fun x5 g=>?_))
 refine U.pd 1 T (C.xs (C.ss ?_))
 refine U.pd 2 T (C.nx ?_)
 refine C.jn (fun (x8:Int)=>[(2,.sl 1 eI acts),(4,.p 0 0),(5,.p 1 0),(7,.p 2 0),(8,.p 3 0),(10,.i x8)]) (fun x8=>[(0,.box (Q2 s_1)),(1,.box (Q1 st)),(2,.box (Ks f)),(3,.box [.i 0,vN,vN,vN,vN,vN])]) 4 g (fun x8 g=>?_) fun J9 g j9=>?_
 refine C.xs (C.ss (U.pd 2 T (C.nx ?_)))
 refine C.ite rfl g (fun b16 g=>?_) fun b16 g=>?_
 refine C.ss (U.ps 2 T rfl (U.st T ?_))
 refine U.pd 1 T (C.nx (C.ret (C.rt ?_)))
 exact C.fg [none,none,none,none,none] T o ⟨(({Tick:=0,Shelves:=[],Robots:=[],People:=[],Dead:=[],Stuck:=[]:ApiState}),x8),g,rfl,rfl,rfl⟩
 refine C.skip (C.xt (U.ps 3 T rfl (U.k (WP s_1 st f _ g) en16 (fun x21 g=>?_))))
 refine U.al T ?_
 refine U.st T ?_
 refine U.done (C.xs (C.ss (U.pd 1 T (C.nx ?_))))
 refine C.jn (fun (x24:Int×List Int×List ApiRobot×List Int×List Int×List Q0)=>[(5,.p 0 0),(8,.p 1 0),(11,.p 2 0)]) (fun x24=>[(0,.box (Q1 st)),(1,.box [.i 0,vN,vN,vN,vN,vN]),(2,.box [.i x24.1,.o 3,.o 4,.o 5,.o 6,.o 7]),(3,.val (.os 1 eI x24.2.1)),(4,.val (.os 6 Q4 x24.2.2.1)),(5,.val (.os 1 eI x24.2.2.2.1)),(6,.val (.os 1 eI x24.2.2.2.2.1)),(7,.val (.os 2 Q3 x24.2.2.2.2.2))]) 8 g (fun x24 g=>?_) fun J25 g j25=>?_
 refine C.xt (U.ps 1 T rfl (U.k (W5 ({Tick:=x24.1,Shelves:=x24.2.1,Robots:=x24.2.2.1,People:=x24.2.2.2.1,Dead:=x24.2.2.2.2.1,Stuck:=x24.2.2.2.2.2:ApiState}) _ g) en54 (fun x49 g=>?_)))
 refine U.st T ?_
 refine U.done (C.xt (U.ps 4 T rfl (U.st T ?_)))
 refine U.done (C.xs (C.ss (U.pd 1 T (C.nx ?_))))
 refine C.jn (fun (x54:List ApiRobot)=>[(8,.p 0 0),(11,.p 1 0)]) (fun x54=>[(0,.box [.i 0,vN,vN,vN,vN,vN]),(1,.box [.i (w64 (x49.Tick+1)),.o 2,.o 3,.o 4,.o 5,.o 6]),(2,.val (.os 1 eI x49.Shelves)),(3,.val (.os 6 Q4 x54)),(4,.val (.os 1 eI x49.People)),(5,.val (.os 1 eI x49.Dead)),(6,.val (.os 2 Q3 x49.Stuck))]) 7 g (fun x54 g=>?_) fun J55 g j55=>?_
 refine C.xt (U.pd 1 T (C.xs (C.ss ?_)))
 refine U.pd 1 T (C.nx ?_)
 refine C.jn (fun (x88:List Q0)=>[(8,.p 0 0),(11,.p 1 0),(16,.o 7)]) (fun x88=>[(0,.box [.i 0,vN,vN,vN,vN,vN]),(1,.box [.i (w64 (x49.Tick+1)),.o 2,.o 3,.o 4,.o 5,.o 6]),(2,.val (.os 1 eI x49.Shelves)),(3,.val (.os 6 Q4 x54)),(4,.val (.os 1 eI x49.People)),(5,.val (.os 1 eI x49.Dead)),(6,.val (.os 2 Q3 x49.Stuck)),(7,.val (.os 2 Q3 x88))]) 8 g (fun x88 g=>?_) fun J89 g j89=>?_
 refine C.xt (U.ps 2 T rfl (U.st T ?_))
 refine U.done (C.xt (U.ps 1 T rfl (U.st T ?_)))
 refine U.pd 1 T (C.nx (C.ret ?_))
 exact C.fg [some 2,some 3,some 4,some 5,some 7] T o ⟨(({Tick:=w64 (x49.Tick+1),Shelves:=x49.Shelves,Robots:=x54,People:=x49.People,Dead:=x49.Dead,Stuck:=x88:ApiState}),0),g,rfl,rfl,rfl⟩
 refine C.block ?_
 refine St.wk (C.loop (fun (s90:List Q0×Int)=>[(8,.p 0 0),(11,.p 1 0),(16,.o 7),(17,.i s90.2)]) (fun s90=>[(0,.box [.i 0,vN,vN,vN,vN,vN]),(1,.box [.i (w64 (x49.Tick+1)),.o 2,.o 3,.o 4,.o 5,.o 6]),(2,.val (.os 1 eI x49.Shelves)),(3,.val (.os 6 Q4 x54)),(4,.val (.os 1 eI x49.People)),(5,.val (.os 1 eI x49.Dead)),(6,.val (.os 2 Q3 x49.Stuck)),(7,.val (.os 2 Q3 s90.1))]) g (fun s90 Y91 g=>?_)) (Wk.mk' [some 0,some 1,some 2,some 3,some 4,some 5,some 6,none] rfl rfl ⟨⟨_,rfl,(.eq rfl)⟩,⟨_,rfl,(.eq rfl)⟩,⟨_,rfl,(.nilO _ _ ⟨rfl,rfl⟩ rfl)⟩,ChkG.eqs rfl⟩ ⟨bX,bX,vL,vL,vL,vL,vL,⟨_,rfl,.nil _ _⟩,trivial⟩ rfl)
 refine C.seq (C.ss (U.pd 5 T (C.nx ?_)))
 refine C.ite rfl g (fun b94 g=>?_) fun b94 g=>?_
 refine C.skip (C.xs (C.block (C.ss (U.ps 3 T rfl ?_))))
 obtain⟨x97,y97,g⟩:=g
 refine U.r rfl (.none rfl) rfl rfl (by exact Rd.io T rfl rfl rfl rfl rfl rfl rfl y97) ?_
 refine U.r rfl (.none rfl) rfl rfl (by exact Rd.le T rfl rfl rfl (Qj y97).2.2 rfl rfl rfl) ?_
 refine U.al T ?_
 refine U.st T ?_
 refine U.done (C.xt (U.ps 4 T rfl (U.st T ?_)))
 refine U.done (C.xt (U.pd 3 T (C.nx ?_)))
 refine C.jn (fun (x102:List Q0)=>[(8,.p 0 0),(11,.p 1 0),(16,.o 7),(17,.i s90.2)]) (fun x102=>[(0,.box [.i 0,vN,vN,vN,vN,vN]),(1,.box [.i (w64 (x49.Tick+1)),.o 2,.o 3,.o 4,.o 5,.o 6]),(2,.val (.os 1 eI x49.Shelves)),(3,.val (.os 6 Q4 x54)),(4,.val (.os 1 eI x49.People)),(5,.val (.os 1 eI x49.Dead)),(6,.val (.os 2 Q3 x49.Stuck)),(7,.val (.os 2 Q3 x102))]) 8 g (fun x102 g=>?_) fun J103 g j103=>?_
 refine C.bnx (C.nx (U.start (U.pd 3 T (C.nx ?_))))
 exact St.wk (C.next g) (Wk.a (idR 8))
 refine C.ite rfl g (fun b104 g=>?_) fun b104 g=>?_
 refine U.start (U.ps 2 T rfl (U.bs T Q3 ([({Cell:=x97.Cell,Left:=w64 (x97.Left-1):Q0})]:List Q0) ?_))
 obtain⟨y107,g⟩:=g
 refine U.ap T y107 ?_
 refine U.pd 1 T ?_
 exact St.wa [some 0,some 1,some 2,some 3,some 4,some 5,some 6,some 10] (j103 _ g)
 refine C.skip ?_
 exact St.wa (idR 8) (j103 _ g)
 refine C.exit (C.ex (C.ex (C.bex ?_)))
 exact St.wa (idR 8) (j89 _ g)
 refine C.block ?_
 refine St.wk (C.loop (fun (s56:List ApiRobot×Int)=>[(5,.p 0 0),(8,.p 1 0),(11,.p 2 0),(14,.i s56.2)]) (fun s56=>[(0,.box (Q1 st)),(1,.box [.i 0,vN,vN,vN,vN,vN]),(2,.box [.i (w64 (x49.Tick+1)),.o 3,.o 4,.o 5,.o 6,.o 7]),(3,.val (.os 1 eI x49.Shelves)),(4,.val (.os 6 Q4 s56.1)),(5,.val (.os 1 eI x49.People)),(6,.val (.os 1 eI x49.Dead)),(7,.val (.os 2 Q3 x49.Stuck))]) g (fun s56 Y57 g=>?_)) (Wk.a [some 0,some 1,some 2,some 8,some 9,some 10,some 11,some 12])
 refine C.seq (C.ss (U.pd 5 T (C.nx ?_)))
 refine C.ite rfl g (fun b60 g=>?_) fun b60 g=>?_
 refine C.skip (C.xs (C.block (C.ss (U.ps 3 T rfl ?_))))
 obtain⟨x63,y63,g⟩:=g
 refine U.r rfl (.none rfl) rfl rfl (by exact Rd.io T rfl rfl rfl rfl rfl rfl rfl y63) ?_
 refine U.r rfl (.none rfl) rfl rfl (by exact Rd.le T rfl rfl rfl (Qj y63).2.2 rfl rfl rfl) ?_
 refine U.al T ?_
 refine U.st T ?_
 refine U.done (C.xs (C.seq ?_))
 refine C.jn (fun (x64:Bool)=>[(5,.p 0 0),(8,.p 1 0),(11,.p 2 0),(14,.i s56.2),(15,.p 8 0),(89,.b x64)]) (fun x64=>[(0,.box (Q1 st)),(1,.box [.i 0,vN,vN,vN,vN,vN]),(2,.box [.i (w64 (x49.Tick+1)),.o 3,.o 4,.o 5,.o 6,.o 7]),(3,.val (.os 1 eI x49.Shelves)),(4,.val (.os 6 Q4 s56.1)),(5,.val (.os 1 eI x49.People)),(6,.val (.os 1 eI x49.Dead)),(7,.val (.os 2 Q3 x49.Stuck)),(8,.box (Q4 x63))]) 9 g (fun x64 g=>?_) fun J65 g j65=>?_
 refine C.nx ?_
 refine C.jn (fun (x68:Int)=>[(5,.p 0 0),(8,.p 1 0),(11,.p 2 0),(14,.i s56.2),(15,.p 8 0)]) (fun x68=>[(0,.box (Q1 st)),(1,.box [.i 0,vN,vN,vN,vN,vN]),(2,.box [.i (w64 (x49.Tick+1)),.o 3,.o 4,.o 5,.o 6,.o 7]),(3,.val (.os 1 eI x49.Shelves)),(4,.val (.os 6 Q4 s56.1)),(5,.val (.os 1 eI x49.People)),(6,.val (.os 1 eI x49.Dead)),(7,.val (.os 2 Q3 x49.Stuck)),(8,.box [.i x63.Cell,.i x63.Load,.i x63.Charge,.i x68,.i x63.Mute,.b x63.Dead])]) 9 g (fun x68 g=>?_) fun J69 g j69=>?_
 refine C.xs (C.ss (U.pd 3 T (C.nx ?_)))
 refine C.jn (fun (x75:Int)=>[(5,.p 0 0),(8,.p 1 0),(11,.p 2 0),(14,.i s56.2),(15,.p 8 0)]) (fun x75=>[(0,.box (Q1 st)),(1,.box [.i 0,vN,vN,vN,vN,vN]),(2,.box [.i (w64 (x49.Tick+1)),.o 3,.o 4,.o 5,.o 6,.o 7]),(3,.val (.os 1 eI x49.Shelves)),(4,.val (.os 6 Q4 s56.1)),(5,.val (.os 1 eI x49.People)),(6,.val (.os 1 eI x49.Dead)),(7,.val (.os 2 Q3 x49.Stuck)),(8,.box [.i x63.Cell,.i x63.Load,.i x63.Charge,.i x68,.i x75,.b x63.Dead])]) 9 g (fun x75 g=>?_) fun J76 g j76=>?_
 refine C.nx (U.start (U.ps 4 T rfl (U.r rfl (.none rfl) rfl rfl (by exact Rd.io T rfl rfl rfl rfl rfl rfl rfl y63) ?_)))
 refine U.e1 rfl (.none rfl) (by exact Eff1.se T (z':=({Cell:=x63.Cell,Load:=x63.Load,Charge:=x63.Charge,Rest:=x68,Mute:=x75,Dead:=x63.Dead:ApiRobot})) rfl rfl rfl (Qj y63).2.2 rfl rfl rfl rfl rfl rfl rfl rfl (fun _=>rfl) rfl) ?_
 refine U.done (C.bnx (C.nx (U.start (U.pd 3 T (C.nx ?_)))))
 exact St.wk (C.next g) (Wk.a (idR 8))
 refine C.ite rfl g (fun b77 g=>?_) fun b77 g=>?_
 refine U.start (U.ps 4 T rfl (U.st T ?_))
 refine U.done ?_
 exact St.wa (idR 9) (j76 _ g)
 refine C.skip ?_
 exact St.wa (idR 9) (j76 _ g)
 refine C.ite rfl g (fun b70 g=>?_) fun b70 g=>?_
 refine U.start (U.ps 4 T rfl (U.st T ?_))
 refine U.done ?_
 exact St.wa (idR 9) (j69 _ g)
 refine C.skip ?_
 exact St.wa (idR 9) (j69 _ g)
 refine D.bq mix 9999 [0,8] [] (fun hQ hS ws M'=>?_)
 refine D.pq 5 (zl [0,1,2,3,4]) T ?_
 obtain⟨x66,y66,g⟩:=g
 refine D.ix 5 [] T y66 ?_
 refine D.pq 4 (zl [6,7,8,9]) T ?_
 refine g.cs (fun b67 g=>?_) fun b67 g=>?_
 refine D.pt 10 [] 9 true 85 b67 T ?_
 refine D.q 11 [] hQ hS rfl (.tk 9 true 85 b67) rfl rfl (by exact Rd.l T rfl rfl rfl) rfl (by kernel_rfl) ?_
 refine D.pt 12 [] 9 true 85 b67 T ?_
 refine D.kt 13 [] b67 ?_
 refine D.done (by kernel_rfl) ?_
 exact St.wa (idR 9) (j65 _ g)
 refine D.sz 10 [] 9 true 85 b67 ?_
 refine D.sz 11 [] 9 true 85 b67 ?_
 refine D.sz 12 [] 9 true 85 b67 ?_
 refine D.kf 13 [] b67 ?_
 refine D.done (by kernel_rfl) ?_
 exact St.wa (idR 9) (j65 _ g)
 refine C.exit (C.ex (C.ex (C.bex ?_)))
 exact St.wa (sqR 1 7) (j55 _ g)
 refine C.block ?_
 refine St.wk (C.loop (fun (s26:Int×List Int×List ApiRobot×List Int×List Int×List Q0×Int)=>[(2,.sl 1 eI acts),(4,.p 0 0),(5,.p 1 0),(8,.p 2 0),(11,.p 3 0),(12,.i s26.2.2.2.2.2.2)]) (fun s26=>[(0,.box (Q2 s_1)),(1,.box (Q1 st)),(2,.box [.i 0,vN,vN,vN,vN,vN]),(3,.box [.i s26.1,.o 4,.o 5,.o 6,.o 7,.o 8]),(4,.val (.os 1 eI s26.2.1)),(5,.val (.os 6 Q4 s26.2.2.1)),(6,.val (.os 1 eI s26.2.2.2.1)),(7,.val (.os 1 eI s26.2.2.2.2.1)),(8,.val (.os 2 Q3 s26.2.2.2.2.2.1))]) g (fun s26 Y27 g=>?_)) (Wk.a [some 0,some 1,some 3,some 9,some 4,some 5,some 6,some 7,some 8])
 refine C.seq (C.ss (U.pd 4 T (C.nx ?_)))
 refine C.ite rfl g (fun b30 g=>?_) fun b30 g=>?_
 refine C.skip (C.xs (C.block (C.ss (U.ps 2 T rfl ?_))))
 obtain⟨x33,y33,g⟩:=g
 refine U.ix T y33 ?_
 refine U.pd 2 T (C.xs (C.ss ?_))
 refine U.ps 4 T rfl (U.k (W6 s_1 ({Tick:=s26.1,Shelves:=s26.2.1,Robots:=s26.2.2.1,People:=s26.2.2.2.1,Dead:=s26.2.2.2.2.1,Stuck:=s26.2.2.2.2.2.1:ApiState}) s26.2.2.2.2.2.2 x33 _ g) en38 (fun x36 g=>?_))
 refine U.pd 1 T (C.nx ?_)
 refine C.jn (fun (x37:Int)=>[(2,.sl 1 eI acts),(4,.p 0 0),(5,.p 1 0),(8,.p 2 0),(11,.p 3 0),(12,.i s26.2.2.2.2.2.2),(13,.i x37)]) (fun x37=>[(0,.box (Q2 s_1)),(1,.box (Q1 st)),(2,.box [.i 0,vN,vN,vN,vN,vN]),(3,.box [.i s26.1,.o 4,.o 5,.o 6,.o 7,.o 8]),(4,.val (.os 1 eI s26.2.1)),(5,.val (.os 6 Q4 s26.2.2.1)),(6,.val (.os 1 eI s26.2.2.2.1)),(7,.val (.os 1 eI s26.2.2.2.2.1)),(8,.val (.os 2 Q3 s26.2.2.2.2.2.1))]) 9 g (fun x37 g=>?_) fun J38 g j38=>?_
 refine C.nx (U.start (U.ps 4 T rfl (U.k (Zg s_1 ({Tick:=s26.1,Shelves:=s26.2.1,Robots:=s26.2.2.1,People:=s26.2.2.2.1,Dead:=s26.2.2.2.2.1,Stuck:=s26.2.2.2.2.2.1:ApiState}) s26.2.2.2.2.2.2 x37 _ g) en41 (fun x44 g=>?_))))
 refine U.st T ?_
 refine U.done (C.bnx (C.nx (U.start (U.pd 3 T (C.nx ?_)))))
 exact St.wk (C.next g) (Wk.a [some 0,some 1,some 2,some 3,some 9,some 10,some 11,some 12,some 13])
 refine C.ite rfl g (fun b39 g=>?_) fun b39 g=>?_
 refine U.start (U.pd 1 T ?_)
 exact St.wa (idR 9) (j38 _ g)
 refine C.skip ?_
 exact St.wa (idR 9) (j38 _ g)
 refine C.exit (C.ex (C.ex (C.bex ?_)))
 exact St.wa (sqR 1 8) (j25 _ g)
 refine C.ite rfl g (fun b10 g=>?_) fun b10 g=>?_
 refine U.start (U.ps 3 T rfl (U.k (Gn s_1 st f _ g) en13 (fun x13 g=>?_)))
 refine U.pd 1 T ?_
 exact St.wa (idR 4) (j9 _ g)
 refine C.skip ?_
 exact St.wa (idR 4) (j9 _ g)
theorem Q1P (x_1:Int) (y_1:Int) (post:(Int×Int)→Prop) (g:GN x_1 y_1 post):
  Tr Tryz.prog 197 [.v (.int .u64 x_1),.v (.int .u64 y_1)] [] 0 (fun A H' k=>∃y,post y∧A=(.tup [.v (.int .u64 y.1),.v (.int .u64 y.2)])∧H'=[]∧k=0):=by
 refine Tr.go Tryz.func197 Tryz.ntmps197 fun _ _ _ _ o=>?_
 unfold GN at g
 refine C.ss (U.pd 2 T (C.xt ?_))
 refine U.pd 3 T (C.xt ?_)
 refine U.ps 1 T rfl (U.r rfl (.none rfl) rfl rfl (by exact Rd.sh rfl rfl rfl rfl (by decide)) ?_)
 refine U.pd 1 T (C.xt ?_)
 refine U.pd 3 T (C.xt ?_)
 refine U.ps 1 T rfl (U.r rfl (.none rfl) rfl rfl (by exact Rd.sh rfl rfl rfl rfl (by decide)) ?_)
 refine U.pd 1 T (C.xt ?_)
 refine U.pd 4 T (C.xt ?_)
 refine U.ps 4 T rfl (U.r rfl (.none rfl) rfl rfl (by exact Rd.sh rfl rfl rfl rfl (by decide)) ?_)
 refine U.pd 2 T (C.xt ?_)
 refine U.pd 3 T (C.xt ?_)
 refine U.ps 1 T rfl (U.r rfl (.none rfl) rfl rfl (by exact Rd.sh rfl rfl rfl rfl (by decide)) ?_)
 refine U.pd 1 T (C.xt ?_)
 refine U.pd 6 T (C.xt ?_)
 refine U.ps 6 T rfl (U.r rfl (.none rfl) rfl rfl (by exact Rd.sh rfl rfl rfl rfl (by decide)) ?_)
 refine U.pd 2 T (C.xt ?_)
 refine U.pd 4 T (C.nx (C.ret ?_))
 exact C.f9 T o ⟨(IntKind.wrap .u64 ((IntKind.wrap .u64 ((IntKind.wrap .u64 ((shrI .u64 x_1 32)*(shrI .u64 y_1 32)))+(shrI .u64 (IntKind.wrap .u64 ((IntKind.wrap .u64 ((shrI .u64 x_1 32)*(band .u64 y_1 4294967295)))+(shrI .u64 (IntKind.wrap .u64 ((band .u64 x_1 4294967295)*(band .u64 y_1 4294967295))) 32))) 32)))+(shrI .u64 (IntKind.wrap .u64 ((band .u64 (IntKind.wrap .u64 ((IntKind.wrap .u64 ((shrI .u64 x_1 32)*(band .u64 y_1 4294967295)))+(shrI .u64 (IntKind.wrap .u64 ((band .u64 x_1 4294967295)*(band .u64 y_1 4294967295))) 32))) 4294967295)+(IntKind.wrap .u64 ((band .u64 x_1 4294967295)*(shrI .u64 y_1 32))))) 32)),IntKind.wrap .u64 (x_1*y_1)),g,rfl,rfl,rfl⟩
theorem Q2E (x_1:Int) (y_1:Int) (post:(Int×Int)→Prop) (g:Gz x_1 y_1 post):
  Tr Tryz.prog 135 [.v (.int .u64 x_1),.v (.int .u64 y_1)] [] 0 (fun A H' k=>∃y,post y∧A=(.tup [.v (.int .u64 y.1),.v (.int .u64 y.2)])∧H'=[]∧k=0):=by
 refine Tr.go Tryz.func135 Tryz.ntmps135 fun _ _ _ _ o=>?_
 unfold Gz at g
 refine C.ss (U.pd 2 T (C.xs ?_))
 refine C.condF rfl rfl ?_
 refine C.skip (C.xt (U.ps 2 T rfl (U.k (Q1P x_1 y_1 _ g) QbR (fun x5 g=>?_))))
 refine U.pd 5 T (C.xt ?_)
 refine U.pd 4 T (C.nx (C.ret ?_))
 exact C.f9 T o ⟨(x5.1,x5.2),g,rfl,rfl,rfl⟩
theorem Z4 (x_1:List Int) (count:Int) (post:(List Int)→Prop) (g:Kh x_1 count post):
  Tr Tryz.prog 57 [.sl 1 eI x_1,.i count] [] 0 (fun A H' k=>∃y,post y∧A=(.o 0)∧H'=[(0,.val (.os 1 eI y))]∧k=1):=by
 refine Tr.go Tryz.func57 Tryz.ntmps57 fun _ _ _ _ o=>?_
 unfold Kh at g
 refine C.ss (U.pd 1 T (C.xs (C.ss ?_)))
 refine U.pd 2 T (C.nx ?_)
 refine C.ite rfl g (fun b7 g=>?_) fun b7 g=>?_
 refine U.start ?_
 exact g.elim
 refine C.skip (C.xt (U.ps 5 T rfl (U.k (Q2E (IntKind.wrap .u64 (x_1.length:Int)) (IntKind.wrap .u64 count) _ g) Qbz (fun x12 g=>?_))))
 refine U.pd 5 T (C.xs (C.seq ?_))
 refine C.jn (fun (x13:Bool)=>[(0,.sl 1 eI x_1),(6,.v (.int .u64 x12.2)),(26,.b x13)]) (fun x13=>[]) 0 g (fun x13 g=>?_) fun J14 g j14=>?_
 refine C.nx ?_
 refine C.ite rfl g (fun b18 g=>?_) fun b18 g=>?_
 refine U.start ?_
 exact g.elim
 refine C.skip (C.xt (U.ps 2 T rfl ?_))
 obtain⟨y23,g⟩:=g
 refine U.e1 rfl (.none rfl) (by exact Eff1.mk T (enc:=eI) (z0:=0) rfl rfl rfl rfl rfl rfl rfl rfl rfl rfl y23) ?_
 refine U.pd 1 T (C.xt ?_)
 refine U.ps 2 T rfl (U.e1 rfl (.none rfl) (by exact Eff1.cp T rfl rfl rfl rfl (.inr ⟨rfl,rfl,rfl⟩) rfl rfl (.inl rfl) rfl rfl rfl (fun _=>rfl) (Nat.le_of_eq (Nat.zero_add _)) rfl) ?_)
 refine U.pd 1 T (C.xs ?_)
 refine C.jn (fun (x26:List Int)=>[(7,.o 0)]) (fun x26=>[(0,.val (.os 1 eI x26))]) 1 g (fun x26 g=>?_) fun J27 g j27=>?_
 refine C.xt (U.pd 2 T (C.nx (C.ret ?_)))
 exact C.g1 [some 0] T o ⟨x26,g,rfl,rfl,rfl⟩
 refine C.block (St.wk (C.loop (fun (s28:List Int×Int)=>[(7,.o 0),(8,.i s28.2)]) (fun s28=>[(0,.val (.os 1 eI s28.1))]) g (fun s28 Y29 g=>?_)) (Wk.a [some 0]))
 refine C.seq (C.ss (U.pd 4 T (C.nx ?_)))
 refine C.ite rfl g (fun b32 g=>?_) fun b32 g=>?_
 refine C.skip (C.nx (C.block (D.bq mix 9999 [] [0] (fun hQ hS ws M'=>?_))))
 refine D.pq 3 (zl [0,1,2]) T ?_
 obtain⟨y35,g⟩:=g
 refine D.q 3 [] hQ hS rfl (.none rfl) rfl rfl (by exact Rd.vw T rfl rfl rfl rfl rfl rfl (.some _ rfl) (.none _) y35) rfl (by kernel_rfl) ?_
 refine D.pq 2 (zl [4,5]) T ?_
 obtain⟨y36,g⟩:=g
 refine D.q 6 [] hQ hS rfl (.none rfl) rfl rfl (by exact Rd.vw T rfl rfl rfl rfl rfl rfl (.none _) (.some _ rfl) y36) rfl (by kernel_rfl) ?_
 obtain⟨y37,g⟩:=g
 obtain⟨y38,g⟩:=g
 refine D.e1 7 rfl (.none rfl) (by exact Eff1.cp T rfl rfl rfl rfl (.inl rfl) rfl rfl (.inr (.inr ⟨_,_,_,_,rfl,rfl,y38,rfl⟩)) rfl rfl rfl (fun _=>rfl) y37 rfl) (by kernel_rfl) rfl rfl ?_
 refine D.pq 2 (zl [8,9]) T ?_
 refine D.done (by kernel_rfl) ?_
 refine C.bnx (C.nx ?_)
 exact St.wk (C.next g) (Wk.a [some 0])
 refine C.exit (C.ex (C.ex (C.bex ?_)))
 exact St.wa [some 0] (j27 _ g)
 refine U.start (U.ps 3 T rfl ?_)
 refine g.cs (fun b15 g=>?_) fun b15 g=>?_
 refine U.sk' 2 2 false 23 b15 ?_
 refine U.pk b15 ?_
 refine U.done ?_
 exact St.wn (j14 _ g)
 refine U.pq 2 2 false 23 b15 T ?_
 refine U.pk' b15 ?_
 refine U.done ?_
 exact St.wn (j14 _ g)
theorem Q4u (st:ApiState) (post:(List Int)→Prop) (g:Ws st post):
  Tr Tryz.prog 19 [.agg (Q1 st)] [] 0 (fun A H' k=>∃y,post y∧A=(.o 0)∧H'=[(0,.val (.os 1 eI y))]∧k=1):=by
 refine Tr.go Tryz.func19 Tryz.ntmps19 fun _ _ _ _ o=>?_
 unfold Ws at g
 refine C.ss (U.bx ?_)
 refine U.pd 1 T (C.xt ?_)
 refine U.bs T eI ([0]:List Int) ?_
 refine U.ps 3 T rfl (U.k (Z4 ([0]:List Int) (st.Robots.length:Int) _ g) en57 (fun x5 g=>?_))
 refine U.pd 1 T (C.nx (C.ret ?_))
 exact C.g1 [some 2] T o ⟨x5,g,rfl,rfl,rfl⟩
theorem YV (s_1:ApiSite) (st:ApiState) (l:List K0) (post:Bool→Prop) (g:KR s_1 st l post):
  Tr Tryz.prog 3 [.agg (Q2 s_1),.agg (Q1 st),.sl 4 QJ l] [] 0 (pB post):=by
 refine Tr.go Tryz.func3 Tryz.ntmps3 fun _ _ _ _ o=>?_
 unfold KR at g
 refine C.ss (U.bx ?_)
 refine U.bx ?_
 refine U.pd 1 T (C.xt ?_)
 refine U.k (Q0G _ g) en8 fun x5 g=>?_
 refine U.pd 1 T (C.xs (C.ss ?_))
 refine U.ps 3 T rfl (U.k (Q0P s_1 st l 12 _ g) en9 (fun x8 g=>?_))
 refine U.pd 1 T (C.nx ?_)
 refine C.ite rfl g (fun b9 g=>?_) fun b9 g=>?_
 refine C.ss (U.pd 2 T (C.nx (C.ret (C.rt ?_))))
 exact C.f1 T o (pBi g)
 refine C.skip (C.xs (C.ss (U.pd 1 T (C.nx ?_))))
 refine C.jn (fun (x14:Unit)=>[(7,.b x5)]) (fun x14=>[]) 0 g (fun x14 g=>?_) fun J15 g j15=>?_
 refine C.xt (U.pd 2 T (C.nx (C.ret ?_)))
 exact C.f1 T o (pBi g)
 refine C.block ?_
 refine St.wk (C.loop (fun (s16:Int×List Int×List ApiRobot×List Int×List Int×List Q0×Int)=>[(2,.sl 4 QJ l),(3,.p 0 0),(4,.p 1 0),(7,.b x5),(8,.i s16.2.2.2.2.2.2)]) (fun s16=>[(0,.box (Q2 s_1)),(1,.box [.i s16.1,.sl 1 eI s16.2.1,.sl 6 Q4 s16.2.2.1,.sl 1 eI s16.2.2.2.1,.sl 1 eI s16.2.2.2.2.1,.sl 2 Q3 s16.2.2.2.2.2.1])]) g (fun s16 Y17 g=>?_)) (Wk.a (idR 2))
 refine C.seq (C.ss (U.pd 4 T (C.nx ?_)))
 refine C.ite rfl g (fun b20 g=>?_) fun b20 g=>?_
 refine C.skip (C.xs (C.block (C.ss (U.ps 2 T rfl ?_))))
 obtain⟨x23,y23,g⟩:=g
 refine U.ix T y23 ?_
 refine U.ps 1 T rfl (U.al T ?_)
 refine U.st T ?_
 refine U.done (C.xs (C.seq ?_))
 refine C.jn (fun (x24:Bool)=>[(2,.sl 4 QJ l),(3,.p 0 0),(4,.p 1 0),(7,.b x5),(8,.i s16.2.2.2.2.2.2),(9,.p 2 0),(68,.b x24)]) (fun x24=>[(0,.box (Q2 s_1)),(1,.box [.i s16.1,.sl 1 eI s16.2.1,.sl 6 Q4 s16.2.2.1,.sl 1 eI s16.2.2.2.1,.sl 1 eI s16.2.2.2.2.1,.sl 2 Q3 s16.2.2.2.2.2.1]),(2,.box (QJ x23))]) 3 g (fun x24 g=>?_) fun J25 g j25=>?_
 refine C.nx ?_
 refine C.ite rfl g (fun b35 g=>?_) fun b35 g=>?_
 refine C.ss (U.pd 1 T (C.nx (C.ret (C.rt (C.brt (C.rt (C.rt (C.brt (C.rt ?_)))))))))
 exact C.f1 T o (pBi g)
 refine C.skip (C.xt (U.ps 6 T rfl (U.k (Yx s_1 ({Tick:=s16.1,Shelves:=s16.2.1,Robots:=s16.2.2.1,People:=s16.2.2.2.1,Dead:=s16.2.2.2.2.1,Stuck:=s16.2.2.2.2.2.1:ApiState}) x23.Acts x23.Fault _ g) en17 (fun x40 g=>?_))))
 refine U.ps 3 T rfl (U.al T ?_)
 refine U.st T ?_
 refine U.pd 1 T (C.xt ?_)
 refine U.ps 6 T rfl (U.k (Q0S s_1 ({Tick:=s16.1,Shelves:=s16.2.1,Robots:=s16.2.2.1,People:=s16.2.2.2.1,Dead:=s16.2.2.2.2.1,Stuck:=s16.2.2.2.2.2.1:ApiState}) x23.Acts x23.Fault _ g) en18 (fun x43 g=>?_))
 refine U.ps 3 T rfl (U.al T ?_)
 refine U.st T ?_
 refine U.pd 1 T (C.xs (C.seq ?_))
 refine C.jn (fun (x44:Bool)=>[(2,.sl 4 QJ l),(3,.p 0 0),(4,.p 1 0),(7,.b x5),(8,.i s16.2.2.2.2.2.2),(10,.p 2 0),(11,.i x40.2),(106,.b x44)]) (fun x44=>[(0,.box (Q2 s_1)),(1,.box [.i s16.1,.sl 1 eI s16.2.1,.sl 6 Q4 s16.2.2.1,.sl 1 eI s16.2.2.2.1,.sl 1 eI s16.2.2.2.2.1,.sl 2 Q3 s16.2.2.2.2.2.1]),(2,.box [.i x40.1.Tick,.o 3,.o 4,.o 5,.o 6,.o 7]),(3,.val (.os 1 eI x40.1.Shelves)),(4,.val (.os 6 Q4 x40.1.Robots)),(5,.val (.os 1 eI x40.1.People)),(6,.val (.os 1 eI x40.1.Dead)),(7,.val (.os 2 Q3 x40.1.Stuck))]) 8 g (fun x44 g=>?_) fun J45 g j45=>?_
 refine C.nx ?_
 refine C.ite rfl g (fun b50 g=>?_) fun b50 g=>?_
 refine C.ss (U.pd 1 T (C.nx (C.ret (C.rt (C.brt (C.rt (C.rt (C.brt (C.rt ?_)))))))))
 exact C.f1 T o (pBi g)
 refine C.skip (C.xt (U.pd 2 T (C.nx ?_)))
 refine C.jn (fun (x55:Int×List Int×List ApiRobot×List Int×List Int×List Q0)=>[(2,.sl 4 QJ l),(3,.p 0 0),(4,.p 1 0),(7,.b x5),(8,.i s16.2.2.2.2.2.2)]) (fun x55=>[(0,.box (Q2 s_1)),(1,.box [.i x55.1,.sl 1 eI x55.2.1,.sl 6 Q4 x55.2.2.1,.sl 1 eI x55.2.2.2.1,.sl 1 eI x55.2.2.2.2.1,.sl 2 Q3 x55.2.2.2.2.2])]) 2 g (fun x55 g=>?_) fun J56 g j56=>?_
 refine C.bnx (C.nx (U.start (U.pd 3 T (C.nx ?_))))
 exact St.wk (C.next g) (Wk.a (idR 2))
 refine C.ite rfl g (fun b57 g=>?_) fun b57 g=>?_
 refine U.start (U.ps 1 T rfl (U.st T ?_))
 refine U.done ?_
 exact St.wk (j56 _ g) (Wk.mk' [some 0,some 1] rfl rfl (.eqs rfl) ⟨bX,⟨_,rfl,.box rfl (.cons (.eq rfl) (.cons (.fz rfl rfl rfl (.os fun _=>.cons (.ro rfl) .nil)) (.cons (.fz rfl rfl rfl (.os fun _=>.cons (.ro rfl) (.cons (.ro rfl) (.cons (.ro rfl) (.cons (.ro rfl) (.cons (.ro rfl) (.cons (.ro rfl) .nil))))))) (.cons (.fz rfl rfl rfl (.os fun _=>.cons (.ro rfl) .nil)) (.cons (.fz rfl rfl rfl (.os fun _=>.cons (.ro rfl) .nil)) (.cons (.fz rfl rfl rfl (.os fun _=>.cons (.ro rfl) (.cons (.ro rfl) .nil))) .nil))))))⟩,trivial⟩ rfl)
 refine C.skip ?_
 exact St.wa (idR 2) (j56 _ g)
 refine D.bq mix 9999 [1,8,14] [] (fun hQ hS ws M'=>?_)
 refine D.pq 4 (zl [0,1,2,3]) T ?_
 refine g.cs (fun b46 g=>?_) fun b46 g=>?_
 refine D.sz 4 [] 3 false 92 b46 ?_
 refine D.sz 5 [] 3 false 92 b46 ?_
 refine D.sz 6 [] 3 false 92 b46 ?_
 refine D.sz 7 [] 3 false 92 b46 ?_
 refine D.kt 8 [] b46 ?_
 refine D.pq 1 [(9,[])] T ?_
 refine D.sz 10 [] 9 false 98 rfl ?_
 refine D.sz 11 [] 9 false 98 rfl ?_
 refine D.sz 12 [] 9 false 98 rfl ?_
 refine D.sz 13 [] 9 false 98 rfl ?_
 refine D.sz 14 [] 9 false 98 rfl ?_
 refine D.sz 15 [] 9 false 98 rfl ?_
 refine D.sz 16 [] 9 false 98 rfl ?_
 refine D.kt 17 [] rfl ?_
 refine D.done (by kernel_rfl) ?_
 exact St.wa [some 0,some 1,some 8,some 3,some 4,some 5,some 6,some 7] (j45 _ g)
 refine D.q 4 [] hQ hS rfl (.tk 3 false 92 b46) rfl rfl (by exact Rd.l T rfl rfl rfl) rfl (by kernel_rfl) ?_
 refine D.q 5 [] hQ hS rfl (.tk 3 false 92 b46) rfl rfl (by exact Rd.l T rfl rfl rfl) rfl (by kernel_rfl) ?_
 refine D.k 6 (YE x40.1 x43.1 _ g) en14 (fun x47 g=>?_) (hw:=.take 3 false 92 _ b46 rfl rfl rfl)
 refine D.pt 7 [] 3 false 92 b46 T ?_
 refine D.kf 8 [] b46 ?_
 refine D.pq 1 [(9,[])] T ?_
 refine g.cs (fun b48 g=>?_) fun b48 g=>?_
 refine D.q 10 [] hQ hS rfl (.tk 9 false 98 (ntF b48)) rfl rfl (by exact Rd.l T rfl rfl rfl) rfl (by kernel_rfl) ?_
 refine D.pt 13 [] 9 false 98 (ntF b48) T ?_
 refine D.q 14 [] hQ hS rfl (.tk 9 false 98 (ntF b48)) rfl rfl (by exact Rd.l T rfl rfl rfl) rfl (by kernel_rfl) ?_
 refine D.pt 15 [] 9 false 98 (ntF b48) T ?_
 refine D.k 11 (Q4u ({Tick:=s16.1,Shelves:=s16.2.1,Robots:=s16.2.2.1,People:=s16.2.2.2.1,Dead:=s16.2.2.2.2.1,Stuck:=s16.2.2.2.2.2.1:ApiState}) _ g) en19 (fun x49 g=>?_) (hw:=.take 9 false 98 _ (ntF b48) rfl rfl rfl)
 refine D.pt 12 [] 9 false 98 (ntF b48) T ?_
 refine D.pt 16 [] 9 false 98 (ntF b48) T ?_
 refine D.kf 17 [] (ntF b48) ?_
 refine D.done (by kernel_rfl) ?_
 exact St.wa [some 0,some 1,some 8,some 3,some 4,some 5,some 6,some 7] (j45 _ g)
 refine D.sz 10 [] 9 false 98 (ntT b48) ?_
 refine D.sz 11 [] 9 false 98 (ntT b48) ?_
 refine D.sz 12 [] 9 false 98 (ntT b48) ?_
 refine D.sz 13 [] 9 false 98 (ntT b48) ?_
 refine D.sz 14 [] 9 false 98 (ntT b48) ?_
 refine D.sz 15 [] 9 false 98 (ntT b48) ?_
 refine D.sz 16 [] 9 false 98 (ntT b48) ?_
 refine D.kt 17 [] (ntT b48) ?_
 refine D.done (by kernel_rfl) ?_
 exact St.wa [some 0,some 1,some 8,some 3,some 4,some 5,some 6,some 7] (j45 _ g)
 refine D.bq mix 9999 [0,1,2] [] (fun hQ hS ws M'=>?_)
 refine D.pq 8 (zl [0,1,2,3,5,6,7,8]) T ?_
 refine D.k 4 (Q1l s_1 ({Tick:=s16.1,Shelves:=s16.2.1,Robots:=s16.2.2.1,People:=s16.2.2.2.1,Dead:=s16.2.2.2.2.1,Stuck:=s16.2.2.2.2.2.1:ApiState}) x23.Acts _ g) en10 fun x26 g=>?_
 refine D.k 9 (Yh s_1 ({Tick:=s16.1,Shelves:=s16.2.1,Robots:=s16.2.2.1,People:=s16.2.2.2.1,Dead:=s16.2.2.2.2.1,Stuck:=s16.2.2.2.2.2.1:ApiState}) x23.Acts _ g) en11 fun x27 g=>?_
 refine D.pq 2 (zl [10,11]) T ?_
 refine g.cs (fun b28 g=>?_) fun b28 g=>?_
 refine D.sz 12 [] 11 false 42 b28 ?_
 refine D.sz 13 [] 11 false 42 b28 ?_
 refine D.sz 14 [] 11 false 42 b28 ?_
 refine D.sz 15 [] 11 false 42 b28 ?_
 refine D.sz 16 [] 11 false 42 b28 ?_
 refine D.sz 17 [] 11 false 42 b28 ?_
 refine D.sz 18 [] 11 false 42 b28 ?_
 refine D.sz 19 [] 11 false 42 b28 ?_
 refine D.sz 20 [] 11 false 42 b28 ?_
 refine D.sz 21 [] 11 false 42 b28 ?_
 refine D.sz 22 [] 11 false 42 b28 ?_
 refine D.kt 23 [] b28 ?_
 refine D.pq 1 [(24,[])] T ?_
 refine D.sz 25 [] 24 false 55 rfl ?_
 refine D.sz 26 [] 24 false 55 rfl ?_
 refine D.sz 27 [] 24 false 55 rfl ?_
 refine D.sz 28 [] 24 false 55 rfl ?_
 refine D.sz 29 [] 24 false 55 rfl ?_
 refine D.sz 30 [] 24 false 55 rfl ?_
 refine D.sz 31 [] 24 false 55 rfl ?_
 refine D.sz 32 [] 24 false 55 rfl ?_
 refine D.sz 33 [] 24 false 55 rfl ?_
 refine D.sz 34 [] 24 false 55 rfl ?_
 refine D.sz 35 [] 24 false 55 rfl ?_
 refine D.sz 36 [] 24 false 55 rfl ?_
 refine D.kt 37 [] rfl ?_
 refine D.done (by kernel_rfl) ?_
 exact St.wa (idR 3) (j25 _ g)
 refine D.q 12 [] hQ hS rfl (.tk 11 false 42 b28) rfl rfl (by exact Rd.l T rfl rfl rfl) rfl (by kernel_rfl) ?_
 refine D.q 13 [] hQ hS rfl (.tk 11 false 42 b28) rfl rfl (by exact Rd.l T rfl rfl rfl) rfl (by kernel_rfl) ?_
 refine D.pt 14 [] 11 false 42 b28 T ?_
 refine D.q 15 [] hQ hS rfl (.tk 11 false 42 b28) rfl rfl (by exact Rd.l T rfl rfl rfl) rfl (by kernel_rfl) ?_
 refine D.q 17 [] hQ hS rfl (.tk 11 false 42 b28) rfl rfl (by exact Rd.l T rfl rfl rfl) rfl (by kernel_rfl) ?_
 refine D.q 18 [] hQ hS rfl (.tk 11 false 42 b28) rfl rfl (by exact Rd.l T rfl rfl rfl) rfl (by kernel_rfl) ?_
 refine D.pt 19 [] 11 false 42 b28 T ?_
 refine D.q 20 [] hQ hS rfl (.tk 11 false 42 b28) rfl rfl (by exact Rd.l T rfl rfl rfl) rfl (by kernel_rfl) ?_
 refine D.k 16 (WK s_1 ({Tick:=s16.1,Shelves:=s16.2.1,Robots:=s16.2.2.1,People:=s16.2.2.2.1,Dead:=s16.2.2.2.2.1,Stuck:=s16.2.2.2.2.2.1:ApiState}) x23.Fault _ g) en12 (fun x29 g=>?_) (hw:=.take 11 false 42 _ b28 rfl rfl rfl)
 refine D.k 21 (Gn s_1 ({Tick:=s16.1,Shelves:=s16.2.1,Robots:=s16.2.2.1,People:=s16.2.2.2.1,Dead:=s16.2.2.2.2.1,Stuck:=s16.2.2.2.2.2.1:ApiState}) x23.Fault _ g) en13 (fun x30 g=>?_) (hw:=.take 11 false 42 _ b28 rfl rfl rfl)
 refine D.pt 22 [] 11 false 42 b28 T ?_
 refine D.kf 23 [] b28 ?_
 refine D.pq 1 [(24,[])] T ?_
 refine g.cs (fun b31 g=>?_) fun b31 g=>?_
 refine D.sz 25 [] 24 false 55 b31 ?_
 refine D.sz 26 [] 24 false 55 b31 ?_
 refine D.sz 27 [] 24 false 55 b31 ?_
 refine D.sz 28 [] 24 false 55 b31 ?_
 refine D.sz 29 [] 24 false 55 b31 ?_
 refine D.sz 30 [] 24 false 55 b31 ?_
 refine D.sz 31 [] 24 false 55 b31 ?_
 refine D.sz 32 [] 24 false 55 b31 ?_
 refine D.sz 33 [] 24 false 55 b31 ?_
 refine D.sz 34 [] 24 false 55 b31 ?_
 refine D.sz 35 [] 24 false 55 b31 ?_
 refine D.sz 36 [] 24 false 55 b31 ?_
 refine D.kt 37 [] b31 ?_
 refine D.done (by kernel_rfl) ?_
 exact St.wa (idR 3) (j25 _ g)
 refine D.q 25 [] hQ hS rfl (.tk 24 false 55 b31) rfl rfl (by exact Rd.l T rfl rfl rfl) rfl (by kernel_rfl) ?_
 refine D.q 26 [] hQ hS rfl (.tk 24 false 55 b31) rfl rfl (by exact Rd.l T rfl rfl rfl) rfl (by kernel_rfl) ?_
 refine D.pt 27 [] 24 false 55 b31 T ?_
 refine D.q 28 [] hQ hS rfl (.tk 24 false 55 b31) rfl rfl (by exact Rd.l T rfl rfl rfl) rfl (by kernel_rfl) ?_
 refine D.q 30 [] hQ hS rfl (.tk 24 false 55 b31) rfl rfl (by exact Rd.l T rfl rfl rfl) rfl (by kernel_rfl) ?_
 refine D.q 31 [] hQ hS rfl (.tk 24 false 55 b31) rfl rfl (by exact Rd.l T rfl rfl rfl) rfl (by kernel_rfl) ?_
 refine D.pt 32 [] 24 false 55 b31 T ?_
 refine D.q 33 [] hQ hS rfl (.tk 24 false 55 b31) rfl rfl (by exact Rd.l T rfl rfl rfl) rfl (by kernel_rfl) ?_
 refine D.k 29 (Q0n s_1 ({Tick:=s16.1,Shelves:=s16.2.1,Robots:=s16.2.2.1,People:=s16.2.2.2.1,Dead:=s16.2.2.2.2.1,Stuck:=s16.2.2.2.2.2.1:ApiState}) x23.Fault _ g) en15 (fun x32 g=>?_) (hw:=.take 24 false 55 _ b31 rfl rfl rfl)
 refine D.k 34 (WP s_1 ({Tick:=s16.1,Shelves:=s16.2.1,Robots:=s16.2.2.1,People:=s16.2.2.2.1,Dead:=s16.2.2.2.2.1,Stuck:=s16.2.2.2.2.2.1:ApiState}) x23.Fault _ g) en16 (fun x33 g=>?_) (hw:=.take 24 false 55 _ b31 rfl rfl rfl)
 refine D.k 35 (YE x32 x33 _ g) en14 (fun x34 g=>?_) (hw:=.take 24 false 55 _ b31 rfl rfl rfl)
 refine D.pt 36 [] 24 false 55 b31 T ?_
 refine D.kf 37 [] b31 ?_
 refine D.done (by kernel_rfl) ?_
 exact St.wa (idR 3) (j25 _ g)
 refine C.exit (C.ex (C.ex (C.bex ?_)))
 exact St.wn (j15 _ g)
end Go.Proofs.YtbpbennpgnjbkaaGreat
