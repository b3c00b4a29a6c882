/- The law ReachHolds: called with whatever came in it gives true, and what came in reads as it did. No condition. -/
import Derived.Test.YtdcfcldpjfepiaaGreatW2
import Derived.Test.YtdcfcldpjfepiaaGreatSaidReachHolds
import Derived.Test.YtdcfcldpjfepiaaGreatRows
import Derived.Test.YtdcfcldpjfepiaaGreatLibY
import Derived.WalkKit
import Derived.ProofKit
import Derived.OpenShut
import Derived.JoinedCond
namespace Go.Proofs.YtdcfcldpjfepiaaGreat.lawReachHolds
open Go Go.Taq Go.ChangeShapes Go.WideShapes Go.ChangeAt Go.RowKit Go.Proofs.YtdcfcldpjfepiaaGreat
set_option linter.unusedVariables false
theorem own:ownKnob Tryz.prog.godebug=none:=by kernel_rfl
theorem YW:laidOutB Tryz.prog=true:=by kernel_rfl
set_option maxRecDepth 100000 in
theorem Q37 (H:Type) (enc:TypeId×Value→H) (W:World) (base:Nat) (args:Array Value) (ds gs:List (DataW H)) (before:List MemPlace)
  (hval0:∀(j:Nat) t v,Tryz.f5.params[j]?=some t→args[j]?=some v→Value.okWide Tryz.prog W .any base t v)
  (hW:DataW.Whole enc Tryz.prog Tryz.f5.params.toList Rows.reachHoldsSpec.vars false W args.toList ds gs before):
  Calls Tryz.prog 5 args W fun e W'=>∃v,e=.returned v∧Rows.reachHoldsSpec.post enc Tryz.prog Tryz.f5 false true false false W args v W':=by
 have hW':=hW
 have hval:=hval0
 obtain⟨p,q,hA0,hV,rfl,hfz,hnd⟩:=hW
 have hA:DataW.TrodAll enc Tryz.prog W 0 (fun _=>true) true Tryz.f5.params.toList args.toList ds p:=hA0
 rw [Tryz.params5] at hA hval
 obtain⟨v0,vs0,d0,ds0,p0,q0,hargs,rfl,rfl,h0,r0⟩:=trodAll_cons hA
 obtain⟨v1,vs1,d1,ds1,p1,q1,rfl,rfl,rfl,h1,r1⟩:=trodAll_cons r0
 obtain⟨v2,vs2,d2,ds2,p2,q2,rfl,rfl,rfl,h2,r2⟩:=trodAll_cons r1
 obtain⟨v3,vs3,d3,ds3,p3,q3,rfl,rfl,rfl,h3,r3⟩:=trodAll_cons r2
 obtain⟨v4,vs4,d4,ds4,p4,q4,rfl,rfl,rfl,h4,r4⟩:=trodAll_cons r3
 obtain⟨v5,vs5,d5,ds5,p5,q5,rfl,rfl,rfl,h5,r5⟩:=trodAll_cons r4
 obtain⟨v6,vs6,d6,ds6,p6,q6,rfl,rfl,rfl,h6,r6⟩:=trodAll_cons r5
 obtain⟨v7,vs7,d7,ds7,p7,q7,rfl,rfl,rfl,h7,r7⟩:=trodAll_cons r6
 obtain⟨rfl,rfl,rfl⟩:=trodAll_nil r7
 obtain rfl:args=#[v0,v1,v2,v3,v4,v5,v6,v7]:=by cases args;simp_all
 obtain⟨rfl,rfl⟩:=trodVars_none hV
 obtain⟨c0,rfl,_⟩:=okWide_struct Tryz.underlying30 (hval 0 30 v0 rfl rfl)
 obtain⟨x0,k0,e0⟩:=QP.whole op30 h0
 obtain⟨x1,k1,e1⟩:=QP.one op3 (Ge Tryz.underlying3 (hval 1 3 v1 rfl rfl)) h1
 obtain⟨x2,k2,e2⟩:=QP.one op3 (Ge Tryz.underlying3 (hval 2 3 v2 rfl rfl)) h2
 obtain⟨x3,k3,e3⟩:=QP.one op3 (Ge Tryz.underlying3 (hval 3 3 v3 rfl rfl)) h3
 obtain⟨x4,k4,e4⟩:=QP.one op3 (Ge Tryz.underlying3 (hval 4 3 v4 rfl rfl)) h4
 obtain⟨x5,k5,e5⟩:=QP.one op3 (Ge Tryz.underlying3 (hval 5 3 v5 rfl rfl)) h5
 obtain⟨x6,k6,e6⟩:=QP.one op3 (Ge Tryz.underlying3 (hval 6 3 v6 rfl rfl)) h6
 obtain⟨x7,k7,e7⟩:=QP.one op4 (Q31 Tryz.underlying4 (hval 7 4 v7 rfl rfl)) h7
 refine (Tr.law (Y6 x0 x1 x2 x3 x4 x5 x6 x7 (fun y=>y=true) (Said_taquinlaw33_ReachHolds x0 k0 x1 k1 x2 k2 x3 k3 x4 k4 x5 k5 x6 k6 x7 k7)) (dnl1 e0 (dnl1 e1 (dnl1 e2 (dnl1 e3 (dnl1 e4 (dnl1 e5 (dnl1 e6 (dnl1 e7 dnl0))))))))).mono fun e W' ⟨he,bel⟩=>?_
 subst he
 exact⟨_,rfl,_,_,_,[],_,[],hW',trodAll_mk1 (shut_bool Tryz.underlying4 _),(trodAll_cons_mk (Below.trod YW (by kernel_rfl) (of_decide_eq_true (by kernel_rfl)) h0 bel (WS h0)) (trodAll_cons_mk (Below.trod YW (by kernel_rfl) (of_decide_eq_true (by kernel_rfl)) h1 bel (WS h1)) (trodAll_cons_mk (Below.trod YW (by kernel_rfl) (of_decide_eq_true (by kernel_rfl)) h2 bel (WS h2)) (trodAll_cons_mk (Below.trod YW (by kernel_rfl) (of_decide_eq_true (by kernel_rfl)) h3 bel (WS h3)) (trodAll_cons_mk (Below.trod YW (by kernel_rfl) (of_decide_eq_true (by kernel_rfl)) h4 bel (WS h4)) (trodAll_cons_mk (Below.trod YW (by kernel_rfl) (of_decide_eq_true (by kernel_rfl)) h5 bel (WS h5)) (trodAll_cons_mk (Below.trod YW (by kernel_rfl) (of_decide_eq_true (by kernel_rfl)) h6 bel (WS h6)) (trodAll_cons_mk (Below.trod YW (by kernel_rfl) (of_decide_eq_true (by kernel_rfl)) h7 bel (WS h7)) trodAll_mk0)))))))),rfl,bel.frame _,fun h=>by cases h⟩
set_option maxRecDepth 100000 in
theorem Q8V (os:Os) (started:os.Started) (H:Type) (enc:TypeId×Value→H):
  ReturnsInHanded {} Tryz.checked os 5 .any (Rows.reachHoldsSpec.pre6 enc Tryz.prog Tryz.f5 Rows.reachHoldsRow.domain false) (Rows.reachHoldsSpec.post enc Tryz.prog Tryz.f5 false true false false):=by
 refine returnsInHanded_of_change (C:=Tryz.checked) own started (by kernel_rfl) Tryz.func5
  (ChangeSpec.witness6 (enc:=enc) (C:=Tryz.checked) false ⟨#[],#[.agg #[.int .i64 0,.int .i64 0,.int .i64 0,.slice none 0 0,.slice none 0 0,.slice none 0 0,.slice none 0 0,.slice none 0 0,.slice none 0 0],(.int .i64 0),(.int .i64 0),(.int .i64 0),(.int .i64 0),(.int .i64 0),(.int .i64 0),(.bool false)],[]⟩ 8 (by kernel_rfl) (by kernel_rfl) (by kernel_rfl) (by kernel_rfl)) ?_
 intro W base args ds gs before hval0 hW hcnd _
 exact Q37 H enc W base args ds gs before hval0 hW
theorem over:Rows.reachHoldsRow.holds Tryz.pinned (OpenSpec.ofChange Rows.reachHoldsSpec):=
 OpenClaim.holds_of_wide 5 Tryz.f5 rfl rfl rfl rfl rfl rfl rfl ⟨rfl,rfl,rfl,rfl,rfl⟩ rfl rfl rfl rfl rfl (by kernel_rfl) Tryz.func5 (by kernel_rfl)
  (of_decide_eq_true (by kernel_rfl)) (by unfold Func.isWrapper;first | (rw [if_pos (by decide +kernel)];kernel_rfl) | (rw [if_neg (by decide +kernel)];exact⟨rfl,rfl⟩))
  (fun os started H enc _=>Q8V os started H enc)
theorem proved:Rows.ReachHoldsSaid:=
 over
end Go.Proofs.YtdcfcldpjfepiaaGreat.lawReachHolds
