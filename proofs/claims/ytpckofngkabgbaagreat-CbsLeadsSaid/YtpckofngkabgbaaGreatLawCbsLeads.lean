/- The law CbsLeads: called with whatever came in it gives true, and what came in reads as it did. No condition. -/
import Derived.Test.YtpckofngkabgbaaGreatW3
import Derived.Test.YtpckofngkabgbaaGreatSaidCbsLeads
import Derived.Test.YtpckofngkabgbaaGreatRows
import Derived.Test.YtpckofngkabgbaaGreatM5
import Derived.WalkKit
import Derived.ProofKit
import Derived.OpenShut
import Derived.JoinedCond
namespace Go.Proofs.YtpckofngkabgbaaGreat.lawCbsLeads
open Go Go.Taq Go.ChangeShapes Go.WideShapes Go.ChangeAt Go.RowKit Go.Proofs.YtpckofngkabgbaaGreat
set_option linter.unusedVariables false
theorem own:ownKnob Tryz.prog.godebug=none:=by kernel_rfl
theorem Q2s:laidOutB Tryz.prog=true:=by kernel_rfl
set_option maxRecDepth 100000 in
theorem Q3h(H:Type)(enc:TypeId×Value->H)(W:World)(base:Nat)(args:Array Value)(ds gs:List (DataW H))(before:List MemPlace)
  (hval0:∀(j:Nat) t v,Tryz.f4.params[j]?=some t->args[j]?=some v->Value.okWide Tryz.prog W .any base t v)
  (hW:DataW.Whole enc Tryz.prog Tryz.f4.params.toList Rows.cbsLeadsSpec.vars false W args.toList ds gs before):
  Calls Tryz.prog 4 args W λe W'=>∃v,e=.returned v∧Rows.cbsLeadsSpec.post enc Tryz.prog Tryz.f4 false true false false W args v W':=by
 have hW':=hW;have hval:=hval0;obtain⟨p,q,hA0,hV,rfl,hfz,hnd⟩:=hW;have hA:DataW.TrodAll enc Tryz.prog W 0 (λ_=>true) true Tryz.f4.params.toList args.toList ds p:=hA0;rw [Tryz.params4] at hA hval;obtain⟨v0,vs0,d0,ds0,p0,q0,hargs,rfl,rfl,h0,r0⟩:=trodAll_cons hA;obtain⟨v1,vs1,d1,ds1,p1,q1,rfl,rfl,rfl,h1,r1⟩:=trodAll_cons r0;obtain⟨v2,vs2,d2,ds2,p2,q2,rfl,rfl,rfl,h2,r2⟩:=trodAll_cons r1;obtain⟨v3,vs3,d3,ds3,p3,q3,rfl,rfl,rfl,h3,r3⟩:=trodAll_cons r2;obtain⟨v4,vs4,d4,ds4,p4,q4,rfl,rfl,rfl,h4,r4⟩:=trodAll_cons r3;obtain⟨v5,vs5,d5,ds5,p5,q5,rfl,rfl,rfl,h5,r5⟩:=trodAll_cons r4;obtain⟨rfl,rfl,rfl⟩:=trodAll_nil r5;obtain rfl:args=#[v0,v1,v2,v3,v4,v5]:=by cases args;simp_all
 obtain⟨rfl,rfl⟩:=trodVars_none hV;obtain⟨c0,rfl,_⟩:=okWide_struct Tryz.underlying30 (hval 0 30 v0 rfl rfl);obtain⟨x0,k0,e0⟩:=Kw.whole op30 h0;obtain⟨x1,k1,e1⟩:=Kw.one op31 (Zy Tryz.underlying31 (hval 1 31 v1 rfl rfl)) h1;obtain⟨x2,k2,e2⟩:=Kw.one op3 (Q2X Tryz.underlying3 (hval 2 3 v2 rfl rfl)) h2;obtain⟨x3,k3,e3⟩:=Kw.one op22 (Zy Tryz.underlying22 (hval 3 22 v3 rfl rfl)) h3;obtain⟨x4,k4,e4⟩:=Kw.one op3 (Q2X Tryz.underlying3 (hval 4 3 v4 rfl rfl)) h4;obtain⟨x5,k5,e5⟩:=Kw.one op34 (Zy Tryz.underlying34 (hval 5 34 v5 rfl rfl)) h5;refine (Tr.law (Q0q x0 x1 x2 x3 x4 x5 (λy=>y=true) (ZH x0 k0 x1 k1 x2 k2 x3 k3 x4 k4 x5 k5)) (dnl1 e0 (dnl1 e1 (dnl1 e2 (dnl1 e3 (dnl1 e4 (dnl1 e5 dnl0))))))).mono λe W' ⟨he,bel⟩=>?_
 subst he;exact⟨_,rfl,_,_,_,[],_,[],hW',trodAll_mk1 (shut_bool Tryz.underlying4 _),(trodAll_cons_mk (Below.trod Q2s (by kernel_rfl) (of_decide_eq_true (by kernel_rfl)) h0 bel (Q17 h0)) (trodAll_cons_mk (Below.trod Q2s (by kernel_rfl) (of_decide_eq_true (by kernel_rfl)) h1 bel (Q17 h1)) (trodAll_cons_mk (Below.trod Q2s (by kernel_rfl) (of_decide_eq_true (by kernel_rfl)) h2 bel (Q17 h2)) (trodAll_cons_mk (Below.trod Q2s (by kernel_rfl) (of_decide_eq_true (by kernel_rfl)) h3 bel (Q17 h3)) (trodAll_cons_mk (Below.trod Q2s (by kernel_rfl) (of_decide_eq_true (by kernel_rfl)) h4 bel (Q17 h4)) (trodAll_cons_mk (Below.trod Q2s (by kernel_rfl) (of_decide_eq_true (by kernel_rfl)) h5 bel (Q17 h5)) trodAll_mk0)))))),rfl,bel.frame _,λh=>by cases h⟩
set_option maxRecDepth 100000 in
theorem QcC(os:Os)(started:os.Started)(H:Type)(enc:TypeId×Value->H):
  ReturnsInHanded {} Tryz.checked os 4 .any (Rows.cbsLeadsSpec.pre6 enc Tryz.prog Tryz.f4 Rows.cbsLeadsRow.domain false) (Rows.cbsLeadsSpec.post enc Tryz.prog Tryz.f4 false true false false):=by
 refine returnsInHanded_of_change (C:=Tryz.checked) own started (by kernel_rfl) Tryz.func4
  (ChangeSpec.witness6 (enc:=enc) (C:=Tryz.checked) false ⟨#[],#[.agg #[.int .i64 0,.int .i64 0,.int .i64 0,.slice none 0 0,.slice none 0 0,.slice none 0 0,.slice none 0 0,.slice none 0 0,.slice none 0 0],(.slice none 0 0),(.int .i64 0),(.slice none 0 0),(.int .i64 0),(.slice none 0 0)],[]⟩ 8 (by kernel_rfl) (by kernel_rfl) (by kernel_rfl) (by kernel_rfl)) ?_
 intro W base args ds gs before hval0 hW hcnd _;exact Q3h H enc W base args ds gs before hval0 hW
theorem over:Rows.cbsLeadsRow.holds Tryz.pinned (OpenSpec.ofChange Rows.cbsLeadsSpec):=
 OpenClaim.holds_of_wide 4 Tryz.f4 rfl rfl rfl rfl rfl rfl rfl ⟨rfl,rfl,rfl,rfl,rfl⟩ rfl rfl rfl rfl rfl (by kernel_rfl) Tryz.func4 (by kernel_rfl)
  (of_decide_eq_true (by kernel_rfl)) (by unfold Func.isWrapper;first | (rw [gF (by decide +kernel)];kernel_rfl) | (rw [gC (by decide +kernel)];exact⟨rfl,rfl⟩))
  (λos started H enc _=>QcC os started H enc)
theorem proved:Rows.CbsLeadsSaid:=
 over
end Go.Proofs.YtpckofngkabgbaaGreat.lawCbsLeads
