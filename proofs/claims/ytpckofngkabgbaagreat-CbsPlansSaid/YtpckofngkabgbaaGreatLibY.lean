/- The library of the generated walks, part Y: the frame of a law that gives back true and leaves what came in as it was. -/
import Derived.Test.YtpckofngkabgbaaGreatLibX
import Derived.ProofKit
import Derived.OpenShut
set_option linter.unusedVariables false
namespace Go.Taq
open Go Go.ChangeShapes Go.WideShapes Go.ChangeAt Go.RowKit
section
variable {P:Program} {H:Type} {enc:TypeId×Value→H} {W:World} {held:Bool} {t:TypeId} {v:Value} {d:DataW H} {ps:List MemPlace}
theorem QN.one {X:Type} {A:X→AVal} {Ok:X→Prop} (h:QN P t (fun x=>[A x]) Ok) (hv:v.cells=#[v]) (ht:DataW.Trod enc P W 0 (fun _=>true) held t v d ps):∃x,Ok x∧Dn W (old W) [] (A x) v:=by
 obtain⟨fuel,ht⟩:=ht
 rw [hv] at ht
 obtain⟨x,hk,_,hr⟩:=h enc W held fuel [v] d ps ht
 exact⟨x,hk,.ro (hr 0 (A x) v rfl rfl)⟩
theorem QN.whole {X:Type} {cs:X→List AVal} {Ok:X→Prop} {vs:Array Value} (h:QN P t cs Ok) (ht:DataW.Trod enc P W 0 (fun _=>true) held t (.agg vs) d ps):∃x,Ok x∧Dn W (old W) [] (.agg (cs x)) (.agg vs):=by
 obtain⟨fuel,ht⟩:=ht
 have e:(Value.agg vs).cells=vs:=rfl
 rw [e] at ht
 obtain⟨x,hk,hl,hr⟩:=h enc W held fuel vs.toList d ps ht
 refine⟨x,hk,.agg (cs x) vs (by simpa using hl) fun j A hA=>.ro (hr j A _ hA ?_)⟩
 have hj:j<vs.size:=by
  have:=(List.getElem?_eq_some_iff.1 hA).1
  rw [hl] at this;simpa using this
 simp [Array.getD_eq_getD_getElem?,hj]
theorem ZE {k:IntKind} (ht:P.underlying t=some (.int k)) {r:Reach} {base:Nat} (h:Value.okWide P W r base t v):v.cells=#[v]:=by obtain⟨n,rfl⟩:=okWide_int ht h;rfl
theorem YD {e:TypeId} (ht:P.underlying t=some (.slice e)) {r:Reach} {base:Nat} (h:Value.okWide P W r base t v):v.cells=#[v]:=by obtain⟨a,l,c,rfl⟩:=okWide_slice ht h;rfl
theorem dnl0 {w:World} {ok:Nat→Prop} {β:List Value}:DnL w ok β [] #[]:=⟨rfl,by simp⟩
theorem dnl1 {w:World} {ok:Nat→Prop} {β:List Value} {A:AVal} {x:Value} {As:List AVal} {xs:List Value} (h:Dn w ok β A x) (hs:DnL w ok β As ⟨xs⟩):DnL w ok β (A :: As) ⟨x :: xs⟩:=by
 refine⟨by simpa using hs.1,fun j B hB=>?_⟩
 cases j with
 | zero=>simp at hB;subst hB;exact h
 | succ j=>simpa [Array.getD_eq_getD_getElem?] using hs.2 j B (by simpa using hB)
theorem Z8 {spare:Nat→Bool} (h:DataW.Trod enc P W 0 spare held t v d ps):∀x∈ps,x.block<W.heap.size:=by
 obtain⟨m,hm⟩:=h
 exact DataW.trod_lt m _ _ _ hm
theorem Kp.below {w w':World} (h:Kp w (fun _=>False) w'):Below w.heap.size w w':=⟨h.os,h.tape,h.output,h.size,fun k hk=>h.block k hk (fun e=>e)⟩
theorem Tr.law {f:FuncId} {As:List AVal} {vs:Array Value} (h:Tr P f As [] 0 (fun A H' k=>∃y,(y=true)∧A=(.v (.bool y))∧H'=[]∧k=0)) (hd:DnL W (old W) [] As vs):
  Calls P f vs W fun e W'=>e=.returned (.bool true)∧Below W.heap.size W W':=
 (h W (old W) (fun _=>False) [] vs rfl (fun b hb=>⟨hb,fun e=>e⟩) (fun b hb=>hb.elim) trivial hd).mono fun e W' ⟨v,A,H',β,F,ok',e1,⟨y,hy,hA,_,_⟩,_,_,hk,_,_,_,_,hv⟩=>by
  subst hy;subst hA
  have:=hv.v_inv;subst this
  exact⟨e1,hk.below⟩
end
end Go.Taq
