/- A range over a map that is nil: an iterator that yields nothing. -/
import Derived.Test.YtdcfcldpjfepiaaGreatLibZ
import Derived.Test.YtdcfcldpjfepiaaGreatLibQ
set_option linter.unusedVariables false
set_option linter.unusedSimpArgs false
namespace Go.Taq
open Go
section
variable {P:Program} {B:Base} {tb:Tab} {Γ:Env} {H:Heap} {nl:Nat} {o:Oper}
theorem Eff1.rgN (htb:QS P tb) {t kt et n' by_ d:Nat} {zc:List Value} {m:Operand} (ho:o.op=.range t m) (ht:find tb t=some ⟨.mp kt et,n',by_,zc⟩) (hd:o.dst=some d) (hlt:d.blt B.n=true)
  (hm:ev Γ m=some (.v (.map none))):Eff1 P B Γ H nl o ((d,.o nl) :: Γ) ((nl,.itn) :: H) (nl+1) (.fx [] false):=Eff1.of_value fun B hB β F a w hβ hf=>by
 rw [←hB] at hlt
 obtain⟨dst,op,ty,pos,af,g⟩:=o
 simp only at ho hd;subst ho;subst hd;subst hβ
 obtain⟨d',hdd,rfl⟩:=htb.und ht
 have hmv:=(Q4 (a:=a) hf.env hm).v_inv
 refine⟨.pointer (some ⟨w.heap.size,0,none⟩),w.alloc (.mapIter none 0 #[] 0),β++[.pointer (some ⟨w.heap.size,0,none⟩)],_,?_,by simp,fun l x h=>Qc h,fun l x b hl hx hb=>?_,
  (KH.alloc hf (.mapIter none 0 #[] 0) (.pointer (some ⟨w.heap.size,0,none⟩)) .itn ?_).put hlt ?_,?_⟩
 ·simp [execOp,Instr.range,run_underlying hdd,hmv,newObj,Sem.run,Result.andThen]
 ·have:=Yl rfl hl hx;subst this;cases hb;exact .inl (Nat.le_refl _)
 ·exact⟨w.heap.size,by simp,heap_alloc_new w _,rfl⟩
 ·exact .o _ _ (by simp) rfl
 ·exact Gp w _ _
theorem Eff1.nxN {d:Nat} {it:Operand} {li:Nat} (ho:o.op=.next it false) (hd:o.dst=some d) (hlt:d.blt B.n=true) (hm:ev Γ it=some (.o li)) (hl:find H li=some .itn):
  Eff1 P B Γ H nl o ((d,.tup [.v (.bool false)]) :: Γ) H nl (.fx [] false):=fun B hB β F a w hβ hf next Q hn=>by
 rw [←hB] at hlt
 obtain⟨dst,op,ty,pos,af,g⟩:=o
 simp only at ho hd;subst ho;subst hd
 obtain⟨F1,hF1,bi,hv0,hw,hF⟩:=hf.heap.get hl
 have hiv:=(Q4 (a:=a) hf.env hm).o_inv
 rw [hv0] at hiv
 have hit:=(Option.some.inj hiv).symm
 unfold Oper.wp
 have hgo:(getObj bi).run P w=.ok (.mapIter none 0 #[] 0) w:=by simp [getObj,Sem.run,hw]
 have hex:(execOp a.eval ⟨some d,.next it false,ty,pos,af,g⟩).run P w=.ok (.value (.tuple #[.bool false])) w:=by
  simp [execOp,hit,Instr.next,hgo]
 rw [hex]
 refine hn ⟨⟩ trivial _ _ β F B (.refl _) hβ (fun _ _ h=>h) ⟨fun l' x c hl' hx _=>?_,.refl _ _,fun _ c hc=>hc⟩ (hf.put hlt (.tup _ #[.bool false] rfl (fun j C hC=>?_)))
 ·rw [List.getElem?_eq_none (by omega)] at hx;cases hx
 ·match j,hC with
  | 0,hC=>simp at hC;subst hC;exact .ro (.v _)
  | j+1,hC=>simp at hC
theorem Eff.cS {f:FuncId} {g:Operand} {args:Array Operand} {ts:Array TypeId} {fs cs ar As:List AVal} {H1:Heap} {nl1:Nat} (ρ:List (Option Nat)) {v:Bool} {σ:Type} {post:σ→Prop} {R:σ→AVal} {H2 H3:σ→Heap} {k2 nl':σ→Nat} {d:Option Nat} {Γ':σ→Env} {m:EM}
  (htr:Tr P f As H1 nl1 (fun A H' k=>∃y,post y∧A=R y∧H'=H2 y∧k=k2 y)) (hen:Q1 P f) (ho:o.op=.call ⟨.value g,args,ts⟩) (hg:ev Γ g=some (.fn (.func f) fs cs)) (has:evs Γ args.toList=some ar) (hcs:CsL H ρ nl v (fs++(ar++cs)) As) (hH:ChkH H ρ nl v H1)
  (hρ:ρ.length=nl1) (hρv:ρ.all (fun m=>match m with | some m=>m.blt nl | none=>true)=true) (hk1:ndup (kept ρ H1)=true) (hnd:ndup (H.map (·.1))=true) (hd:o.dst=d) (hlt:dlt d B.n=true)
  (hv:v=true→∀y,NoSl (R y)∧Q1P (H2 y)) (hm:m=.any∨(ρ=[]∧m=.fx [] (!v))) (hΓ:∀y,putG d ((R y).ml (clab ρ nl)) Γ=Γ' y) (hH3:∀y,mlH (clab ρ nl) (H2 y)++Zd ρ H=H3 y) (hnl:∀y,nl+k2 y=nl' y):
  Eff (ι:=ULift σ) P B Γ H nl o (fun y=>post y.down) (fun y=>Γ' y.down) (fun y=>H3 y.down) (fun y=>nl' y.down) m:=fun B' hB β F a w hβ hf next Q hn=>by
 refine Eff.call (d:=d) htr hen ho hg has hcs hH hρ hρv hk1 hnd hd hlt (fun hv' A H' k ⟨y,_,e1,e2,_⟩=>by subst e1;subst e2;exact hv hv' y) hm B' hB β F a w hβ hf next Q (fun s hs a' w' β' F' B'' h1 h2 h3 h4 h5=>?_)
 obtain⟨y,hy,e1,e2,e3⟩:=hs
 dsimp only at h2 h5
 rw [e1,hΓ y,e2,hH3 y] at h5
 rw [e3,hnl y] at h2
 exact hn ⟨y⟩ hy a' w' β' F' B'' h1 h2 h3 h4 h5
end
end Go.Taq
