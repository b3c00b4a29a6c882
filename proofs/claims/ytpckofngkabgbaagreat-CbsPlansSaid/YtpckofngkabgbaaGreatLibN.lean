/- The library of the generated walks, part N: arrays in memory, indexed by what is computed. -/
import Derived.Test.YtpckofngkabgbaaGreatLibM
set_option linter.unusedVariables false
namespace Go.Taq
open Go
section
variable {P:Program} {B:Base} {tb:Tab} {Γ:Env} {H:Heap} {nl:Nat} {o:Oper}
theorem Rd.pi (htb:QI P tb) {t:TypeId} {x i:Operand} {l off:Nat} {k:IntKind} {j:Int} {len e n' by_ m:Nat} {zc:List Value} {e':TE}
  (ho:o.op=.indexAddr t x i) (hx:ev Γ x=some (.p l off)) (hi:ev Γ i=some (.v (.int k j))) (ht:find tb t=some ⟨.ar len e,n',by_,zc⟩) (he:find tb e=some e') (hm:e'.n=m) (hj:0≤j∧j<(len:Int)):
  Rd P B Γ H nl o (.p l (off+j.toNat*m)) none:=fun B hB β F a w hβ hf=>by
 obtain⟨dst,op,ty,pos,af,g⟩:=o
 simp only at ho;subst ho;subst hm
 obtain⟨b,hb,hX⟩:=(Q5 (a:=a) hf.env hx).p_inv
 have hI:=(Q5 (a:=a) hf.env hi).v_inv
 obtain⟨d,hd,rfl⟩:=htb.und ht
 refine⟨_,.p l _ b hb,fun w' _=>?_⟩
 simp [execOp,Instr.indexAt,hI,asIntOf,run_underlying hd,hX,Instr.sureAddr,hj,htb.size he,Kx]
theorem Eff1.sa (htb:QI P tb) {α:Type} {T:TypeId} {x y:Operand} {l off:Nat} {enc:α→List AVal} {xs:List α} {z z':α} {A:AVal} {e:TE} (ho:o.op=.store T x y) (hx:ev Γ x=some (.p l off)) (hl:find H l=some (.val (.arr 1 enc xs)))
  (hz:xs[off]?=some z) (hy:ev Γ y=some A) (hc:A.cells=some [A]) (he:find tb T=some e) (hn:e.n=1) (h1:WX A=true) (hz':enc z'=[A]) (hd:o.dst=none):
  Eff1 P B Γ H nl o Γ (setH H l (.val (.arr 1 enc (xs.set off z')))) nl (.fx [l] false):=Eff1.of_skip fun B hB β F a w hβ hf=>by
 obtain⟨dst,op,ty,pos,af,g⟩:=o
 simp only at ho hd;subst ho;subst hd
 obtain⟨b',hb',hxv⟩:=(Q5 (a:=a) hf.env hx).p_inv
 have hYd:=Q5 (a:=a) hf.env hy
 have hY:=hYd.cells hc
 obtain⟨F1,hF1,⟨v,hv,hon⟩,hset⟩:=hf.heap.set hl
 rw [hv] at hb';cases hb'
 generalize hnn:AVal.arr 1 enc xs=Y at hon
 cases hon with
 | ro F h=>subst hnn;cases h
 | arr n2 enc2 xs2 b c T' F hFb hw hc2 hn2 hr=>
  cases hnn
  have hlt:=(List.getElem?_eq_some_iff.1 hz).1
  have hcell:(a.eval y).cells=#[a.eval y]:=Value.cells_one (hYd.one (Ws h1))
  have hsz:(a.eval y).cells.size=e.n:=by rw [hcell,hn];rfl
  have hone':∀u∈(a.eval y).cells.toList,u.oneCell'=true:=by rw [hcell];intro u hu;simp at hu;subst hu;exact hYd.one (Ws h1)
  have hle2:off+(a.eval y).cells.toList.length≤c.size:=by rw [hcell];simp;omega
  have hst:=run_storeCells_at (P:=P) b' off T' (a.eval y).cells.toList 0 c w hw (by simpa using hle2) hone'
  simp only [Nat.add_zero] at hst
  generalize hc3:(c.toList.take off++(a.eval y).cells.toList++c.toList.drop (off+(a.eval y).cells.toList.length)).toArray=c3 at hst
  have hc3s:c3.size=c.size:=by rw [←hc3];simp only [List.size_toArray,List.length_append,List.length_take,List.length_drop,Array.length_toList];simp only [Array.length_toList] at hle2;omega
  have hrow:=setRow_heap w b' c c3 T' (0,0) hw
  have hhd:Mod β [l] b':=⟨l,by simp,_,hv,rfl⟩
  refine⟨w.setRow b' c3,β,F,?_,hβ,fun _ _ h=>h,fun l x b hl hx _=>?_,?_,Xc w b' c3 _ hhd⟩
  ·simp only [execOp,Instr.storeAt,hxv,Instr.sureAddr,Sem.run_bind,Sem.run_pure,Result.andThen_ok,storeVar,htb.size he]
   rw [Sem.run_ite,if_neg (by simp [hsz]),hst];rfl
  ·rw [List.getElem?_eq_none (by omega)] at hx;cases hx
  ·have hk:=Xc w b' c3 (fun x=>x=b') rfl
   have hM:∀x,x=b'→x<B.w0.heap.size→B.M x:=fun x hx hlt'=>by subst hx;exact (hf.own x (hF1 x hFb)).2 hlt'
   refine⟨hf.kp.trans hk hM,hf.ok,fun b hb=>by have:=hf.own b hb;exact⟨by simpa using this.1,this.2⟩,hset _ _ (fun b'' hb hn hlt=>setRow_other w b' b'' c3 (fun e=>hn (e▸hFb))) ⟨_,hv,?_⟩,hf.env,by simpa [Act.put] using hf.size,hf.defers,hf.pre⟩
   refine .arr 1 enc _ b' c3 T' F1 hFb hrow (by rw [hc3s,hc2];simp) (fun m u hu=>?_) (fun m j u C hu hC=>?_)
   ·rw [List.getElem?_set] at hu
    by_cases e:off=m
    ·rw [if_pos e] at hu
     try rw [if_pos hlt] at hu
     cases hu;rw [hz'];rfl
    ·rw [if_neg e] at hu;exact hn2 m u hu
   ·rw [←hc3,Gc _ _ _ hle2,hcell]
    rw [List.getElem?_set] at hu
    by_cases e:off=m
    ·subst e
     rw [if_pos rfl] at hu
     try rw [if_pos hlt] at hu
     cases hu
     rw [hz'] at hC
     cases j with
     | zero=>
      simp at hC;subst hC
      simp
      exact hYd.ro_of (Y1 h1)
     | succ j=>simp at hC
    ·rw [if_neg e] at hu
     have hj:=(List.getElem?_eq_some_iff.1 hC).1
     rw [hn2 m u hu] at hj
     rw [if_neg (by simp;omega)]
     exact hr m j u C hu hC
end
end Go.Taq
