/- The library of the generated walks, part ZQ: nil is stored into a row of rows. -/
import Derived.Test.YtlaehjhkcanffaaGreatLibU
set_option linter.unusedVariables false
set_option linter.unusedSimpArgs false
namespace Go.Taq
open Go
theorem Nl.ro {w:World} {ok:Nat→Prop} {A A':AVal} {x:Value} (h:Nl A A') (hr:A'.isRo=true) (hx:Ro w ok A x):Ro w ok A' x:=by
 cases h with
 | refl=>exact hx
 | sl n enc=>cases hx;exact .slNil n enc none
 | os n enc=>cases hr
 | rm ke ve=>cases hx;exact .rmNil ke ve
section
variable {P:Program} {B:Base} {tb:Tab} {Γ:Env} {H:Heap} {nl:Nat} {o:Oper}
theorem Eff1.seN (htb:Qn P tb) {α:Type} {T:TypeId} {x y:Operand} {l n i off:Nat} {enc:α→List AVal} {xs:List α} {z z':α} {A:AVal} {cs:List AVal} {e:TE} (ho:o.op=.store T x y) (hx:ev Γ x=some (.ep l n i off)) (hl:find H l=some (.val (.os n enc xs)))
  (hz:xs[i]?=some z) (hy:ev Γ y=some A) (hc:A.cells=some cs) (he:find tb T=some e) (hn:cs.length=e.n) (hle:(off+cs.length).ble (enc z).length=true) (h1:cs.all Wo=true) (hz':NlL (setCells (enc z) off cs) (enc z')) (hro:(enc z).all AVal.isRo=true) (hflat:∀x,(enc x).all AVal.isRo=true) (hd:o.dst=none):
  Eff1 P B Γ H nl o Γ (setH H l (.val (.os n enc (xs.set i z')))) nl (.fx [l] false):=Eff1.of_skip fun B hB β F a w hβ hf=>by
 obtain⟨dst,op,ty,pos,af,g⟩:=o
 simp only at ho hd;subst ho;subst hd
 obtain⟨b',o',len,cap',hb',hxv⟩:=(Q1 (a:=a) hf.env hx).ep_inv
 have hYd:=Q1 (a:=a) hf.env hy
 have hY:=hYd.cells hc
 have hle':=Nat.le_of_ble_eq_true hle
 obtain⟨F1,hF1,⟨v,hv,hon⟩,hset⟩:=hf.heap.set hl
 rw [hv] at hb';cases hb'
 have hfl:=hon.flat_of (fun x A h=>List.all_eq_true.1 (hflat x) A h)
 generalize hvv:Value.slice (some ⟨b',o',none⟩) len cap'=v at hfl
 cases hfl with
 | nil p h=>subst h;simp at hz
 | row b off2 cap c T' hFb hw hlen hcap hnn hr=>
  cases hvv
  have hi:=(List.getElem?_eq_some_iff.1 hz).1
  have hzl:=hnn i z hz
  have hle3:o'+i*n+n≤c.size:=by
   have:(i+1)*n≤cap'*n:=Nat.mul_le_mul_right _ (by omega)
   rw [Nat.succ_mul] at this;omega
  have hsz:(a.eval y).cells.size=e.n:=by rw [←hY.1];exact hn
  have hone:ones cs=true:=List.all_eq_true.2 (fun A hA=>Gt (List.all_eq_true.1 h1 A hA))
  have hone':=hY.ones hone
  have hcl:cs.length=(a.eval y).cells.toList.length:=by rw [hY.1];simp
  have hle2:o'+i*n+off+(a.eval y).cells.toList.length≤c.size:=by rw [←hcl];omega
  have hst:=run_storeCells_at (P:=P) b' (o'+i*n+off) T' (a.eval y).cells.toList 0 c w hw (by simpa using hle2) hone'
  simp only [Nat.add_zero] at hst
  generalize hc2:(c.toList.take (o'+i*n+off)++(a.eval y).cells.toList++c.toList.drop (o'+i*n+off+(a.eval y).cells.toList.length)).toArray=c2 at hst
  have hc2s:c2.size=c.size:=by rw [←hc2];simp only [List.size_toArray,List.length_append,List.length_take,List.length_drop,Array.length_toList];simp only [Array.length_toList] at hle2;omega
  have hrow:=setRow_heap w b' c c2 T' (0,0) hw
  have hcap0:∃k,cap'=k+1:=⟨cap'-1,by omega⟩
  have hhd:Mod β [l] b':=⟨l,by simp,_,hv,by obtain⟨k,rfl⟩:=hcap0;rfl⟩
  refine⟨w.setRow b' c2,β,F,?_,hβ,fun _ _ h=>h,fun l x b hl hx _=>?_,?_,Kc w b' c2 _ hhd⟩
  ·simp only [execOp,Instr.storeAt,hxv,Instr.sureAddr,Sem.run_bind,Sem.run_pure,Result.andThen_ok,storeVar,htb.size he]
   rw [Sem.run_ite,if_neg (by simp [hsz]),hst];rfl
  ·rw [List.getElem?_eq_none (by omega)] at hx;cases hx
  ·have hk:=Kc w b' c2 (fun x=>x=b') rfl
   have hM:∀x,x=b'→x<B.w0.heap.size→B.M x:=fun x hx hlt'=>by subst hx;exact (hf.own x (hF1 x hFb)).2 hlt'
   refine⟨hf.kp.trans hk hM,hf.ok,fun b hb=>by have:=hf.own b hb;exact⟨by simpa using this.1,this.2⟩,hset _ _ (fun b'' hb hn hlt=>setRow_other w b' b'' c2 (fun e=>hn (e▸hFb))) ⟨_,hv,?_⟩,hf.env,by simpa [Act.put] using hf.size,hf.defers,hf.pre⟩
   have:=On.flat (w0:=B.w0) (ok:=B.ok) (enc:=enc) (n:=n) (xs:=xs.set i z') (off:=o') (cap:=cap') (c:=c2) (F:=F1) hFb hrow (by simpa using hlen) (by rw [hc2s];exact hcap) (fun m u hu=>?_) (fun m j u A hu hA=>?_)
   ·simpa using this
   ·rw [List.getElem?_set] at hu
    split at hu
    ·cases hu;rw [←hz'.get.1,Xx];exact hzl
    ·exact hnn m u hu
   ·rw [←hc2,X8 _ _ _ hle2,←hcl]
    rw [List.getElem?_set] at hu
    by_cases e:i=m
    ·subst e
     rw [if_pos rfl] at hu;try rw [if_pos hi] at hu
     cases hu
     obtain⟨A0,hA0,hNl⟩:=hz'.get.2 j A hA
     refine hNl.ro (List.all_eq_true.1 (hflat z') A (List.mem_of_getElem? hA)) ?_
     clear hA
     have hA:=hA0
     rw [Gg _ _ _ _ hle'] at hA
     split at hA
     ·rename_i hj
      rw [if_pos (by omega)]
      have hd:=hY.2 _ _ hA
      have hro':=Wu (List.all_eq_true.1 h1 _ (List.mem_of_getElem? hA))
      have e2:o'+i*n+j-(o'+i*n+off)=j-off:=by omega
      rw [e2]
      have:=hd.ro_of hro'
      simpa [Array.getD_eq_getD_getElem?] using this
     ·rename_i hj
      have hjn:=(List.getElem?_eq_some_iff.1 hA).1
      rw [if_neg (by omega)]
      exact hr i j z _ hz hA
    ·rw [if_neg e] at hu
     have hjn:=(List.getElem?_eq_some_iff.1 hA).1
     rw [hnn m u hu] at hjn
     rw [if_neg ?_]
     ·exact hr m j u A hu hA
     ·intro hcond
      rcases Nat.lt_or_ge i m with h | h
      ·have:(i+1)*n≤m*n:=Nat.mul_le_mul_right _ h
       rw [Nat.succ_mul] at this;omega
      ·have:(m+1)*n≤i*n:=Nat.mul_le_mul_right _ (by omega)
       rw [Nat.succ_mul] at this;omega
end
end Go.Taq
