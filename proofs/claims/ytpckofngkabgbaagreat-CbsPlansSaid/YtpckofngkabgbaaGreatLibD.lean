/- The library of the generated walks, part D: the operations. -/
import Derived.Test.YtpckofngkabgbaaGreatLibC
namespace Go.Taq
open Go
def idx {α:Type} (xs:List α) (i:Int):Option α:=if 0≤i then xs[i.toNat]? else none
def Q0J (tb:Tab) (H:Heap) (T:Nat) (X:AVal):Option (AVal×List Nat):=
 match find tb T with
 | none=>none
 | some e=>match X with
  | .p l off=>match find H l with
   | some (.box cells)=>if e.ti.agg then (if off+e.n≤cells.length then some (.agg ((cells.drop off).take e.n),[l]) else none)
     else match cells[off]? with
      | some A=>some (A,[l])
      | none=>none
   | _=>none
  | .rp cells=>if e.ti.agg then (if e.n≤cells.length then some (.agg (cells.take e.n),[]) else none)
    else match cells[0]? with
     | some A=>some (A,[])
     | none=>none
  | _=>none
section
variable {P:Program} {B:Base} {tb:Tab} {Γ:Env} {H:Heap} {nl:Nat} {o:Oper}
theorem Rd.p (htb:QI P tb) {A:AVal} (h:Wm tb Γ H o.op=some A):Rd P B Γ H nl o A none:=fun B hB β F a w _ hf=>by
 obtain⟨v,hv,hg⟩:=Q2t (w:=w) htb hf.env hf.heap h
 exact⟨v,hv,fun w' _=>hg o.dst o.type o.pos o.after o.guard w'⟩
theorem XB {w:World} {b:Nat} {c:Array Value} {T:TypeId} {z:Nat×Nat} (h:w.heap[b]?=some (.cells c T z)) {j:Nat} (hj:j<c.size):w.cell? ⟨b,j,none⟩=some (c.getD j undef):=by
 simp [World.cell?,h,Array.getD_eq_getD_getElem?,hj]
theorem XY (htb:QI P tb) {T:Nat} {e:TE} (he:find tb T=some e) {b off:Nat} {w:World} (f:Nat→Value) (h:∀j,j<e.n→w.cell? ⟨b,off+j,none⟩=some (f j)) (hagg:e.ti.agg=true):
  (loadVar T ⟨b,off,none⟩).run P w=.ok (.agg ((List.range e.n).map f).toArray) w:=by
 have hl:(loadCells ⟨b,off,none⟩ e.n).run P w=.ok ((List.range e.n).map f).toArray w:=run_loadCells w _ _ f (fun j hj=>by rw [Kx];exact h j hj)
 simp only [loadVar,Sem.run_bind,htb.isAgg he,hagg,Result.andThen_ok,if_true,htb.size he,hl,Sem.run_pure]
theorem XM (htb:QI P tb) {T:Nat} {e:TE} (he:find tb T=some e) {p:Addr} {w:World} {v:Value} (h:w.cell? p=some v) (hagg:e.ti.agg=false):
  (loadVar T p).run P w=.ok v w:=by
 simp [loadVar,htb.isAgg he,hagg,h]
theorem Dn.agg_of {w0:World} {ok:Nat→Prop} {β:List Value} {cs:List AVal} {n:Nat} {f:Nat→Value} (hn:cs.length=n) (h:∀(j:Nat) (A:AVal),cs[j]?=some A→Dn w0 ok β A (f j)):
  Dn w0 ok β (.agg cs) (.agg ((List.range n).map f).toArray):=by
 refine .agg _ _ (by simp [hn]) (fun j A hA=>?_)
 have hj:j<n:=by rw [←hn];exact (List.getElem?_eq_some_iff.1 hA).1
 simpa [Array.getD_eq_getD_getElem?,hj] using h j A hA
theorem Rd.l (htb:QI P tb) {T:TypeId} {x:Operand} {X A:AVal} {rl:List Nat} (ho:o.op=.load T x) (hx:ev Γ x=some X) (h:Q0J tb H T X=some (A,rl)):Rd P B Γ H nl o A (some rl):=fun B hB β F a w hβ hf=>by
 have hX:=Q5 (a:=a) hf.env hx
 obtain⟨dst,op,ty,pos,af,g⟩:=o
 simp only at ho;subst ho
 simp only [execOp,Instr.loadAt]
 unfold Q0J at h
 split at h
 ·cases h
 ·rename_i e he
  split at h
  ·rename_i l off
   obtain⟨b,hb,hy⟩:=hX.p_inv
   split at h
   ·rename_i cells hl
    obtain⟨F1,hF1,b',c,T',hb',hw,hs,hd,hFb⟩:=hf.heap.get hl
    rw [hb] at hb';cases hb'
    have hmod:∀w':World,(∀b,Mod β [l] b→w'.heap[b]?=w.heap[b]?)→w'.heap[b]?=some (.cells c T' (0,0)):=fun w' hw'=>by
     rw [hw' b ⟨l,by simp,_,hb,rfl⟩];exact hw
    split at h
    ·rename_i hagg
     split at h
     ·rename_i hle
      simp only [Option.some.injEq,Prod.mk.injEq] at h
      obtain⟨rfl,rfl⟩:=h
      refine⟨_,Dn.agg_of (n:=e.n) (f:=fun j=>c.getD (off+j) undef) (by simp;omega) (fun j A hA=>?_),fun w' ⟨_,hw'⟩=>?_⟩
      ·have hj:j<e.n:=by
        rcases Nat.lt_or_ge j e.n with h | h
        ·exact h
        ·simp [List.getElem?_take,Nat.not_lt.2 h] at hA
       rw [List.getElem?_take,if_pos hj,List.getElem?_drop] at hA
       exact hd _ _ hA
      ·rw [hy]
       simp only [Sem.run_bind,Instr.sureAddr,Sem.run_pure,Result.andThen_ok]
       rw [XY htb he (fun j=>c.getD (off+j) undef) (fun j hj=>XB (hmod w' hw') (by omega)) hagg]
       rfl
     ·cases h
    ·rename_i hagg
     split at h
     ·rename_i A' hA'
      simp only [Option.some.injEq,Prod.mk.injEq] at h
      obtain⟨rfl,rfl⟩:=h
      refine⟨_,hd _ _ hA',fun w' ⟨_,hw'⟩=>?_⟩
      have hlt:=(List.getElem?_eq_some_iff.1 hA').1
      rw [hs] at hlt
      rw [hy]
      simp only [Sem.run_bind,Instr.sureAddr,Sem.run_pure,Result.andThen_ok]
      rw [XM htb he (XB (hmod w' hw') hlt) (by simpa using hagg)]
      rfl
     ·cases h
   ·cases h
  ·rename_i cells
   obtain⟨b,off,f,hy,hok,hc,hr⟩:=hX.rp_inv
   have hcell:∀w':World,(∀b,B.ok b→w'.heap[b]?=w.heap[b]?)→∀(j:Nat) (A:AVal),cells[j]?=some A→w'.cell? ⟨b,off+j,none⟩=some (f j):=fun w' hw' j A hA=>by
    have h0:=hc j A hA
    have hb0:=hf.ok b hok
    rw [World.cell?_of_block (w:=w) (by show w'.heap[b]?=w.heap[b]?;exact hw' b hok),World.cell?_of_block (w:=B.w0) (by show w.heap[b]?=B.w0.heap[b]?;exact hf.kp.block b hb0.1 hb0.2)]
    exact h0
   split at h
   ·rename_i hagg
    split at h
    ·rename_i hle
     simp only [Option.some.injEq,Prod.mk.injEq] at h
     obtain⟨rfl,rfl⟩:=h
     refine⟨_,Dn.agg_of (n:=e.n) (f:=f) (by simp;omega) (fun j A hA=>?_),fun w' ⟨hw',_⟩=>?_⟩
     ·have hj:j<e.n:=by
       rcases Nat.lt_or_ge j e.n with h | h
       ·exact h
       ·simp [List.getElem?_take,Nat.not_lt.2 h] at hA
      rw [List.getElem?_take,if_pos hj] at hA
      exact .ro (hr _ _ hA)
     ·rw [hy]
      simp only [Sem.run_bind,Instr.sureAddr,Sem.run_pure,Result.andThen_ok]
      rw [XY htb he f (fun j hj=>hcell w' hw' j _ (List.getElem?_eq_getElem (by omega))) hagg]
      rfl
    ·cases h
   ·rename_i hagg
    split at h
    ·rename_i A' hA'
     simp only [Option.some.injEq,Prod.mk.injEq] at h
     obtain⟨rfl,rfl⟩:=h
     refine⟨_,.ro (hr _ _ hA'),fun w' ⟨hw',_⟩=>?_⟩
     have:=hcell w' hw' 0 _ hA'
     rw [hy]
     simp only [Sem.run_bind,Instr.sureAddr,Sem.run_pure,Result.andThen_ok]
     rw [XM htb he (by simpa using this) (by simpa using hagg)]
     rfl
    ·cases h
  ·cases h
theorem Rd.ix (htb:QI P tb) {α:Type} {t:TypeId} {x i:Operand} {n:Nat} {enc:α→List AVal} {xs:List α} {k:IntKind} {j:Int} {y:α} {e n' by_:Nat} {zc:List Value} {e':TE}
  (ho:o.op=.indexAddr t x i) (hx:ev Γ x=some (.sl n enc xs)) (hi:ev Γ i=some (.v (.int k j))) (ht:find tb t=some ⟨.sl e,n',by_,zc⟩) (he:find tb e=some e') (hn:e'.n=n) (hy:idx xs j=some y):
  Rd P B Γ H nl o (.rp (enc y)) none:=fun B hB β F a w hβ hf=>by
 obtain⟨dst,op,ty,pos,af,g⟩:=o
 simp only at ho;subst ho
 have hX:=(Q5 (a:=a) hf.env hx).sl_inv
 have hI:=(Q5 (a:=a) hf.env hi).v_inv
 obtain⟨d,hd,rfl⟩:=htb.und ht
 unfold idx at hy
 split at hy
 ·rename_i h0
  generalize hv:a.eval x=v at hX
  cases hX with
  | slNil=>simp at hy
  | sl _ _ _ b off cap f hb hcap hn' hc hr=>
   have hlt:=(List.getElem?_eq_some_iff.1 hy).1
   refine⟨.pointer (some ⟨b,off+j.toNat*n,none⟩),.ro (.rp (enc y) b (off+j.toNat*n) (f j.toNat) hb (fun m A hA=>hc _ _ _ _ hy hA) (fun m A hA=>hr _ _ _ _ hy hA)),fun w' _=>?_⟩
   have hj:0≤j∧j<(xs.length:Int):=⟨h0,by omega⟩
   simp [execOp,Instr.indexAt,hI,asIntOf,run_underlying hd,hv,hj,htb.size he,hn,Kx]
 ·cases hy
end
end Go.Taq
