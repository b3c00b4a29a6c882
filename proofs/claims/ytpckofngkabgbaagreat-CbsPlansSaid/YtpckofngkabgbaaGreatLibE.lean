/- The library of the generated walks, part E: operations with an effect on memory of the frame's own; calls. -/
import Derived.Test.YtpckofngkabgbaaGreatLibD
namespace Go.Taq
open Go
section
variable {P:Program} {B:Base} {tb:Tab} {Γ:Env} {H:Heap} {nl:Nat} {o:Oper}
theorem Eff1.of_value {Γ':Env} {H':Heap} {nl':Nat} {ms:List Nat}
  (h:∀B':Base,B'.n=B.n→∀β F a w,β.length=nl→KH B' β F Γ H a w→∃v w' β' F',(execOp a.eval o).run P w=.ok (.value v) w'∧β'.length=nl'∧(∀(l:Nat) (x:Value),β[l]?=some x→β'[l]?=some x) ∧
   (∀(l:Nat) (x:Value) (b:Nat),nl≤l→β'[l]?=some x→hdr x=some b→w.heap.size≤b∨Mod β ms b)∧KH B' β' F' Γ' H' (a.put o.dst v) w'∧Kp w (Mod β ms) w'):Eff1 P B Γ H nl o Γ' H' nl' (.fx ms false):=fun B hB β F a w hβ hf next Q hn=>by
 obtain⟨v,w',β',F',hr,h1,h2,h3,h4,h5⟩:=h B hB β F a w hβ hf
 unfold Oper.wp
 rw [hr,Oper.upon_value]
 exact hn ⟨⟩ trivial _ _ _ _ _ (.refl _) h1 h2 ⟨h3,h5,fun _ _ h=>h⟩ h4
theorem Eff1.of_skip {Γ':Env} {H':Heap} {nl':Nat} {ms:List Nat}
  (h:∀B':Base,B'.n=B.n→∀β F a w,β.length=nl→KH B' β F Γ H a w→∃w' β' F',(execOp a.eval o).run P w=.ok .skip w'∧β'.length=nl'∧(∀(l:Nat) (x:Value),β[l]?=some x→β'[l]?=some x) ∧
   (∀(l:Nat) (x:Value) (b:Nat),nl≤l→β'[l]?=some x→hdr x=some b→w.heap.size≤b∨Mod β ms b)∧KH B' β' F' Γ' H' (a.put o.dst undef) w'∧Kp w (Mod β ms) w'):Eff1 P B Γ H nl o Γ' H' nl' (.fx ms false):=fun B hB β F a w hβ hf next Q hn=>by
 obtain⟨w',β',F',hr,h1,h2,h3,h4,h5⟩:=h B hB β F a w hβ hf
 unfold Oper.wp
 rw [hr,Oper.upon_skip]
 exact hn ⟨⟩ trivial _ _ _ _ _ (.refl _) h1 h2 ⟨h3,h5,fun _ _ h=>h⟩ h4
theorem XH (w:World) (M:Nat→Prop) (x:Obj):Kp w M (w.alloc x):=⟨rfl,rfl,rfl,by simp,fun b hb _=>RowKit.Below.heap_alloc w x b hb,.refl _⟩
theorem KH.alloc {β:List Value} {F:Nat→Prop} {a:Act} {w:World} (h:KH B β F Γ H a w) (x:Obj) (v:Value) (R:Res)
  (hR:Xb B.w0 B.ok (β++[v]) (w.alloc x) β.length (fun b=>b=w.heap.size) R):
  KH B (β++[v]) (fun b=>F b∨b=w.heap.size) Γ ((β.length,R) :: H) a (w.alloc x):=by
 have hk:=XH w B.M x
 refine⟨h.kp.trans hk (fun _ h _=>h),h.ok,fun b hb=>?_,⟨fun b=>b=w.heap.size,F,fun b hb=>.inr hb,fun b hb=>.inl hb,fun b hb hb'=>?_,hR,?_⟩,fun t A hA=>(h.env t A hA).snoc v,h.size,h.defers,fun l x hl hx=>Q8 (h.pre l x hl hx)⟩
 ·rcases hb with hb | hb
  ·have:=h.own b hb;exact⟨by simp;omega,this.2⟩
  ·subst hb;exact⟨by simp,fun hlt=>by have:=h.kp.size;omega⟩
 ·have:=h.own b hb';omega
 ·exact (h.heap.later (fun b _ hlt=>RowKit.Below.heap_alloc w x b hlt)).snoc v
theorem GK {β:List Value} {v:Value} (hβ:β.length=nl) {l:Nat} {x:Value} (hl:nl≤l) (hx:(β++[v])[l]?=some x):x=v:=by
 rw [List.getElem?_append_right (by omega)] at hx
 have:l-β.length=0:=by
  rcases Nat.eq_zero_or_pos (l-β.length) with h | h
  ·exact h
  ·rw [List.getElem?_eq_none (by simp;omega)] at hx;cases hx
 rw [this] at hx;simpa using hx.symm
theorem Eff1.box {T:TypeId} {x:Operand} {A:AVal} {cs:List AVal} {d:Nat} (ho:o.op=.box T x) (hx:ev Γ x=some A) (hc:A.cells=some cs) (hd:o.dst=some d) (hlt:d.blt B.n=true):
  Eff1 P B Γ H nl o ((d,.p nl 0) :: Γ) ((nl,.box cs) :: H) (nl+1) (.fx [] false):=Eff1.of_value fun B hB β F a w hβ hf=>by
 rw [←hB] at hlt
 obtain⟨dst,op,ty,pos,af,g⟩:=o
 simp only at ho hd;subst ho;subst hd;subst hβ
 have hX:=Q5 (a:=a) hf.env hx
 have hcs:=hX.cells hc
 refine⟨.pointer (some ⟨w.heap.size,0,none⟩),w.alloc (.cells (a.eval x).cells T),β++[.pointer (some ⟨w.heap.size,0,none⟩)],_,?_,by simp,fun l x h=>Q8 h,fun l x b hl hx hb=>?_,
  (KH.alloc hf (.cells (a.eval x).cells T) (.pointer (some ⟨w.heap.size,0,none⟩)) (.box cs) ?_).put hlt ?_,?_⟩
 ·simp [execOp,Instr.box,newVar,newRow]
 ·have:=GK rfl hl hx;subst this;cases hb;exact .inl (Nat.le_refl _)
 ·refine⟨w.heap.size,(a.eval x).cells,T,by simp,heap_alloc_new w _,hcs.1,fun j A hA=>(hcs.2 j A hA).snoc _,rfl⟩
 ·exact .p _ _ _ (by simp)
 ·exact XH w _ _
theorem Eff1.al (htb:QI P tb) {T:TypeId} {e:TE} {d:Nat} (ho:o.op=.alloc T) (he:find tb T=some e) (hd:o.dst=some d) (hlt:d.blt B.n=true):
  Eff1 P B Γ H nl o ((d,.p nl 0) :: Γ) ((nl,.box (e.zc.map .v)) :: H) (nl+1) (.fx [] false):=Eff1.of_value fun B hB β F a w hβ hf=>by
 rw [←hB] at hlt
 obtain⟨dst,op,ty,pos,af,g⟩:=o
 simp only at ho hd;subst ho;subst hd;subst hβ
 obtain⟨z,hz,hzc,_,_,_⟩:=htb.zero he
 have hz':z.cells=e.zc.toArray:=by rw [←hzc]
 have hcs:DnL B.w0 B.ok β (e.zc.map .v) z.cells:=by rw [hz'];exact zc_dn e.zc
 refine⟨.pointer (some ⟨w.heap.size,0,none⟩),w.alloc (.cells z.cells T),β++[.pointer (some ⟨w.heap.size,0,none⟩)],_,?_,by simp,fun l x h=>Q8 h,fun l x b hl hx hb=>?_,
  (KH.alloc hf (.cells z.cells T) (.pointer (some ⟨w.heap.size,0,none⟩)) (.box (e.zc.map .v)) ?_).put hlt ?_,?_⟩
 ·simp [execOp,Instr.alloc,hz,newVar,newRow]
 ·have:=GK rfl hl hx;subst this;cases hb;exact .inl (Nat.le_refl _)
 ·exact⟨w.heap.size,z.cells,T,by simp,heap_alloc_new w _,hcs.1,fun j A hA=>(hcs.2 j A hA).snoc _,rfl⟩
 ·exact .p _ _ _ (by simp)
 ·exact XH w _ _
def setH:Heap→Nat→Res→Heap
 | [],_,_=>[]
 | (k,S) :: H,l,R=>bif k.beq l then (k,R) :: H else (k,S) :: setH H l R
theorem Za (k:Nat) (S:Res) (H:Heap) (l:Nat) (R:Res):setH ((k,S) :: H) l R=if k=l then (k,R) :: H else (k,S) :: setH H l R:=by
 rw [setH]
 by_cases h:k=l
 ·subst h;simp
 ·have:k.beq l=false:=by cases hb:k.beq l with
   | false=>rfl
   | true=>exact absurd (Nat.eq_of_beq_eq_true hb) h
  simp [this,h]
theorem HOk.set {w0 w:World} {ok:Nat→Prop} {β:List Value}:∀{H:Heap} {F:Nat→Prop},HOk w0 ok β w H F→∀{l:Nat} {R:Res},find H l=some R →
  ∃F1,(∀b,F1 b→F b)∧Xb w0 ok β w l F1 R∧∀(w':World) R',(∀b,F b→¬F1 b→b<w.heap.size→w'.heap[b]?=w.heap[b]?)→Xb w0 ok β w' l F1 R'→HOk w0 ok β w' (setH H l R') F
 | [],_,_,_,_,h=>by simp [find] at h
 | (k,S) :: H,F,⟨F1,F2,h1,h2,h12,hR,hH⟩,l,R,hl=>by
  rw [find_cons] at hl
  split at hl
  ·rename_i e;subst e;cases hl
   refine⟨F1,h1,hR,fun w' R' hw hR'=>?_⟩
   rw [Za,if_pos rfl]
   exact⟨F1,F2,h1,h2,h12,hR',hH.later (fun b hb hlt=>hw b (h2 b hb) (fun hb'=>h12 b hb' hb) hlt)⟩
  ·rename_i e
   obtain⟨G,g1,g2,g3⟩:=hH.set hl
   refine⟨G,fun b hb=>h2 b (g1 b hb),g2,fun w' R' hw hR'=>?_⟩
   rw [Za,if_neg e]
   refine⟨F1,F2,h1,h2,h12,hR.later (fun b hb hlt=>hw b (h1 b hb) (fun hb'=>h12 b hb (g1 b hb')) hlt),g3 w' R' (fun b hb hb' hlt=>hw b (h2 b hb) hb' hlt) hR'⟩
theorem Gc (c:Array Value) (off:Nat) (vs:List Value) (hle:off+vs.length≤c.size) (j:Nat):
  (c.toList.take off++vs++c.toList.drop (off+vs.length)).toArray.getD j undef=if off≤j∧j<off+vs.length then vs.getD (j-off) undef else c.getD j undef:=by
 simp only [Array.getD_eq_getD_getElem?,List.getElem?_toArray,List.getD_eq_getElem?_getD,List.append_assoc]
 have hl:(c.toList.take off).length=off:=by simp;omega
 by_cases h1:off≤j
 ·rw [List.getElem?_append_right (by rw [hl];exact h1),hl]
  by_cases h2:j<off+vs.length
  ·rw [if_pos ⟨h1,h2⟩,List.getElem?_append_left (by omega)]
  ·rw [if_neg (by omega),List.getElem?_append_right (by omega),List.getElem?_drop]
   have:off+vs.length+(j-off-vs.length)=j:=by omega
   rw [this];simp
 ·rw [if_neg (by omega),List.getElem?_append_left (by rw [hl];omega),List.getElem?_take,if_pos (by omega)]
  simp
theorem Wg:∀(ds:List AVal) (cs:List AVal) (off j:Nat),off+ds.length≤cs.length→(setCells cs off ds)[j]?=if off≤j∧j<off+ds.length then ds[j-off]? else cs[j]?
 | [],cs,off,j,_=>by rw [setCells,if_neg (by simp)]
 | x :: ds,cs,off,j,h=>by
  rw [setCells,Wg ds (cs.set off x) (off+1) j (by simp at h ⊢;omega)]
  simp only [List.length_cons] at h ⊢
  by_cases h1:off=j
  ·subst h1
   rw [if_neg (by omega),if_pos (by omega),List.getElem?_set_self (by omega)]
   simp
  ·by_cases h2:off+1≤j∧j<off+1+ds.length
   ·rw [if_pos h2,if_pos (by omega)]
    have:j-off=(j-(off+1))+1:=by omega
    rw [this,List.getElem?_cons_succ]
   ·rw [if_neg h2,if_neg (by omega),List.getElem?_set_ne h1]
theorem GU:∀(ds:List AVal) (cs:List AVal) (off:Nat),(setCells cs off ds).length=cs.length
 | [],_,_=>rfl
 | x :: ds,cs,off=>by rw [setCells,GU ds];simp
def ones (cs:List AVal):Bool:=cs.all AVal.one
theorem DnL.ones {w0:World} {ok:Nat→Prop} {β:List Value} {cs:List AVal} {vs:Array Value} (h:DnL w0 ok β cs vs) (h1:ones cs=true):∀v∈vs.toList,v.oneCell'=true:=by
 intro v hv
 obtain⟨j,hj,rfl⟩:=List.getElem_of_mem hv
 have hj':j<cs.length:=by rw [h.1];simpa using hj
 have:=h.2 j _ (List.getElem?_eq_getElem hj')
 have e:vs.getD j undef=vs.toList[j]:=by
  have hj2:j<vs.size:=by simpa using hj
  simp [Array.getD_eq_getD_getElem?,hj2]
 rw [e] at this
 exact this.one (List.all_eq_true.1 h1 _ (List.getElem_mem _))
theorem Xc (w:World) (g:Nat) (c:Array Value) (M:Nat→Prop) (hM:M g):Kp w M (w.setRow g c):=by
 refine⟨rfl,rfl,rfl,by simp [World.setRow],fun b _ hb=>?_,.refl _⟩
 simp only [World.setRow,Array.getElem?_modify]
 rw [if_neg (fun e=>hb (by rw [←e];exact hM))]
theorem Eff1.st (htb:QI P tb) {T:TypeId} {x y:Operand} {l off:Nat} {A:AVal} {cs cells:List AVal} {e:TE} (ho:o.op=.store T x y) (hx:ev Γ x=some (.p l off)) (hy:ev Γ y=some A) (hc:A.cells=some cs)
  (hl:find H l=some (.box cells)) (he:find tb T=some e) (hn:cs.length=e.n) (hle:(off+cs.length).ble cells.length=true) (h1:ones cs=true) (hd:o.dst=none):
  Eff1 P B Γ H nl o Γ (setH H l (.box (setCells cells off cs))) nl (.fx [l] false):=Eff1.of_skip fun B hB β F a w hβ hf=>by
 obtain⟨dst,op,ty,pos,af,g⟩:=o
 simp only at ho hd;subst ho;subst hd
 obtain⟨b,hb,hxv⟩:=(Q5 (a:=a) hf.env hx).p_inv
 have hY:=(Q5 (a:=a) hf.env hy).cells hc
 have hle':=Nat.le_of_ble_eq_true hle
 obtain⟨F1,hF1,⟨b',c,T',hb',hw,hs,hdn,hFb⟩,hset⟩:=hf.heap.set hl
 rw [hb] at hb';cases hb'
 have hlt:b<w.heap.size:=(hf.own b (hF1 b hFb)).1
 have hsz:(a.eval y).cells.size=e.n:=by rw [←hY.1];exact hn
 have hone:=hY.ones h1
 have hle2:off+(a.eval y).cells.toList.length≤c.size:=by simp;rw [hsz];omega
 have hst:=run_storeCells_at (P:=P) b off T' (a.eval y).cells.toList 0 c w hw (by simpa using hle2) hone
 simp only [Nat.add_zero] at hst
 generalize hc2:(c.toList.take off++(a.eval y).cells.toList++c.toList.drop (off+(a.eval y).cells.toList.length)).toArray=c2 at hst
 have hc2s:c2.size=c.size:=by rw [←hc2];simp only [List.size_toArray,List.length_append,List.length_take,List.length_drop,Array.length_toList];simp only [Array.length_toList] at hle2;omega
 have hrow:=setRow_heap w b c c2 T' (0,0) hw
 refine⟨w.setRow b c2,β,F,?_,hβ,fun _ _ h=>h,fun l x b hl hx _=>?_,?_,Xc w b c2 _ ⟨l,by simp,_,hb,rfl⟩⟩
 ·simp only [execOp,Instr.storeAt,hxv,Instr.sureAddr,Sem.run_bind,Sem.run_pure,Result.andThen_ok,storeVar,htb.size he]
  rw [Sem.run_ite,if_neg (by simp [hsz]),hst];rfl
 ·rw [List.getElem?_eq_none (by omega)] at hx;cases hx
 ·have hk:=Xc w b c2 (fun x=>x=b) rfl
  have hM:∀x,x=b→x<B.w0.heap.size→B.M x:=fun x hx hlt'=>by subst hx;exact (hf.own x (hF1 x hFb)).2 hlt'
  refine⟨hf.kp.trans hk hM,hf.ok,fun b hb=>by have:=hf.own b hb;exact⟨by simpa using this.1,this.2⟩,hset _ _ (fun b' hb' hn hlt=>setRow_other w b b' c2 (fun e=>hn (e▸hFb))) ?_,hf.env,by simpa [Act.put] using hf.size,hf.defers,hf.pre⟩
  refine⟨b,c2,T',hb,hrow,by rw [GU,hc2s];exact hs,fun j C hC=>?_,hFb⟩
  rw [Wg _ _ _ _ hle'] at hC
  rw [←hc2,Gc _ _ _ hle2]
  have hlen:cs.length=(a.eval y).cells.toList.length:=by rw [hY.1];simp
  rw [←hlen]
  split at hC
  ·rename_i hj
   rw [if_pos hj]
   have:=hY.2 _ _ hC
   simpa [Array.getD_eq_getD_getElem?] using this
  ·rename_i hj
   rw [if_neg hj]
   exact hdn _ _ hC
end
end Go.Taq
