/- The library of the generated walks, part I: slices of the frame's own whose elements are plain, and parts of slices. -/
import Derived.Test.YtpckofngkabgbaaGreatLibH
import Derived.IntWalk
set_option linter.unusedVariables false
namespace Go.Taq
open Go
theorem On.flat {w0 w:World} {ok:Nat→Prop} {α:Type} {n:Nat} {enc:α→List AVal} {xs:List α} {b off cap:Nat} {c:Array Value} {T:TypeId} {F:Nat→Prop}
  (hb:F b) (hw:w.heap[b]?=some (.cells c T (0,0))) (hlen:xs.length≤cap) (hcap:off+cap*n≤c.size) (hn:∀(i:Nat) (x:α),xs[i]?=some x→(enc x).length=n)
  (hr:∀(i j:Nat) (x:α) (A:AVal),xs[i]?=some x→(enc x)[j]?=some A→Ro w0 ok A (c.getD (off+i*n+j) undef)):On w0 ok w (.os n enc xs) (.slice (some ⟨b,off,none⟩) xs.length cap) F:=
 .os n enc xs b off cap c T F (fun _ _ _=>False) hb hw hlen hcap hn (fun _ _ _ h=>h.elim) (fun _ _ _ _ _ h=>h.elim) (fun i j x A h1 h2=>.ro _ (hr i j x A h1 h2))
inductive Flat (w0:World) (ok:Nat→Prop) (w:World) {α:Type} (n:Nat) (enc:α→List AVal) (xs:List α) (F:Nat→Prop):Value→Prop where
 | nil (p:Option Addr) (h:xs=[]):Flat w0 ok w n enc xs F (.slice p 0 0)
 | row (b off cap:Nat) (c:Array Value) (T:TypeId) (hb:F b) (hw:w.heap[b]?=some (.cells c T (0,0))) (hlen:xs.length≤cap) (hcap:off+cap*n≤c.size)
   (hn:∀(i:Nat) (x:α),xs[i]?=some x→(enc x).length=n) (hr:∀(i j:Nat) (x:α) (A:AVal),xs[i]?=some x→(enc x)[j]?=some A→Ro w0 ok A (c.getD (off+i*n+j) undef)):Flat w0 ok w n enc xs F (.slice (some ⟨b,off,none⟩) xs.length cap)
theorem On.flat_of {w0 w:World} {ok:Nat→Prop} {α:Type} {n:Nat} {enc:α→List AVal} {xs:List α} {v:Value} {F:Nat→Prop} (h:On w0 ok w (.os n enc xs) v F) (hf:∀x A,A∈enc x→A.isRo=true):Flat w0 ok w n enc xs F v:=by
 cases h with
 | ro F h=>cases h
 | osNil n enc F p=>exact .nil p rfl
 | os n enc xs b off cap c T F G hb hw hlen hcap hn hG hd hr=>exact .row b off cap c T hb hw hlen hcap hn (fun i j x A h1 h2=>(hr i j x A h1 h2).ro_of (hf x A (List.mem_of_getElem? h2)))
theorem GX {α:Type} {n:Nat} {enc:α→List AVal}:∀(xs:List α),(∀y,y∈xs→(enc y).length=n)→(xs.map enc).flatten.length=xs.length*n∧∀(m:Nat) (y:α),xs[m]?=some y→∀q,q<n→(xs.map enc).flatten[m*n+q]?=(enc y)[q]?
 | [],_=>by simp
 | x :: xs,hh=>by
  have hx0:=hh x (by simp)
  obtain⟨e1,e2⟩:=GX xs (fun y hy=>hh y (by simp [hy]))
  refine⟨by simp only [List.map_cons,List.flatten_cons,List.length_append,e1,hx0,List.length_cons];rw [Nat.succ_mul];omega,fun m y hy q hq=>?_⟩
  cases m with
  | zero=>simp at hy;subst hy;simp only [Nat.zero_mul,Nat.zero_add,List.map_cons,List.flatten_cons];rw [List.getElem?_append_left (by omega)]
  | succ m=>
   simp only [List.map_cons,List.flatten_cons]
   rw [Nat.succ_mul,List.getElem?_append_right (by omega),show m*n+n+q-(enc x).length=m*n+q by omega]
   exact e2 m y (by simpa using hy) q hq
theorem Q2P {w0:World} {ok:Nat→Prop} {β:List Value} (len:Nat) (z:Value) (e':TE) (hzl:e'.zc.length=e'.n) (hzc:z.cells.toList=e'.zc):
  DnL w0 ok β ((List.replicate len (e'.zc.map AVal.v)).flatten) ((Array.range (len*e'.n)).map (fun i=>(if len*e'.n=0 then #[] else z.cells)[i % (if len*e'.n=0 then #[] else z.cells).size]!)):=by
 have hzs:z.cells.size=e'.n:=by rw [←hzl,←hzc];simp
 have hfl:=GX (enc:=fun (_:Nat)=>e'.zc.map AVal.v) (n:=e'.n) (List.replicate len 0) (fun _ _=>by simpa using hzl)
 have hmap:(List.replicate len 0).map (fun (_:Nat)=>e'.zc.map AVal.v)=List.replicate len (e'.zc.map AVal.v):=by simp
 rw [hmap] at hfl
 refine⟨by rw [hfl.1];simp,fun j A hA=>?_⟩
 have hj:=(List.getElem?_eq_some_iff.1 hA).1
 rw [hfl.1] at hj
 simp only [List.length_replicate] at hj
 have hn0:0<e'.n:=by rcases Nat.eq_zero_or_pos e'.n with h | h
                     ·rw [h] at hj;simp at hj
                     ·exact h
 have hlen0:¬len*e'.n=0:=by omega
 have hdiv:j / e'.n<len:=by rw [Nat.div_lt_iff_lt_mul hn0];exact hj
 have hq:=hfl.2 (j / e'.n) 0 (by simp [hdiv]) (j % e'.n) (Nat.mod_lt _ hn0)
 rw [Nat.mul_comm,Nat.div_add_mod] at hq
 rw [hq] at hA
 simp only [List.getElem?_map,Option.map_eq_some_iff] at hA
 obtain⟨u,hu,rfl⟩:=hA
 have hm:j % e'.n<z.cells.size:=by rw [hzs];exact Nat.mod_lt _ hn0
 have hu':z.cells[j % e'.n]?=some u:=by rw [←hu,←hzc];simp
 have:((Array.range (len*e'.n)).map (fun i=>(if len*e'.n=0 then #[] else z.cells)[i % (if len*e'.n=0 then #[] else z.cells).size]!)).getD j undef=u:=by
  simp only [if_neg hlen0,Array.getD_eq_getD_getElem?,Array.getElem?_map,Array.getElem?_range,hj,if_true,Option.map_some,Option.getD_some,hzs]
  rw [getElem!_pos z.cells (j % e'.n) hm]
  rw [Array.getElem?_eq_getElem hm] at hu'
  exact Option.some.inj hu'
 rw [this];exact .ro (.v u)
section
variable {P:Program} {B:Base} {tb:Tab} {Γ:Env} {H:Heap} {nl:Nat} {o:Oper}
theorem Eff1.row {α:Type} {n:Nat} {enc:α→List AVal} {xs:List α} {d:Nat} (hd:o.dst=some d) (hlt:d.blt B.n=true) (hn:∀y,y∈xs→(enc y).length=n)
  (h:∀B':Base,B'.n=B.n→∀β F a w,β.length=nl→KH B' β F Γ H a w→∃(c:Array Value) (T:TypeId) (cap:Nat) (dr:Nat),(execOp a.eval o).run P w=.ok (.value (.slice (some ⟨w.heap.size,0,none⟩) xs.length cap)) (({w with drawn:=dr}:World).alloc (.cells c T))∧w.drawn≤dr ∧
   xs.length≤cap∧cap*n≤c.size∧∀i j x A,xs[i]?=some x→(enc x)[j]?=some A→Ro B'.w0 B'.ok A (c.getD (i*n+j) undef)):
  Eff1 P B Γ H nl o ((d,.o nl) :: Γ) ((nl,.val (.os n enc xs)) :: H) (nl+1) (.fx [] false):=Eff1.of_value fun B hB β F a w hβ hf=>by
 rw [←hB] at hlt
 obtain⟨c,T,cap,dr,hrun,hdr,h1,h2,h3⟩:=h B hB β F a w hβ hf
 subst hβ
 have hk0:Kp w B.M {w with drawn:=dr}:=Kp.drew w B.M _ hdr
 have hf0:KH B β F Γ H a {w with drawn:=dr}:=⟨hf.kp.trans hk0 (fun _ h _=>h),hf.ok,hf.own,hf.heap.later (fun _ _ _=>rfl),hf.env,hf.size,hf.defers,hf.pre⟩
 have hk1:Kp w (Mod β []) (({w with drawn:=dr}:World).alloc (.cells c T)):=Kp.trans (Kp.drew w (Mod β []) dr hdr) (XH {w with drawn:=dr} (fun _=>False) (.cells c T)) (fun _ h _=>h.elim)
 refine⟨_,_,β++[.slice (some ⟨w.heap.size,0,none⟩) xs.length cap],(fun b=>F b∨b=w.heap.size),hrun,by simp,fun l x h=>Q8 h,fun l x b hl hx hb=>?_,?_,hk1⟩
 ·have:=GK rfl hl hx;subst this
  cases cap with
  | zero=>cases hb
  | succ cap=>cases hb;exact .inl (Nat.le_refl _)
 ·rw [hd]
  refine (KH.alloc hf0 (.cells c T) (.slice (some ⟨w.heap.size,0,none⟩) xs.length cap) (.val (.os n enc xs)) ⟨.slice (some ⟨w.heap.size,0,none⟩) xs.length cap,by simp,?_⟩).put hlt (.o _ (.slice (some ⟨w.heap.size,0,none⟩) xs.length cap) (by simp) rfl)
  exact On.flat rfl (heap_alloc_new _ _) h1 (by omega) (fun i x hx=>hn x (List.mem_of_getElem? hx)) (fun i j x A hx hA=>by rw [Nat.zero_add];exact h3 i j x A hx hA)
theorem Eff1.bs (htb:QI P tb) {α:Type} {t len:Nat} {parts:Array (Nat×Operand)} {n:Nat} {enc:α→List AVal} {xs:List α} {d:Nat} {e n' by_:Nat} {zc:List Value} {e':TE} {ps:List (Nat×AVal)} {cs:List AVal}
  (ho:o.op=.buildSlice t len parts) (hd:o.dst=some d) (hlt:d.blt B.n=true) (ht:find tb t=some ⟨.sl e,n',by_,zc⟩) (he:find tb e=some e') (hn:e'.n=n) (hl:xs.length=len) (hps:WZ Γ parts.toList=some ps)
  (hcs:fillA (fun i=>some (i*n,n)) ((List.replicate len (e'.zc.map AVal.v)).flatten) ps=some cs) (hxs:cs=(xs.map enc).flatten) (hlen:∀y,y∈xs→(enc y).length=n) (hro:cs.all AVal.isRo=true) (hsz:(len*n).ble 16777216=true):
  Eff1 P B Γ H nl o ((d,.o nl) :: Γ) ((nl,.val (.os n enc xs)) :: H) (nl+1) (.fx [] false):=Eff1.row hd hlt hlen fun B hB β F a w hβ hf=>by
 obtain⟨dst,op,ty,pos,af,g⟩:=o
 simp only at ho;subst ho;subst hn
 obtain⟨e1,e2⟩:=WE (a:=a) hf.env hps
 obtain⟨dd,hdd,rfl⟩:=htb.und ht
 obtain⟨z,hz,hzc,_,hzl,_⟩:=htb.zero he
 have hzs:z.cells.size=e'.n:=by rw [←hzl,←hzc];simp
 have hz':(if len*e'.n=0 then (pure #[]:Sem (Array Value)) else do pure (←zeroValue e).cells).run P w=.ok (if len*e'.n=0 then #[] else z.cells) w:=by
  split
  ·rfl
  ·simp [hz]
 have hzero:=Q2P (w0:=B.w0) (ok:=B.ok) (β:=β) len z e' hzl hzc
 obtain⟨zs,hfill,hdn⟩:=YJ (place:=fun i=>some (i*e'.n,e'.n)) (us:=(parts.toList.map fun (i,x)=>(i,a.eval x))) hzero (by simpa using e1) e2 hcs
 refine⟨zs,e,len,w.drawn,?_,Nat.le_refl _,by omega,?_,fun i j x A hx hA=>?_⟩
 ·have hp:parts.map (fun x=>(x.fst,a.eval x.snd))=(parts.toList.map fun (i,x)=>(i,a.eval x)).toArray:=by apply Array.toList_inj.1;simp
  have hle:¬len*e'.n>2 ^ 24:=by have:=Nat.le_of_ble_eq_true hsz;omega
  have hf2:Instr.fill (fun i=>some (i*e'.n,e'.n)) ((Array.range (len*e'.n)).map (fun i=>(if len*e'.n=0 then #[] else z.cells)[i % (if len*e'.n=0 then #[] else z.cells).size]!)) (List.map (fun x=>(x.fst,a.eval x.snd)) parts.toList)=some zs:=hfill
  simp only [execOp,Sem.run_bind,Instr.buildSlice,run_underlying hdd,Result.andThen_ok,htb.size he,Sem.run_ite,if_neg hle,Sem.run_pure,hp]
  by_cases h0:len*e'.n=0
  ·simp only [h0,if_true] at hf2 ⊢
   rw [hf2]
   simp [newRow,hl]
  ·simp only [if_neg h0] at hf2 ⊢
   simp only [hz,Result.andThen_ok]
   rw [hf2]
   simp [newRow,hl]
 ·rw [←hdn.1,hxs,(GX xs hlen).1,hl];exact Nat.le_refl _
 ·have hj:j<e'.n:=by rw [←hlen x (List.mem_of_getElem? hx)];exact (List.getElem?_eq_some_iff.1 hA).1
  have hg:=(GX xs hlen).2 i x hx j hj
  have hA2:cs[i*e'.n+j]?=some A:=by rw [hxs,hg];exact hA
  have:=hdn.2 _ _ hA2
  have hroA:=List.all_eq_true.1 hro A (List.mem_of_getElem? hA2)
  exact this.ro_of hroA
theorem Eff1.mkb (bb:Nat) (htb:QI P tb) {α:Type} {t:TypeId} {x y:Operand} {n:Nat} {enc:α→List AVal} {z0:α} {d:Nat} {e n' by_:Nat} {zc:List Value} {e':TE} {k:Int}
  (ho:o.op=.makeSlice t x y) (hd:o.dst=some d) (hlt:d.blt B.n=true) (hx:ev Γ x=some (.v (.int .i64 k))) (hy:ev Γ y=some (.v (.int .i64 k))) (ht:find tb t=some ⟨.sl e,n',by_,zc⟩) (he:find tb e=some e') (hn:e'.n=n)
  (hz:enc z0=e'.zc.map AVal.v) (hby:e'.bytes.ble bb=true) (hk:0≤k∧k≤9007199254740992) (hkb:(bb:Int)*k≤281474976710656):
  Eff1 P B Γ H nl o ((d,.o nl) :: Γ) ((nl,.val (.os n enc (List.replicate k.toNat z0))) :: H) (nl+1) (.fx [] false):=Eff1.row hd hlt (fun y hy=>by
   rw [List.eq_of_mem_replicate hy,hz];obtain⟨z,_,_,_,hzl,_⟩:=htb.zero he;simpa [←hn] using hzl) fun B hB β F a w hβ hf=>by
 obtain⟨dst,op,ty,pos,af,g⟩:=o
 simp only at ho;subst ho;subst hn
 have e1:=(Q5 (a:=a) hf.env hx).v_inv
 have e2:=(Q5 (a:=a) hf.env hy).v_inv
 obtain⟨dd,hdd,rfl⟩:=htb.und ht
 obtain⟨zv,hzv,hzc,_,hzl,_⟩:=htb.zero he
 have hzs:zv.cells.size=e'.n:=by rw [←hzl,←hzc];simp
 obtain⟨_,inf,z2,hinf,_,hbytes,_⟩:=htb _ _ he
 have hby':=Nat.le_of_ble_eq_true hby
 have hwrap:IntKind.i64.wrap k=k:=IntWalk.i64_in _ (by omega)
 have hb2:(inf.bytes:Int)*k≤2 ^ 48:=by
  have h1:(inf.bytes:Int)≤bb:=by rw [hbytes];exact_mod_cast hby'
  have h2:(inf.bytes:Int)*k≤bb*k:=Int.mul_le_mul_of_nonneg_right h1 hk.1
  omega
 have hti:∀w,(typeInfo e).run P w=.ok inf w:=fun w=>by simp [typeInfo,hinf]
 have hc1:¬(k<0):=by omega
 have hc2:¬((inf.bytes:Int)*k>2 ^ 48):=by omega
 refine⟨(Array.range (k.toNat*e'.n)).map (fun i=>(if k.toNat*e'.n=0 then #[] else zv.cells)[i % (if k.toNat*e'.n=0 then #[] else zv.cells).size]!),e,k.toNat,w.drawn,?_,Nat.le_refl _,by simp,by simp,fun i j u A hu hA=>?_⟩
 ·simp only [execOp,Sem.run_bind,Instr.makeSlice,run_underlying hdd,Result.andThen_ok,e1,e2,asInt,asIntOf,Sem.run_pure,hti,hwrap]
  simp only [hc1,hc2,decide_false,Bool.or_self,Bool.false_eq_true,Int.lt_irrefl,gt_iff_lt,if_false]
  rw [Sem.run_bind,run_askRoom,Result.andThen_ok,Sem.run_bind,htb.size he,Result.andThen_ok]
  by_cases h0:k.toNat*e'.n=0
  ·simp [h0,newRow]
  ·simp [h0,newRow,hzv]
 ·have hr:=Q2P (w0:=B.w0) (ok:=B.ok) (β:=β) k.toNat zv e' hzl hzc
  have hlen:∀y,y∈List.replicate k.toNat z0→(enc y).length=e'.n:=fun y hy=>by rw [List.eq_of_mem_replicate hy,hz];simpa using hzl
  have hj:j<e'.n:=by rw [←hlen u (List.mem_of_getElem? hu)];exact (List.getElem?_eq_some_iff.1 hA).1
  have hg:=(GX _ hlen).2 i u hu j hj
  have hm:(List.replicate k.toNat z0).map enc=List.replicate k.toNat (e'.zc.map AVal.v):=by simp [hz]
  rw [hm] at hg
  have:=hr.2 (i*e'.n+j) A (by rw [hg];exact hA)
  refine this.ro_of ?_
  have hu2:u=z0:=List.eq_of_mem_replicate (List.mem_of_getElem? hu)
  rw [hu2,hz] at hA
  simp only [List.getElem?_map,Option.map_eq_some_iff] at hA
  obtain⟨q,_,rfl⟩:=hA;rfl
theorem Eff1.mk (htb:QI P tb) {α:Type} {t:TypeId} {x y:Operand} {n:Nat} {enc:α→List AVal} {z0:α} {d:Nat} {e n' by_:Nat} {zc:List Value} {e':TE} {k:Int}
  (ho:o.op=.makeSlice t x y) (hd:o.dst=some d) (hlt:d.blt B.n=true) (hx:ev Γ x=some (.v (.int .i64 k))) (hy:ev Γ y=some (.v (.int .i64 k))) (ht:find tb t=some ⟨.sl e,n',by_,zc⟩) (he:find tb e=some e') (hn:e'.n=n)
  (hz:enc z0=e'.zc.map AVal.v) (hby:e'.bytes.ble 128=true) (hk:0≤k∧k≤1099511627776):
  Eff1 P B Γ H nl o ((d,.o nl) :: Γ) ((nl,.val (.os n enc (List.replicate k.toNat z0))) :: H) (nl+1) (.fx [] false):=
 Eff1.mkb 128 htb ho hd hlt hx hy ht he hn hz hby ⟨hk.1,by omega⟩ (by omega)
def repH:Heap→Nat→Nat→Res→Heap
 | [],_,_,_=>[]
 | (k,S) :: H,l,l',R=>bif k.beq l then (l',R) :: H else (k,S) :: repH H l l' R
theorem HOk.rep {w0 w w':World} {ok:Nat→Prop} {β β':List Value} (hβ:∀(l:Nat) (x:Value),β[l]?=some x→β'[l]?=some x) {l l':Nat} {R R':Res} (N:Nat→Prop):∀{H:Heap} {F:Nat→Prop},HOk w0 ok β w H F→find H l=some R →
  (∀F1:Nat→Prop,(∀b,F1 b→F b)→Xb w0 ok β w l F1 R→Xb w0 ok β' w' l' (fun b=>F1 b∨N b) R'∧∀b,b<w.heap.size→¬F1 b→w'.heap[b]?=w.heap[b]?) →
  (∀b,N b→¬F b)→(∀b,F b→b<w.heap.size)→(∀S k F1,Xb w0 ok β w k F1 S→Xb w0 ok β' w k F1 S)→HOk w0 ok β' w' (repH H l l' R') (fun b=>F b∨N b)
 | [],_,_,h,_,_,_,_=>by simp [find] at h
 | (k,S) :: H,F,⟨F1,F2,h1,h2,h12,hR,hH⟩,hl,hk,hN,hF,hmono=>by
  rw [find_cons] at hl
  rw [repH]
  by_cases e:k=l
  ·subst e
   rw [if_pos rfl] at hl;cases hl
   simp only [Nat.beq_refl,cond_true]
   obtain⟨g1,g2⟩:=hk F1 h1 hR
   have hmH:∀{H:Heap} {F:Nat→Prop},HOk w0 ok β w H F→HOk w0 ok β' w H F:=fun {H}=>by
    induction H with
    | nil=>exact fun _=>trivial
    | cons x H ih=>intro F ⟨A,C,a1,a2,a3,a4,a5⟩;exact⟨A,C,a1,a2,a3,hmono _ _ _ a4,ih a5⟩
   exact⟨fun b=>F1 b∨N b,F2,fun b hb=>hb.imp (h1 b) id,fun b hb=>.inl (h2 b hb),fun b hb hb'=>hb.elim (fun h=>h12 b h hb') (fun h=>hN b h (h2 b hb')),g1,
    (hmH hH).later (fun b hb hlt=>g2 b hlt (fun h=>h12 b h hb))⟩
  ·rw [if_neg e] at hl
   have hb:k.beq l=false:=by cases hb:k.beq l with
    | false=>rfl
    | true=>exact absurd (Nat.eq_of_beq_eq_true hb) e
   simp only [hb,cond_false]
   refine⟨F1,fun b=>F2 b∨N b,fun b hb=>.inl (h1 b hb),fun b hb=>hb.imp (h2 b) id,fun b hb hb'=>hb'.elim (fun h=>h12 b hb h) (fun h=>hN b h (h1 b hb)),?_,HOk.rep hβ N hH hl (fun G1 hG1 hR1=>hk G1 (fun b hb=>h2 b (hG1 b hb)) hR1) (fun b hb h=>hN b hb (h2 b h)) (fun b hb=>hF b (h2 b hb)) hmono⟩
   obtain⟨G,hG,hGR⟩:=hH.get hl
   obtain⟨_,g2⟩:=hk G (fun b hb=>h2 b (hG b hb)) hGR
   exact (hmono _ _ _ hR).later (fun b hb hlt=>g2 b hlt (fun h=>h12 b hb (hG b h)))
structure Src (w0:World) (ok:Nat→Prop) (w:World) {α:Type} (n:Nat) (enc:α→List AVal) (ys:List α) (v:Value):Prop where
 h:∃(q:Option Addr) (c2:Nat) (news:List Value),v=.slice q ys.length c2∧news.length=ys.length*n∧(∀y,y∈ys→(enc y).length=n)∧(ys≠[]→∃p,q=some p∧∀(j:Nat) (u:Value),news[j]?=some u→w.cell? (p.add j)=some u) ∧
  ∀(i j:Nat) (y:α) (A:AVal),ys[i]?=some y→(enc y)[j]?=some A→Ro w0 ok A (news.getD (i*n+j) undef)
theorem Zn {q len n:Nat} (h:q<len*n):0<n∧q / n<len∧q % n<n∧q / n*n+q % n=q:=by
 have hn:0<n:=by
  rcases Nat.eq_zero_or_pos n with e | e
  ·rw [e] at h;simp at h
  ·exact e
 exact⟨hn,by rw [Nat.div_lt_iff_lt_mul hn];exact h,Nat.mod_lt _ hn,by rw [Nat.mul_comm];exact Nat.div_add_mod q n⟩
theorem Src.ro {w0 w:World} {ok:Nat→Prop} {α:Type} {n:Nat} {enc:α→List AVal} {ys:List α} {v:Value} (h:Ro w0 ok (.sl n enc ys) v) (hk:∀b,ok b→w.heap[b]?=w0.heap[b]?):Src w0 ok w n enc ys v:=by
 cases h with
 | slNil n enc p=>exact⟨p,0,[],rfl,by simp,by simp,fun h=>absurd rfl h,by simp⟩
 | sl n enc xs b off cap f hb hcap hn hc hr=>
  refine⟨some ⟨b,off,none⟩,cap,(List.range (ys.length*n)).map (fun q=>f (q / n) (q % n)),rfl,by simp,fun y hy=>?_,fun _=>⟨_,rfl,fun j u hu=>?_⟩,fun i j y A hy hA=>?_⟩
  ·obtain⟨i,hi⟩:=List.getElem?_of_mem hy;exact hn i y hi
  ·simp only [List.getElem?_map,Option.map_eq_some_iff] at hu
   obtain⟨q,hq,rfl⟩:=hu
   obtain⟨hj,rfl⟩:=List.getElem?_eq_some_iff.1 hq
   simp only [List.getElem_range]
   simp only [List.length_range] at hj
   obtain⟨h1,h2,h3,h4⟩:=Zn hj
   have hy:=List.getElem?_eq_getElem h2
   have hA:j % n<(enc ys[j / n]).length:=by rw [hn _ _ hy];exact h3
   have:=hc (j / n) (j % n) _ _ hy (List.getElem?_eq_getElem hA)
   rw [Nat.add_assoc,h4] at this
   rw [Kx,World.cell?_of_block (w:=w0) (by show w.heap[b]?=w0.heap[b]?;exact hk b hb)]
   exact this
  ·have hjn:j<n:=by rw [←hn i y hy];exact (List.getElem?_eq_some_iff.1 hA).1
   have hi:=(List.getElem?_eq_some_iff.1 hy).1
   have hlt:i*n+j<ys.length*n:=by
    have:(i+1)*n≤ys.length*n:=Nat.mul_le_mul_right _ hi
    rw [Nat.succ_mul] at this;omega
   have e1:(i*n+j) / n=i:=by rw [Nat.mul_comm,Nat.mul_add_div (by omega),Nat.div_eq_of_lt hjn];rfl
   have e2:(i*n+j) % n=j:=by rw [Nat.mul_comm,Nat.mul_add_mod];exact Nat.mod_eq_of_lt hjn
   have:((List.range (ys.length*n)).map (fun q=>f (q / n) (q % n))).getD (i*n+j) undef=f i j:=by
    simp [List.getD_eq_getElem?_getD,List.getElem?_range hlt,e1,e2]
   rw [this];exact hr i j y A hy hA
theorem Src.own {w0 w:World} {ok:Nat→Prop} {α:Type} {n:Nat} {enc:α→List AVal} {ys:List α} {v:Value} {F:Nat→Prop} (h:Flat w0 ok w n enc ys F v):Src w0 ok w n enc ys v:=by
 cases h with
 | nil p h=>subst h;exact⟨p,0,[],rfl,by simp,by simp,fun h=>absurd rfl h,by simp⟩
 | row b off cap c T hb hw hlen hcap hn hr=>
  have hsz:off+ys.length*n≤c.size:=by
   have:ys.length*n≤cap*n:=Nat.mul_le_mul_right _ hlen
   omega
  refine⟨some ⟨b,off,none⟩,cap,(c.toList.drop off).take (ys.length*n),rfl,by simp;omega,fun y hy=>?_,fun _=>⟨_,rfl,fun j u hu=>?_⟩,fun i j y A hy hA=>?_⟩
  ·obtain⟨i,hi⟩:=List.getElem?_of_mem hy;exact hn i y hi
  ·have hj:=(List.getElem?_eq_some_iff.1 hu).1
   simp only [List.length_take,List.length_drop,Array.length_toList] at hj
   rw [List.getElem?_take,if_pos (by omega),List.getElem?_drop] at hu
   rw [Kx]
   have:c[off+j]?=some u:=by simpa using hu
   simp [World.cell?,hw,this]
  ·have hjn:j<n:=by rw [←hn i y hy];exact (List.getElem?_eq_some_iff.1 hA).1
   have hi:=(List.getElem?_eq_some_iff.1 hy).1
   have hlt:i*n+j<ys.length*n:=by
    have:(i+1)*n≤ys.length*n:=Nat.mul_le_mul_right _ hi
    rw [Nat.succ_mul] at this;omega
   have:=hr i j y A hy hA
   have e:((c.toList.drop off).take (ys.length*n)).getD (i*n+j) undef=c.getD (off+i*n+j) undef:=by
    simp only [List.getD_eq_getElem?_getD,Array.getD_eq_getD_getElem?]
    rw [List.getElem?_take,if_pos hlt,List.getElem?_drop,Nat.add_assoc];simp
   rw [e];exact this
theorem Q0w {w:World} {α:Type} {n:Nat} {ys:List α} {q:Option Addr} {c2:Nat} {news:List Value} (hl:news.length=ys.length*n)
  (hq:ys≠[]→∃p,q=some p∧∀(j:Nat) (u:Value),news[j]?=some u→w.cell? (p.add j)=some u):(Builtin.firstCells n ys.length (.slice q ys.length c2)).run P w=.ok news.toArray w:=by
 by_cases h:ys=[]
 ·subst h
  have hz:news=[]:=List.eq_nil_of_length_eq_zero (by rw [hl];simp)
  subst hz
  cases q with
  | none=>simp [Builtin.firstCells]
  | some p=>simp [Builtin.firstCells,loadCells,loadCellsFrom]
 ·obtain⟨p,rfl,hp⟩:=hq h
  exact run_firstCells_some w n ys.length p _ c2 news hl hp
theorem Q3Z (x y:List Value) (j:Nat):(x++y).getD j undef=if j<x.length then x.getD j undef else y.getD (j-x.length) undef:=by
 simp only [List.getD_eq_getElem?_getD]
 split
 ·rename_i h;rw [List.getElem?_append_left h]
 ·rename_i h;rw [List.getElem?_append_right (by omega)]
def WX (A:AVal):Bool:=A.isRo&&A.one
theorem Y1 {A:AVal} (h:WX A=true):A.isRo=true:=by simp [WX] at h;exact h.1
theorem Ws {A:AVal} (h:WX A=true):A.one=true:=by simp [WX] at h;exact h.2
theorem WC {t ty e:TypeId} {inf:TypeInfo} (hdd:P.underlying t=some (.slice e)) (hinf:P.info? e=some inf) {w w':World} {p q:Option Addr} {n m cap c2:Nat} {news:List Value}
  (hle:n+m≤cap) (hf:(Builtin.firstCells inf.size m (.slice q m c2)).run P w=.ok news.toArray w) (hs:(match p with | some a=>storeCells (a.add (n*inf.size)) news | none=>pure ():Sem Unit).run P w=.ok () w'):
  (Builtin.append_ #[t,t] ty #[.slice p n cap,.slice q m c2]).run P w=.ok (.slice p (n+m) cap) w':=by
 cases p with
 | none=>
  simp only [Sem.run_pure,Result.ok.injEq,true_and] at hs;subst hs
  simp [Builtin.append_,run_underlying hdd,sizeOf,typeInfo,hinf,Builtin.lenOf,hle,hf]
 | some a=>
  simp only at hs
  simp [Builtin.append_,run_underlying hdd,sizeOf,typeInfo,hinf,Builtin.lenOf,hle,hf,hs]
theorem YO {t ty e:TypeId} {inf:TypeInfo} {z:Value} (hdd:P.underlying t=some (.slice e)) (hinf:P.info? e=some inf) (hz:inf.zero=some z) {w:World} {p q:Option Addr} {n m cap c2:Nat} {olds news:List Value}
  (hg:cap<n+m) (hlo:olds.length=n*inf.size) (holds:∀a,p=some a→∀j v,olds[j]?=some v→w.cell? (a.add j)=some v) (hp:p=none→n=0∧cap=0) {a:Addr} (hq:q=some a) (hl:news.length=m*inf.size) (hnews:∀j v,news[j]?=some v→w.cell? (a.add j)=some v)
  (hby:inf.bytes≤128) (hlen:n+m≤1099511627776):
  ∃cap',n+m≤cap'∧(Builtin.append_ #[t,t] ty #[.slice p n cap,.slice q m c2]).run P w=.ok (.slice (some ⟨w.heap.size,0,none⟩) (n+m) cap') (w.drew.alloc (.cells (olds.toArray++news.toArray++Builtin.zeroCells z.cells (cap'-(n+m))) e)):=by
 subst hq
 have hb:(n+m)*inf.bytes≤140737488355328:=by
  have:(n+m)*inf.bytes≤1099511627776*128:=Nat.mul_le_mul hlen hby
  omega
 cases p with
 | none=>
  obtain⟨rfl,rfl⟩:=hp rfl
  have ho:olds=[]:=List.eq_nil_of_length_eq_zero (by rw [hlo];simp)
  subst ho
  refine⟨grownCap w (0+m) 0 e,grownCap_ge _ _ _ _,?_⟩
  simp only [Nat.zero_add]
  have:=run_append_nil (P:=P) w t ty e inf z hdd hinf hz a m c2 news hl hnews (by omega) (by omega) (by simp at hb;omega)
  simpa using this
 | some b=>
  exact⟨grownCap w (n+m) cap e,grownCap_ge _ _ _ _,run_append_grow (P:=P) w t ty e inf z hdd hinf hz b n cap olds hlo (holds b rfl) a m c2 news hl hnews hg (by omega) (growslice_fits hg hb)⟩
theorem Flat.cells {w0 w:World} {ok:Nat→Prop} {α:Type} {n:Nat} {enc:α→List AVal} {xs:List α} {F:Nat→Prop} {v:Value} (h:Flat w0 ok w n enc xs F v):
  ∃(p:Option Addr) (cap:Nat) (olds:List Value),v=.slice p xs.length cap∧olds.length=xs.length*n∧(∀a,p=some a→∀j u,olds[j]?=some u→w.cell? (a.add j)=some u)∧(p=none→xs.length=0∧cap=0)∧xs.length≤cap∧(cap≠0→∃b off c T,p=some ⟨b,off,none⟩∧F b∧w.heap[b]?=some (.cells c T (0,0))∧off+cap*n≤c.size ∧
   ∀(i j:Nat) (x:α) (A:AVal),xs[i]?=some x→(enc x)[j]?=some A→Ro w0 ok A (c.getD (off+i*n+j) undef)) ∧
   (∀x,x∈xs→(enc x).length=n)∧∀(i j:Nat) (x:α) (A:AVal),xs[i]?=some x→(enc x)[j]?=some A→Ro w0 ok A (olds.getD (i*n+j) undef):=by
 cases h with
 | nil p h=>
  subst h
  exact⟨p,0,[],rfl,by simp,by simp,fun _=>⟨rfl,rfl⟩,by simp,by simp,by simp,by simp⟩
 | row b off cap c T hb hw hlen hcap hn hr=>
  have hle:xs.length*n≤cap*n:=Nat.mul_le_mul_right _ hlen
  refine⟨some ⟨b,off,none⟩,cap,(c.toList.drop off).take (xs.length*n),rfl,by simp;omega,fun a ha j u hu=>?_,by simp,hlen,fun _=>⟨b,off,c,T,rfl,hb,hw,hcap,hr⟩,fun x hx=>?_,fun i j y A hy hA=>?_⟩
  ·cases ha
   have hj:=(List.getElem?_eq_some_iff.1 hu).1
   simp only [List.length_take,List.length_drop,Array.length_toList] at hj
   rw [List.getElem?_take,if_pos (by omega),List.getElem?_drop] at hu
   rw [Kx]
   have:c[off+j]?=some u:=by simpa using hu
   simp [World.cell?,hw,this]
  ·obtain⟨i,hi⟩:=List.getElem?_of_mem hx;exact hn i x hi
  ·have hj:j<n:=by rw [←hn i y hy];exact (List.getElem?_eq_some_iff.1 hA).1
   have hi:=(List.getElem?_eq_some_iff.1 hy).1
   have hlt:i*n+j<xs.length*n:=by
    have:(i+1)*n≤xs.length*n:=Nat.mul_le_mul_right _ hi
    rw [Nat.succ_mul] at this;omega
   have:=hr i j y A hy hA
   have e:((c.toList.drop off).take (xs.length*n)).getD (i*n+j) undef=c.getD (off+i*n+j) undef:=by
    simp only [List.getD_eq_getElem?_getD,Array.getD_eq_getD_getElem?]
    rw [List.getElem?_take,if_pos hlt,List.getElem?_drop,Nat.add_assoc];simp
   rw [e];exact this
theorem Q3x {w0:World} {ok:Nat→Prop} {α:Type} {n:Nat} {enc:α→List AVal} {xs ys:List α} {olds news:List Value} (hlo:olds.length=xs.length*n) (hxn:∀x,x∈xs++ys→(enc x).length=n)
  (hr:∀(i j:Nat) (x:α) (A:AVal),xs[i]?=some x→(enc x)[j]?=some A→Ro w0 ok A (olds.getD (i*n+j) undef)) (hr2:∀(i j:Nat) (x:α) (A:AVal),ys[i]?=some x→(enc x)[j]?=some A→Ro w0 ok A (news.getD (i*n+j) undef)):
  ∀(i j:Nat) (x:α) (A:AVal),(xs++ys)[i]?=some x→(enc x)[j]?=some A→Ro w0 ok A ((olds++news).getD (i*n+j) undef):=fun i j x A hx hA=>by
 have hj:j<n:=by rw [←hxn x (List.mem_of_getElem? hx)];exact (List.getElem?_eq_some_iff.1 hA).1
 rw [Q3Z]
 rcases Nat.lt_or_ge i xs.length with hi | hi
 ·rw [List.getElem?_append_left hi] at hx
  have:(i+1)*n≤xs.length*n:=Nat.mul_le_mul_right _ hi
  rw [Nat.succ_mul] at this
  rw [if_pos (by rw [hlo];omega)]
  exact hr i j x A hx hA
 ·rw [List.getElem?_append_right hi] at hx
  have e1:i*n=xs.length*n+(i-xs.length)*n:=by rw [←Nat.add_mul];congr 1;omega
  rw [if_neg (by rw [hlo];omega),hlo]
  have e2:i*n+j-xs.length*n=(i-xs.length)*n+j:=by omega
  rw [e2]
  exact hr2 _ j x A hx hA
end
end Go.Taq
