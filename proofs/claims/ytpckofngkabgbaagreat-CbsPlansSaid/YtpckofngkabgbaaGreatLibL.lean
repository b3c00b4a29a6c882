/- The library of the generated walks, part L: append to nil, equality of structs, tests against nil, arrays in memory. -/
import Derived.Test.YtpckofngkabgbaaGreatLibK
import Derived.Laws.StructEq
set_option linter.unusedVariables false
namespace Go.Taq
open Go
theorem Yi {α:Type} {n:Nat} {enc:α→List AVal}:∀(xs:List α),(∀y,y∈xs→(enc y).length=n)→(xs.map enc).flatten.length=xs.length*n∧∀(m:Nat) (y:α),xs[m]?=some y→∀q,q<n→(xs.map enc).flatten[m*n+q]?=(enc y)[q]?
 | [],_=>by simp
 | x :: xs,hh=>by
  have hx0:=hh x (by simp)
  obtain⟨e1,e2⟩:=Yi xs (fun y hy=>hh y (by simp [hy]))
  refine⟨by simp only [List.map_cons,List.flatten_cons,List.length_append,e1,hx0,List.length_cons];rw [Nat.succ_mul];omega,fun m y hy q hq=>?_⟩
  cases m with
  | zero=>simp at hy;subst hy;simp only [Nat.zero_mul,Nat.zero_add,List.map_cons,List.flatten_cons];rw [List.getElem?_append_left (by omega)]
  | succ m=>
   simp only [List.map_cons,List.flatten_cons]
   rw [Nat.succ_mul,List.getElem?_append_right (by omega),show m*n+n+q-(enc x).length=m*n+q by omega]
   exact e2 m y (by simpa using hy) q hq
section
variable {P:Program} {B:Base} {tb:Tab} {Γ:Env} {H:Heap} {nl:Nat} {o:Oper}
/-! ## equality of structs of plain fields -/
def eqL (tb:Tab):List (Nat×Nat)→List AVal→List AVal→Option Bool
 | [],_,_=>some true
 | (off,u) :: r,cs,ds=>match find tb u with
  | some e=>match cs[off]?,ds[off]?,eqL tb r cs ds with
   | some (.v (.int k a)),some (.v (.int k' b)),some q=>if k=k' then (match e.ti with | .int _=>some ((a == b)&&q) | _=>none) else none
   | some (.v (.bool a)),some (.v (.bool b)),some q=>(match e.ti with | .bool=>some ((a == b)&&q) | _=>none)
   | some (.v (.string a)),some (.v (.string b)),some q=>(match e.ti with | .str=>some (seq a b&&q) | _=>none)
   | _,_,_=>none
  | none=>none
theorem Xs {t:TypeId} {e:TE} (htb:QI P tb) (he:find tb t=some e) (hagg:e.ti.agg=false) {xs:Array Value} {off:Nat} {v:Value} (h:xs[off]?=some v) (w:World):(part t xs off).run P w=.ok v w:=by
 simp [part,htb.isAgg he,hagg,h]
theorem WA (htb:QI P tb) {w0:World} {ok:Nat→Prop} {β:List Value} {d:Nat} {cs ds:List AVal} {xs ys:Array Value} (hx:DnL w0 ok β cs xs) (hy:DnL w0 ok β ds ys) (w:World):
  ∀ (fs : List Field), (fs.all fun f => f.name != "_") = true → ∀ {b : Bool}, eqL tb (fs.map fun f => (f.offset, f.type)) cs ds = some b → (Op.eqFields (d + 1) xs ys fs).run P w = .ok b w
 | [],_,b,h=>by simp only [List.map_nil,eqL,Option.some.injEq] at h;subst h;simp [Op.eqFields]
 | f :: fs,hn,b,h=>by
  simp only [List.all_cons,Bool.and_eq_true] at hn
  have hne : f.name ≠ "_" := by simpa using hn.1
  simp only [List.map_cons,eqL] at h
  split at h
  ·rename_i e he
   have get:∀{cs:List AVal} {vs:Array Value} {A:AVal},DnL w0 ok β cs vs→cs[f.offset]?=some A→∃v,vs[f.offset]?=some v∧Dn w0 ok β A v:=fun hd hA=>by
    have hlt:=(List.getElem?_eq_some_iff.1 hA).1
    rw [hd.1] at hlt
    refine⟨_,Array.getElem?_eq_getElem hlt,?_⟩
    have:=hd.2 _ _ hA
    simpa [Array.getD_eq_getD_getElem?,hlt] using this
   split at h
   ·rename_i k a k' b' q h1 h2 h3
    split at h
    ·rename_i hk;subst hk
     split at h
     ·rename_i k2 hti
      cases h
      obtain⟨v1,hv1,hd1⟩:=get hx h1
      obtain⟨v2,hv2,hd2⟩:=get hy h2
      have:=hd1.v_inv;subst this;have:=hd2.v_inv;subst this
      obtain⟨dd,hdd,hfit⟩:=htb.und he
      rw [hti] at hfit;cases hfit
      have ih:=WA (d:=d) htb hx hy w fs hn.2 h3
      rw [Op.eqFields,if_pos hne]
      simp only [Sem.run_bind,Xs htb he (by rw [hti];rfl) hv1,Xs htb he (by rw [hti];rfl) hv2,Result.andThen_ok,run_equalIn_int w d _ _ _ _ _ hdd]
      cases hab:(a == b') <;> simp [ih]
     ·cases h
    ·cases h
   ·rename_i a b' q h1 h2 h3
    split at h
    ·rename_i hti
     cases h
     obtain⟨v1,hv1,hd1⟩:=get hx h1
     obtain⟨v2,hv2,hd2⟩:=get hy h2
     have:=hd1.v_inv;subst this;have:=hd2.v_inv;subst this
     obtain⟨dd,hdd,hfit⟩:=htb.und he
     rw [hti] at hfit;cases hfit
     have ih:=WA (d:=d) htb hx hy w fs hn.2 h3
     rw [Op.eqFields,if_pos hne]
     simp only [Sem.run_bind,Xs htb he (by rw [hti];rfl) hv1,Xs htb he (by rw [hti];rfl) hv2,Result.andThen_ok,run_equalIn_bool' w d _ _ _ hdd]
     cases hab:(a == b') <;> simp [ih]
    ·cases h
   ·rename_i a b' q h1 h2 h3
    split at h
    ·rename_i hti
     cases h
     obtain⟨v1,hv1,hd1⟩:=get hx h1
     obtain⟨v2,hv2,hd2⟩:=get hy h2
     have:=hd1.v_inv;subst this;have:=hd2.v_inv;subst this
     obtain⟨dd,hdd,hfit⟩:=htb.und he
     rw [hti] at hfit;cases hfit
     have ih:=WA (d:=d) htb hx hy w fs hn.2 h3
     rw [Op.eqFields,if_pos hne]
     simp only [Sem.run_bind,Xs htb he (by rw [hti];rfl) hv1,Xs htb he (by rw [hti];rfl) hv2,Result.andThen_ok,run_equalIn_string w d _ _ _ hdd,seq]
     cases hab:(a.toList == b'.toList) <;> simp [ih]
    ·cases h
   ·cases h
  ·cases h
structure EqT (P:Program) (t:TypeId) (fs:List (Nat×Nat)):Prop where
 hp:P.stoodInHeld t=false
 hm:P.eqGuardType P.depth t=false
 hf:P.underlying t=some (.struct (P.fieldsOf t))
 hn : ((P.fieldsOf t).toList.all fun f => f.name != "_") = true
 hfs:(P.fieldsOf t).toList.map (fun f=>(f.offset,f.type))=fs
theorem Rd.eqs (htb:QI P tb) {op:BinOp} {t t':TypeId} {x y:Operand} {fs:List (Nat×Nat)} {cs ds:List AVal} {b:Bool} (hq:op=.eql) (ho:o.op=.binOp op t x y t') (hE:EqT P t fs) (hx:ev Γ x=some (.agg cs)) (hy:ev Γ y=some (.agg ds))
  (h:eqL tb fs cs ds=some b):Rd P B Γ H nl o (.v (.bool b)) none:=fun B hB β F ac w _ hf=>by
 obtain⟨dst,op',ty,pos,af,g⟩:=o
 simp only at ho;subst ho;subst hq
 obtain⟨vs,hv,hvl,hvd⟩:=(Q5 (a:=ac) hf.env hx).agg_inv
 obtain⟨us,hu,hul,hud⟩:=(Q5 (a:=ac) hf.env hy).agg_inv
 rw [←hE.hfs] at h
 refine⟨_,.ro (.v _),fun w' _=>?_⟩
 have:=WA (d:=9998) htb ⟨hvl,hvd⟩ ⟨hul,hud⟩ w' _ hE.hn h
 simp [execOp,hv,hu,run_eqGuard_agg w' .eql t x y vs us hE.hm,run_eql_struct,run_equalIn_struct w' 9999 t vs us hE.hf hE.hp,this]
end
end Go.Taq
