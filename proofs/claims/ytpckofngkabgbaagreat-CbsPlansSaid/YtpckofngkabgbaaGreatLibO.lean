/- The library of the generated walks, part O: maps: keys, finding, the entries. -/
import Derived.Test.YtpckofngkabgbaaGreatLibN
import Derived.Maps.RangeRun
set_option linter.unusedVariables false
namespace Go.Taq
open Go
open Go.ChangeMaps (setBlock)
/-! ## plain maps -/
section
variable {κ α:Type} [DecidableEq κ]
def lk:List (κ×α)→κ→Option α
 | [],_=>none
 | p :: r,k=>if p.1=k then some p.2 else lk r k
def upd:List (κ×α)→κ→α→List (κ×α)
 | [],k,y=>[(k,y)]
 | p :: r,k,y=>if p.1=k then (k,y) :: r else p :: upd r k y
def kidx:List κ→κ→Option Nat
 | [],_=>none
 | a :: r,k=>if a=k then some 0 else (kidx r k).map (· + 1)
theorem YS:∀(xs:List (κ×α)) (k:κ),match kidx (xs.map (·.1)) k with
  | none=>lk xs k=none∧∀p,p∈xs→p.1≠k
  | some i=>∃v,xs[i]?=some (k,v)∧lk xs k=some v
 | [],k=>by simp [kidx,lk]
 | p :: r,k=>by
  have ih:=YS r k
  simp only [List.map_cons,kidx]
  by_cases h:p.1=k
  ·rw [if_pos h];subst h;exact⟨p.2,by simp,by simp [lk]⟩
  ·rw [if_neg h]
   cases hk:kidx (r.map (·.1)) k with
   | none=>
    rw [hk] at ih
    exact⟨by simp [lk,h,ih.1],fun q hq=>by
     rcases List.mem_cons.1 hq with e | e
     ·subst e;exact h
     ·exact ih.2 q e⟩
   | some i=>
    rw [hk] at ih
    obtain⟨v,h1,h2⟩:=ih
    exact⟨v,by simpa using h1,by simp [lk,h,h2]⟩
theorem Z7:∀(xs:List (κ×α)) (k:κ) (y:α),(∀p,p∈xs→p.1≠k)→upd xs k y=xs++[(k,y)]
 | [],k,y,_=>rfl
 | p :: r,k,y,h=>by
  rw [upd,if_neg (h p (by simp)),Z7 r k y (fun q hq=>h q (by simp [hq]))];rfl
theorem ZS:∀(xs:List (κ×α)) (k:κ) (y:α) (i:Nat),kidx (xs.map (·.1)) k=some i→upd xs k y=xs.set i (k,y)
 | [],k,y,i,h=>by simp [kidx] at h
 | p :: r,k,y,i,h=>by
  simp only [List.map_cons,kidx] at h
  rw [upd]
  split at h
  ·rename_i e;cases h;rw [if_pos e];rfl
  ·rename_i e
   rw [if_neg e]
   cases hk:kidx (r.map (·.1)) k with
   | none=>rw [hk] at h;cases h
   | some j=>rw [hk] at h;cases h;rw [ZS r k y j hk];rfl
end
/-! ## keys -/
def EntK {κ:Type} (ke:κ→Value) (ks:List κ) (es:List MapEntry):Prop:=es.length=ks.length∧∀(i:Nat) (k:κ) (e:MapEntry),ks[i]?=some k→es[i]?=some e→e.key=ke k
structure KeyT (P:Program) (kt:TypeId) {κ:Type} [DecidableEq κ] (ke:κ→Value):Prop where
 chk:∀(b:Bool) (x:κ) (w:World),(Instr.checkKey b 10000 kt (ke x)).run P w=.ok () w
 fnd:∀(x:κ) (ks:List κ) (es:List MapEntry) (w:World),EntK ke ks es→(Instr.findKey kt (ke x) es).run P w=.ok ((kidx ks x).bind fun i=>(es[i]?).map fun e=>(i,e.val)) w
 same:∀x:κ,Instr.sameBits 10000 (ke x) (ke x)=true
section
variable {P:Program} {κ:Type} [DecidableEq κ] {ke:κ→Value}
omit [DecidableEq κ] in
theorem EntK.cons {k:κ} {ks:List κ} {e:MapEntry} {es:List MapEntry} (h:EntK ke (k :: ks) (e :: es)):e.key=ke k∧EntK ke ks es:=
 ⟨h.2 0 k e rfl rfl,by have:=h.1;simpa using this,fun i a b h1 h2=>h.2 (i+1) a b (by simpa using h1) (by simpa using h2)⟩
theorem Zv {kind:TypeDesc} {x:κ} (hs:∀k,Instr.sameNow kind (ke x) (ke k)=some (decide (k=x))):∀(ks:List κ) (es:List MapEntry) (n:Nat),EntK ke ks es →
  Instr.findNow kind (ke x) es n=some ((kidx ks x).bind fun i=>(es[i]?).map fun e=>(n+i,e.val))
 | [],[],n,_=>rfl
 | k :: ks,e :: es,n,h=>by
  obtain⟨h1,h2⟩:=h.cons
  rw [Instr.findNow,h1,hs k]
  by_cases hk:k=x
  ·simp [hk,kidx]
  ·simp only [hk,decide_false,kidx,if_false]
   rw [Zv hs ks es (n+1) h2]
   congr 1
   cases kidx ks x with
   | none=>rfl
   | some i=>simp [Nat.add_assoc,Nat.add_comm 1 i]
 | [],e :: es,n,h=>by have:=h.1;simp at this
 | k :: ks,[],n,h=>by have:=h.1;simp at this
theorem WD {kt:TypeId} {x:κ} {w:World} (hs:∀k,(Op.equal kt (ke x) (ke k)).run P w=.ok (decide (k=x)) w):∀(ks:List κ) (es:List MapEntry) (n:Nat),EntK ke ks es →
  (Instr.findAsking kt (ke x) es n).run P w=.ok ((kidx ks x).bind fun i=>(es[i]?).map fun e=>(n+i,e.val)) w
 | [],[],n,_=>rfl
 | k :: ks,e :: es,n,h=>by
  obtain⟨h1,h2⟩:=h.cons
  rw [Instr.findAsking,h1]
  simp only [Sem.run_bind,hs k,Result.andThen_ok]
  by_cases hk:k=x
  ·simp [hk,kidx]
  ·simp only [hk,decide_false,kidx,if_false]
   have:=WD hs ks es (n+1) h2
   simp only [Bool.false_eq_true,if_false]
   rw [this]
   congr 1
   cases kidx ks x with
   | none=>rfl
   | some i=>simp [Nat.add_assoc,Nat.add_comm 1 i]
 | [],e :: es,n,h=>by have:=h.1;simp at this
 | k :: ks,[],n,h=>by have:=h.1;simp at this
theorem Q3a (x a:ByteArray):(x == a)=decide (a=x):=by
 rw [beq_toListBytes,ByteArray.toList_eq,ByteArray.toList_eq]
 obtain⟨⟨x⟩⟩:=x
 obtain⟨⟨a⟩⟩:=a
 simp only [ByteArray.mk.injEq,Array.mk.injEq]
 rw [Bool.eq_iff_iff]
 simp only [beq_iff_eq,decide_eq_true_eq]
 exact eq_comm
theorem Q1F {x y:ByteArray}:seq x y=true↔x=y:=by
 unfold seq
 rw [beq_iff_eq]
 constructor
 ·intro h
  have:x.data.toList=y.data.toList:=by simpa [ByteArray.toList_eq] using h
  cases x;cases y;simp_all
 ·intro h;rw [h]
theorem KeyT.int {kt:TypeId} {k:IntKind} (h:P.underlying kt=some (.int k)):KeyT P kt (fun n:Int=>.int k n) where
 chk b x w:=Go.MapKept.run_checkKey h (by rfl) b 9999
 fnd x ks es w he:=by
  have:=Zv (kind:=.int k) (x:=x) (ke:=fun n:Int=>.int k n) (fun a=>by simp only [Instr.sameNow,if_true];congr 1;rw [Bool.eq_iff_iff];simp only [beq_iff_eq,decide_eq_true_eq];exact eq_comm) ks es 0 he
  simp [Instr.findKey,run_underlying h,this]
 same x:=by simp [Instr.sameBits]
theorem KeyT.str {kt:TypeId} (h:P.underlying kt=some .string):KeyT P kt (fun s:ByteArray=>.string s) where
 chk b x w:=Go.MapKept.run_checkKey h (by trivial) b 9999
 fnd x ks es w he:=by
  have:=Zv (kind:=.string) (x:=x) (ke:=fun s:ByteArray=>.string s) (fun a=>by simp only [Instr.sameNow];congr 1;exact Q3a _ _) ks es 0 he
  simp [Instr.findKey,run_underlying h,this]
 same x:=by simp only [Instr.sameBits];rw [Q3a];simp
def Q3p:Value→Bool
 | .int _ _ | .bool _ | .string _=>true
 | _=>false
def Q1I:TI→Bool
 | .int _ | .bool | .str=>true
 | _=>false
theorem Q1Z (n:Nat) {v:Value} (h:Q3p v=true):Instr.sameBits n v v=true:=by
 cases v <;> first | (simp [Q3p] at h;done) | (simp [Instr.sameBits];done) | (simp only [Instr.sameBits];rw [Q3a];simp)
theorem KeyT.st {tb:Tab} (htb:QI P tb) {kt:TypeId} {fs:List (Nat×Nat)} {kc:κ→List Value} (hE:EqT P kt fs) (heq:∀x k,eqL tb fs ((kc x).map .v) ((kc k).map .v)=some (decide (k=x)))
  (hfs:fs.all (fun f=>match find tb f.2 with | some e=>Q1I e.ti | none=>false)=true) (hlen:∀x,fs.all (fun f=>f.1.blt (kc x).length)=true) (hp:∀x,(kc x).all Q3p=true):KeyT P kt (fun x:κ=>.agg (kc x).toArray) where
 chk b x w:=by
  show (Instr.checkKey b (9999+1) kt _).run P w=_
  unfold Instr.checkKey
  simp only [Sem.run_bind,run_underlying hE.hf,Result.andThen_ok]
  rw [←Array.forIn_toList]
  have key:∀f,f∈(P.fieldsOf kt).toList→(∃e,find tb f.type=some e∧Q1I e.ti=true)∧∃v,(kc x).toArray[f.offset]?=some v:=fun f hf=>by
   have hm:(f.offset,f.type)∈fs:=by rw [←hE.hfs];exact List.mem_map.2 ⟨f,hf,rfl⟩
   have h1:=List.all_eq_true.1 hfs _ hm
   have h2:=List.all_eq_true.1 (hlen x) _ hm
   refine⟨?_,?_⟩
   ·cases hfd:find tb f.type with
    | none=>simp [hfd] at h1
    | some e=>exact⟨e,rfl,by simpa [hfd] using h1⟩
   ·have:f.offset<(kc x).length:=by simpa [Nat.blt_eq] using h2
    exact⟨(kc x)[f.offset],by simp [this]⟩
  clear heq hfs hlen hE
  generalize (P.fieldsOf kt).toList=l at key ⊢
  induction l with
  | nil=>simp
  | cons f l ih=>
   obtain⟨⟨e,he,hpr⟩,v,hv⟩:=key f (by simp)
   have ih:=ih (fun g hg=>key g (by simp [hg]))
   have hagg:e.ti.agg=false:=by cases ht:e.ti <;> rw [ht] at hpr <;> simp [Q1I,TI.agg] at hpr ⊢
   have hpart:=Xs htb he hagg hv w
   obtain⟨dd,hdd,hfit⟩:=htb.und he
   have hck:(Instr.checkKey b 9999 f.type v).run P w=.ok () w:=by
    show (Instr.checkKey b (9998+1) f.type v).run P w=.ok () w
    unfold Instr.checkKey
    simp only [Sem.run_bind,run_underlying hdd,Result.andThen]
    cases ht:e.ti <;> rw [ht] at hpr hfit <;> simp [Q1I] at hpr <;> simp only [TI.fits] at hfit <;> subst hfit <;> rfl
   simp only [List.forIn_cons,Sem.run_bind,Sem.run_ite]
   split
   ·simp only [hpart,Result.andThen_ok,hck,Sem.run_pure]
    exact ih
   ·simp only [Sem.run_pure,Result.andThen_ok]
    exact ih
 fnd x ks es w he:=by
  cases ks with
  | nil=>
   have:es=[]:=List.eq_nil_of_length_eq_zero he.1
   subst this
   simp [Instr.findKey,run_underlying hE.hf,Instr.findNow,kidx]
  | cons k ks=>
   cases es with
   | nil=>have:=he.1;simp at this
   | cons e es=>
    have hn:∀(d:TypeDesc) (l:List MapEntry),d=.struct (P.fieldsOf kt)→Instr.findNow d (.agg (kc x).toArray) (e :: l) 0=none:=fun d l hd=>by
     subst hd;simp [Instr.findNow,Instr.sameNow]
    have:=WD (P:=P) (kt:=kt) (x:=x) (w:=w) (ke:=fun x:κ=>.agg (kc x).toArray) (fun a=>by
     have:=WA (d:=9998) htb (w0:=w) (ok:=fun _=>True) (β:=[]) (cs:=(kc x).map .v) (ds:=(kc a).map .v) (xs:=(kc x).toArray) (ys:=(kc a).toArray) (zc_dn _) (zc_dn _) w _ hE.hn (by rw [hE.hfs];exact heq x a)
     simp only [Op.equal,Op.maxDepth]
     rw [run_equalIn_struct w 9999 kt _ _ hE.hf hE.hp];exact this) (k :: ks) (e :: es) 0 he
    simp only [Instr.findKey,Sem.run_bind,run_underlying hE.hf,Result.andThen_ok,hn _ _ rfl]
    rw [this]
    simp
 same x:=by
  show Instr.sameBits (9999+1) _ _=true
  simp only [Instr.sameBits,beq_self_eq_true,Bool.true_and,List.all_eq_true]
  intro p hp'
  have:p.1=p.2∧p.1∈kc x:=by
   obtain⟨i,h1,h2⟩:=List.getElem_of_mem hp'
   simp at h2
   exact⟨by rw [←h2],by rw [←h2];simp⟩
  obtain⟨a,c⟩:=p
  simp only at this
  obtain⟨rfl,hm⟩:=this
  exact Q1Z _ (List.all_eq_true.1 (hp x) _ hm)
end
end Go.Taq
