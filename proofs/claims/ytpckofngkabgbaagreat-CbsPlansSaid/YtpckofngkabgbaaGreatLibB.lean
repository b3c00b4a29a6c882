/- The library of the generated walks, part B: the operations that touch no memory, evaluated on abstract values. -/
import Derived.Test.YtpckofngkabgbaaGreatLibA
namespace Go.Taq
open Go
inductive TI where
 | int (k:IntKind) | bool | str | sl (e:Nat) | mp (k e:Nat) | pt (e:Nat) | fn | st (fs:List (Nat×Nat)) | ar (len e:Nat) | ot
structure TE where
 ti:TI
 n:Nat
 bytes:Nat
 zc:List Value
def TI.fits:TI→TypeDesc→Prop
 | .int k,d=>d=.int k
 | .bool,d=>d=.bool
 | .str,d=>d=.string
 | .sl e,d=>d=.slice e
 | .mp k e,d=>d=.map k e
 | .pt e,d=>d=.pointer e
 | .fn,d=>∃a b c,d=.func a b c
 | .st fs,d=>∃f:Array Field,d=.struct f∧f.toList.map (fun x=>(x.offset,x.type))=fs
 | .ar l e,d=>d=.array l e
 | .ot,_=>False
def TI.agg:TI→Bool
 | .st _ | .ar _ _=>true
 | _=>false
def TEok (P:Program) (t:Nat) (e:TE):Prop:=
 (∃d,P.underlying t=some d∧e.ti.fits d)∧∃i z,P.info? t=some i∧i.size=e.n∧i.bytes=e.bytes∧i.zero=some z∧z.cells.toList=e.zc∧(e.ti.agg=true→∃cs,z=.agg cs)∧e.zc.length=e.n∧(∀x∈e.zc,x.oneCell'=true)
abbrev Tab:=List (Nat×TE)
def QI (P:Program) (tb:Tab):Prop:=∀t e,find tb t=some e→TEok P t e
theorem QI.nil {P:Program}:QI P []:=fun _ _ h=>by simp [find] at h
theorem QI.cons {P:Program} {tb:Tab} {t:Nat} {e:TE} (h:TEok P t e) (ht:QI P tb):QI P ((t,e) :: tb):=fun t' e' h'=>by
 rw [find_cons] at h'
 split at h'
 ·rename_i heq;subst heq;cases h';exact h
 ·exact ht _ _ h'
/-! ## the plain functions of integers -/
@[reducible] def w64 (n:Int):Int:=IntKind.wrap .i64 n
def band (k:IntKind) (x y:Int):Int:=k.wrap (BitVec.ofInt k.bits x &&& BitVec.ofInt k.bits y).toNat
def bor (k:IntKind) (x y:Int):Int:=k.wrap (BitVec.ofInt k.bits x ||| BitVec.ofInt k.bits y).toNat
def bxor (k:IntKind) (x y:Int):Int:=k.wrap (BitVec.ofInt k.bits x ^^^ BitVec.ofInt k.bits y).toNat
def Q5n (k:IntKind) (x y:Int):Int:=k.wrap (BitVec.ofInt k.bits x &&& ~~~ BitVec.ofInt k.bits y).toNat
def shrI (k:IntKind) (x y:Int):Int:=x.fdiv (2 ^ (min y.toNat k.bits))
def imax (x y:Int):Int:=if y>x then y else x
def imin (x y:Int):Int:=if y<x then y else x
def seq (x y:ByteArray):Bool:=x.toList == y.toList
def ev (Γ:Env):Operand→Option AVal
 | .tmp t=>find Γ t
 | .const v=>some (.v v)
 | .func f=>some (.fn (.func f) [] [])
 | .global _=>none
def evs (Γ:Env):List Operand→Option (List AVal)
 | []=>some []
 | x :: r=>match ev Γ x,evs Γ r with
  | some a,some l=>some (a :: l)
  | _,_=>none
def AVal.one:AVal→Bool
 | .v x=>x.oneCell'
 | .agg _ | .tup _ | .sv _=>false
 | _=>true
def AVal.cells:AVal→Option (List AVal)
 | .agg cs=>some cs
 | .v (.agg vs)=>some (vs.toList.map .v)
 | A=>if A.one then some [A] else none
def binA (op:BinOp) (x y:AVal):Option AVal:=
 match op,x,y with
 | .add,.v (.int k a),.v (.int k' b)=>if k=k' then some (.v (.int k (k.wrap (a+b)))) else none
 | .sub,.v (.int k a),.v (.int k' b)=>if k=k' then some (.v (.int k (k.wrap (a-b)))) else none
 | .mul,.v (.int k a),.v (.int k' b)=>if k=k' then some (.v (.int k (k.wrap (a*b)))) else none
 | .and,.v (.int k a),.v (.int k' b)=>if k=k' then some (.v (.int k (band k a b))) else none
 | .or,.v (.int k a),.v (.int k' b)=>if k=k' then some (.v (.int k (bor k a b))) else none
 | .xor,.v (.int k a),.v (.int k' b)=>if k=k' then some (.v (.int k (bxor k a b))) else none
 | .andNot,.v (.int k a),.v (.int k' b)=>if k=k' then some (.v (.int k (Q5n k a b))) else none
 | .eql,.v (.int k a),.v (.int k' b)=>if k=k' then some (.v (.bool (a == b))) else none
 | .neq,.v (.int k a),.v (.int k' b)=>if k=k' then some (.v (.bool (a != b))) else none
 | .lss,.v (.int k a),.v (.int k' b)=>if k=k' then some (.v (.bool (decide (a<b)))) else none
 | .leq,.v (.int k a),.v (.int k' b)=>if k=k' then some (.v (.bool (decide (a≤b)))) else none
 | .gtr,.v (.int k a),.v (.int k' b)=>if k=k' then some (.v (.bool (decide (a>b)))) else none
 | .geq,.v (.int k a),.v (.int k' b)=>if k=k' then some (.v (.bool (decide (a≥b)))) else none
 | .eql,.v (.string a),.v (.string b)=>some (.v (.bool (seq a b)))
 | .neq,.v (.string a),.v (.string b)=>some (.v (.bool !(seq a b)))
 | _,_,_=>none
def binB (op:BinOp) (x y:AVal):Option AVal:=
 match op,x,y with
 | .eql,.v (.bool a),.v (.bool b)=>some (.v (.bool (a == b)))
 | .neq,.v (.bool a),.v (.bool b)=>some (.v (.bool !(a == b)))
 | _,_,_=>none
def unA (op:UnOp) (x:AVal):Option AVal:=
 match op,x with
 | .neg,.v (.int k n)=>some (.v (.int k (k.wrap (0-n))))
 | .not,.v (.bool b)=>some (.v (.bool !b))
 | _,_=>none
def ZT (tb:Tab) (t k:Nat):Option (Nat×Nat):=
 match find tb t with
 | some ⟨.st fs,_,_,_⟩=>fs[k]?
 | _=>none
def AVal.addP:AVal→Nat→Option AVal
 | .p l off,k=>some (.p l (off+k))
 | .ep l n i off,k=>some (.ep l n i (off+k))
 | .rp cells,k=>some (.rp (cells.drop k))
 | _,_=>none
def setCells:List AVal→Nat→List AVal→List AVal
 | cs,_,[]=>cs
 | cs,off,x :: r=>setCells (cs.set off x) (off+1) r
def fillA (place:Nat→Option (Nat×Nat)) (cells:List AVal):List (Nat×AVal)→Option (List AVal)
 | []=>some cells
 | (i,v) :: rest=>
  match place i with
  | none=>none
  | some (off,size)=>match v.cells with
   | some vc=>if vc.length≠size||off+vc.length>cells.length then none else fillA place (setCells cells off vc) rest
   | none=>none
def WZ (Γ:Env):List (Nat×Operand)→Option (List (Nat×AVal))
 | []=>some []
 | (i,x) :: r=>match ev Γ x,WZ Γ r with
  | some a,some l=>some ((i,a) :: l)
  | _,_=>none
def ints:List AVal→Option (IntKind×List Int)
 | []=>none
 | [.v (.int k a)]=>some (k,[a])
 | .v (.int k a) :: r=>match ints r with
  | some (k',l)=>if k=k' then some (k,a :: l) else none
  | none=>none
 | _=>none
def Q2z (tb:Tab) (fs:List (Nat×Nat)) (i:Nat):Option (Nat×Nat):=
 match fs[i]? with
 | some (off,u)=>match find tb u with
  | some e=>some (off,e.n)
  | none=>none
 | none=>none
def Q27 (tb:Tab) (t:Nat):Option ((Nat→Option (Nat×Nat))×List Value):=
 match find tb t with
 | some ⟨.st fs,_,_,zc⟩=>if fs.all (fun x=>(find tb x.2).isSome) then some (Q2z tb fs,zc) else none
 | some ⟨.ar _ u,_,_,zc⟩=>match find tb u with
  | some e=>some (fun i=>some (i*e.n,e.n),zc)
  | none=>none
 | _=>none
def Wm (tb:Tab) (Γ:Env) (H:Heap) (o:Op):Option AVal:=
 match o with
 | .move x | .assign x=>ev Γ x
 | .binOp op t x y _=>match ev Γ x,ev Γ y with
  | some a,some b=>match find tb t with
   | some ⟨.bool,_,_,_⟩=>binB op a b
   | _=>binA op a b
  | _,_=>none
 | .unOp op _ x=>match ev Γ x with
  | some a=>unA op a
  | none=>none
 | .convert s d x=>match find tb s,find tb d,ev Γ x with
  | some ⟨.int _,_,_,_⟩,some ⟨.int k,_,_,_⟩,some (.v (.int _ n))=>some (.v (.int k (k.wrap n)))
  | _,_,_=>none
 | .fieldAddr t x k=>match ZT tb t k,ev Γ x with
  | some (off,u),some a=>match find tb u with
   | some e=>if e.n=0 then none else a.addP off
   | none=>none
  | _,_=>none
 | .field t x k=>match ZT tb t k,ev Γ x with
  | some (off,u),some (.agg cs)=>match find tb u with
   | some e=>if e.ti.agg then (if off+e.n≤cs.length then some (.agg ((cs.drop off).take e.n)) else none) else cs[off]?
   | none=>none
  | _,_=>none
 | .extract x i=>match ev Γ x with
  | some (.tup cs)=>cs[i]?
  | _=>none
 | .nilCheck x=>match ev Γ x with
  | some (.p l off)=>some (.p l off)
  | some (.rp cs)=>some (.rp cs)
  | some (.ep l n i off)=>some (.ep l n i off)
  | _=>none
 | .makeFunc f a b=>match evs Γ a.toList,evs Γ b.toList with
  | some a,some b=>some (.fn f a b)
  | _,_=>none
 | .build t parts=>match Q27 tb t,WZ Γ parts.toList with
  | some (pl,zc),some ps=>match fillA pl (zc.map .v) ps with
   | some cs=>some (.agg cs)
   | none=>none
  | _,_=>none
 | .call ⟨.builtin .max,args,_⟩=>match evs Γ args.toList with
  | some l=>match ints l with
   | some (k,a :: r)=>some (.v (.int k (r.foldl imax a)))
   | _=>none
  | none=>none
 | .call ⟨.builtin .min,args,_⟩=>match evs Γ args.toList with
  | some l=>match ints l with
   | some (k,a :: r)=>some (.v (.int k (r.foldl imin a)))
   | _=>none
  | none=>none
 | .call ⟨.builtin .len,args,ts⟩=>match args.toList,ts.toList with
  | [x],[t]=>match find tb t,ev Γ x with
   | some ⟨.sl _,_,_,_⟩,some (.sl _ _ xs)=>some (.i xs.length)
   | some ⟨.sl _,_,_,_⟩,some (.v (.slice none n _))=>some (.i n)
   | some ⟨.sl _,_,_,_⟩,some (.o l)=>match find H l with
    | some (.val (.os _ _ xs))=>some (.i xs.length)
    | _=>none
   | some ⟨.str,_,_,_⟩,some (.v (.string s))=>some (.i s.size)
   | some ⟨.ar n _,_,_,_⟩,some _=>some (.i n)
   | _,_=>none
  | _,_=>none
 | _=>none
/-! ## Soundness -/
section
variable {P:Program} {tb:Tab} {w0 w:World} {ok:Nat→Prop} {β:List Value} {Γ:Env} {H:Heap} {a:Act}
theorem Dn.v_inv {x y:Value} (h:Dn w0 ok β (.v x) y):y=x:=by
 cases h with
 | ro h=>cases h;rfl
theorem Dn.agg_inv {cs:List AVal} {y:Value} (h:Dn w0 ok β (.agg cs) y):∃vs:Array Value,y=.agg vs∧cs.length=vs.size∧∀(j:Nat) (A:AVal),cs[j]?=some A→Dn w0 ok β A (vs.getD j undef):=by
 cases h with
 | ro h=>cases h
 | agg cs vs hl h=>exact⟨vs,rfl,hl,h⟩
theorem Dn.tup_inv {cs:List AVal} {y:Value} (h:Dn w0 ok β (.tup cs) y):∃vs:Array Value,y=.tuple vs∧cs.length=vs.size∧∀(j:Nat) (A:AVal),cs[j]?=some A→Dn w0 ok β A (vs.getD j undef):=by
 cases h with
 | ro h=>cases h
 | tup cs vs hl h=>exact⟨vs,rfl,hl,h⟩
theorem Dn.p_inv {l off:Nat} {y:Value} (h:Dn w0 ok β (.p l off) y):∃b,β[l]?=some (.pointer (some ⟨b,0,none⟩))∧y=.pointer (some ⟨b,off,none⟩):=by
 cases h with
 | ro h=>cases h
 | p l off b h=>exact⟨b,h,rfl⟩
theorem Dn.ep_inv {l n i off:Nat} {y:Value} (h:Dn w0 ok β (.ep l n i off) y):∃b o len cap,β[l]?=some (.slice (some ⟨b,o,none⟩) len cap)∧y=.pointer (some ⟨b,o+i*n+off,none⟩):=by
 cases h with
 | ro h=>cases h
 | ep l n i off b o len cap h=>exact⟨b,o,len,cap,h,rfl⟩
theorem Dn.vw_inv {l n i m:Nat} {y:Value} (h:Dn w0 ok β (.vw l n i m) y):VwOk β l n i m y:=by
 cases h with
 | ro h=>cases h
 | vw l n i m x h=>exact h
theorem Dn.o_inv {l:Nat} {y:Value} (h:Dn w0 ok β (.o l) y):β[l]?=some y:=by
 cases h with
 | ro h=>cases h
 | o l x h _=>exact h
theorem Dn.one {A:AVal} {y:Value} (h:Dn w0 ok β A y) (h1:A.one=true):y.oneCell'=true:=by
 cases h with
 | ro h=>cases h <;> first | exact h1 | rfl | cases h1
 | o l x h h2=>exact h2
 | agg=>cases h1
 | tup=>cases h1
 | vw l n i m x h=>rcases h with ⟨_,p,c,rfl⟩ | ⟨_,b,o,len,cap,_,_,rfl⟩ <;> rfl
 | _=>rfl
theorem Value.cells_one {y:Value} (h:y.oneCell'=true):y.cells=#[y]:=by
 cases y <;> first | rfl | cases h
def DnL (w0:World) (ok:Nat→Prop) (β:List Value) (cs:List AVal) (vs:Array Value):Prop:=
 cs.length=vs.size∧∀(j:Nat) (A:AVal),cs[j]?=some A→Dn w0 ok β A (vs.getD j undef)
theorem Dn.cells {A:AVal} {y:Value} (h:Dn w0 ok β A y) {cs:List AVal} (hc:A.cells=some cs):DnL w0 ok β cs y.cells:=by
 have one:A.one=true→cs=[A]→DnL w0 ok β cs y.cells:=fun h1 e=>by
  subst e
  rw [Value.cells_one (h.one h1)]
  refine⟨rfl,fun j B hB=>?_⟩
  cases j with
  | zero=>simp at hB;subst hB;exact h
  | succ j=>simp at hB
 unfold AVal.cells at hc
 split at hc
 ·rename_i cs';cases hc
  obtain⟨vs,rfl,hl,hd⟩:=h.agg_inv
  exact⟨hl,hd⟩
 ·rename_i vs;cases hc
  have:=h.v_inv;subst this
  refine⟨by simp [Value.cells],fun j B hB=>?_⟩
  simp only [Value.cells,List.getElem?_map,Option.map_eq_some_iff] at hB ⊢
  obtain⟨u,hu,rfl⟩:=hB
  have:vs[j]?=some u:=by simpa using hu
  simp only [Array.getD_eq_getD_getElem?,this]
  exact .ro (.v u)
 ·split at hc
  ·rename_i h1;cases hc;exact one h1 rfl
  ·cases hc
theorem Dn.sl_inv {α:Type} {n:Nat} {enc:α→List AVal} {xs:List α} {y:Value} (h:Dn w0 ok β (.sl n enc xs) y):Ro w0 ok (.sl n enc xs) y:=by
 cases h with
 | ro h=>exact h
theorem Dn.rp_inv {cells:List AVal} {y:Value} (h:Dn w0 ok β (.rp cells) y):∃(b off:Nat) (f:Nat→Value),y=.pointer (some ⟨b,off,none⟩)∧ok b ∧
  (∀(j:Nat) (A:AVal),cells[j]?=some A→w0.cell? ⟨b,off+j,none⟩=some (f j))∧(∀(j:Nat) (A:AVal),cells[j]?=some A→Ro w0 ok A (f j)):=by
 cases h with
 | ro h=>cases h with
  | rp cells b off f hb hc hr=>exact⟨b,off,f,rfl,hb,hc,hr⟩
theorem Ro.sl_len {α:Type} {n:Nat} {enc:α→List AVal} {xs:List α} {y:Value} (h:Ro w0 ok (.sl n enc xs) y):∃p cap,y=.slice p xs.length cap:=by
 cases h with
 | slNil=>exact⟨_,_,rfl⟩
 | sl=>exact⟨_,_,rfl⟩
theorem On.os_len {α:Type} {n:Nat} {enc:α→List AVal} {xs:List α} {y:Value} {F:Nat→Prop} (h:On w0 ok w (.os n enc xs) y F):∃p cap,y=.slice p xs.length cap:=by
 cases h with
 | ro F h=>cases h
 | osNil=>exact⟨_,_,rfl⟩
 | os=>exact⟨_,_,rfl⟩
theorem HOk.get:∀{H:Heap} {F:Nat→Prop},HOk w0 ok β w H F→∀{l:Nat} {R:Res},find H l=some R→∃F1,(∀b,F1 b→F b)∧Xb w0 ok β w l F1 R
 | [],_,_,_,_,h=>by simp [find] at h
 | (l,R) :: H,F,⟨F1,F2,h1,h2,_,hR,hH⟩,l',R',h=>by
  rw [find_cons] at h
  split at h
  ·rename_i he;subst he;cases h;exact⟨F1,h1,hR⟩
  ·obtain⟨F3,h3,hR3⟩:=HOk.get hH h
   exact⟨F3,fun b hb=>h2 b (h3 b hb),hR3⟩
def WL (w0:World) (ok:Nat→Prop) (β:List Value) (Γ:Env) (a:Act):Prop:=∀t A,find Γ t=some A→Dn w0 ok β A (a.tmps.getD t undef)
theorem Q5 (hΓ:WL w0 ok β Γ a) {x:Operand} {A:AVal} (h:ev Γ x=some A):Dn w0 ok β A (a.eval x):=by
 cases x with
 | tmp t=>exact hΓ t A h
 | const v=>simp only [ev,Option.some.injEq] at h;subst h;exact .ro (.v v)
 | func f=>simp only [ev,Option.some.injEq] at h;subst h;exact .fn _ [] [] #[] #[] rfl (by simp) rfl (by simp)
 | global g=>simp [ev] at h
theorem Q2H {x:Operand} {r:List Operand} {l:List AVal} (h:evs Γ (x :: r)=some l):∃A l',ev Γ x=some A∧evs Γ r=some l'∧l=A :: l':=by
 simp only [evs] at h
 split at h
 ·rename_i A l' h1 h2;cases h;exact⟨A,l',h1,h2,rfl⟩
 ·cases h
theorem Q10:∀{xs:List Operand} {l:List AVal},evs Γ xs=some l→l.length=xs.length
 | [],l,h=>by simp only [evs,Option.some.injEq] at h;subst h;rfl
 | x :: r,l,h=>by obtain⟨A,l',h1,h2,rfl⟩:=Q2H h;simp [Q10 h2]
theorem Q3k (hΓ:WL w0 ok β Γ a):∀{xs:List Operand} {l:List AVal},evs Γ xs=some l→∀(j:Nat) (A:AVal),l[j]?=some A→∃x,xs[j]?=some x∧Dn w0 ok β A (a.eval x)
 | [],l,h,j,A,hA=>by simp only [evs,Option.some.injEq] at h;subst h;simp at hA
 | x :: r,l,h,j,A,hA=>by
  obtain⟨A',l',h1,h2,rfl⟩:=Q2H h
  cases j with
  | zero=>simp at hA;subst hA;exact⟨x,rfl,Q5 hΓ h1⟩
  | succ j=>obtain⟨y,hy,hd⟩:=Q3k hΓ h2 j A (by simpa using hA);exact⟨y,by simpa using hy,hd⟩
theorem Wy (hΓ:WL w0 ok β Γ a) {xs:Array Operand} {l:List AVal} (h:evs Γ xs.toList=some l):
  l.length=(xs.map a.eval).size∧∀(j:Nat) (A:AVal),l[j]?=some A→Dn w0 ok β A ((xs.map a.eval).getD j undef):=by
 refine⟨by simpa using Q10 h,fun j A hA=>?_⟩
 obtain⟨x,hx,hd⟩:=Q3k hΓ h j A hA
 have hx':xs[j]?=some x:=by simpa using hx
 simpa [Array.getD_eq_getD_getElem?,Array.getElem?_map,hx'] using hd
def Q4a (P:Program) (a:Act) (o:Op) (v:Value):Prop:=∀(dst:Option Tmp) (ty:TypeId) (pos:String) (af:Array Edge) (g:Option (Nat×Bool)) (w:World),
 (execOp a.eval ⟨dst,o,ty,pos,af,g⟩).run P w=.ok (.value v) w
theorem DnL.set {cs:List AVal} {vs:Array Value} (h:DnL w0 ok β cs vs) {A:AVal} {x:Value} (hA:Dn w0 ok β A x) (i:Nat):DnL w0 ok β (cs.set i A) (vs.setIfInBounds i x):=by
 obtain⟨hl,hd⟩:=h
 refine⟨by simpa using hl,fun j B hB=>?_⟩
 rw [List.getElem?_set] at hB
 split at hB
 ·rename_i e;subst e
  split at hB
  ·rename_i hlt;cases hB
   simp [Array.getD_eq_getD_getElem?,←hl,hlt];exact hA
  ·cases hB
 ·rename_i e
  have:=hd j B hB
  simpa [Array.getD_eq_getD_getElem?,Array.getElem?_setIfInBounds_ne e] using this
theorem DnL.setCells:∀{ds cs:List AVal} {us:List Value} {vs:Array Value} (off:Nat),DnL w0 ok β cs vs→DnL w0 ok β ds us.toArray →
  ∀k,DnL w0 ok β (Taq.setCells cs (off+k) ds) ((us.zipIdx k).foldl (fun cs (c,j)=>cs.setIfInBounds (off+j) c) vs)
 | [],cs,us,vs,off,h,hd,k=>by
  have:us=[]:=by have:=hd.1;simp at this;exact List.eq_nil_of_length_eq_zero this.symm
  subst this;simpa [Taq.setCells] using h
 | A :: ds,cs,us,vs,off,h,hd,k=>by
  obtain⟨u,us,rfl⟩:∃u us',us=u :: us':=by
   cases us with
   | nil=>have:=hd.1;simp at this
   | cons u us=>exact⟨u,us,rfl⟩
  have hu:Dn w0 ok β A u:=by have:=hd.2 0 A (by simp);simpa using this
  have hd':DnL w0 ok β ds us.toArray:=⟨by have:=hd.1;simpa using this,fun j B hB=>by have:=hd.2 (j+1) B (by simpa using hB);simpa using this⟩
  have:=DnL.setCells off (h.set hu (off+k)) hd' (k+1)
  simpa [Taq.setCells,List.zipIdx_cons,Nat.add_assoc] using this
theorem YJ {place:Nat→Option (Nat×Nat)}:∀{ps:List (Nat×AVal)} {us:List (Nat×Value)} {cs:List AVal} {vs:Array Value} {rs:List AVal},
  DnL w0 ok β cs vs→ps.length=us.length→(∀(k:Nat) (p:Nat×AVal),ps[k]?=some p→∃u,us[k]?=some (p.1,u)∧Dn w0 ok β p.2 u)→fillA place cs ps=some rs →
  ∃zs,Instr.fill place vs us=some zs∧DnL w0 ok β rs zs
 | [],us,cs,vs,rs,h,hl,hp,hf=>by
  have:us=[]:=by simp at hl;exact List.eq_nil_of_length_eq_zero hl.symm
  subst this
  simp only [fillA,Option.some.injEq] at hf;subst hf
  exact⟨vs,rfl,h⟩
 | (i,A) :: ps,us,cs,vs,rs,h,hl,hp,hf=>by
  obtain⟨u,hu0,hu⟩:=hp 0 (i,A) rfl
  obtain⟨us,rfl⟩:∃us',us=(i,u) :: us':=by
   cases us with
   | nil=>simp at hu0
   | cons x us=>simp at hu0;subst hu0;exact⟨us,rfl⟩
  simp only [fillA] at hf
  split at hf
  ·cases hf
  ·rename_i off size hpl
   split at hf
   ·rename_i vc hvc
    split at hf
    ·cases hf
    ·rename_i hcond
     have hcells:=hu.cells hvc
     have hc1:u.cells.size=size:=by simp at hcond;rw [←hcells.1];exact hcond.1
     have hc2:¬off+u.cells.size>vs.size:=by simp at hcond;rw [←hcells.1,←h.1];omega
     have hset:=DnL.setCells (ds:=vc) (us:=u.cells.toList) off h (by simpa using hcells) 0
     have:=YJ (place:=place) (us:=us) hset (by simpa using hl) (fun k p hk=>by
      obtain⟨u',h1,h2⟩:=hp (k+1) p (by simpa using hk)
      exact⟨u',by simpa using h1,h2⟩) hf
     obtain⟨zs,hz,hzs⟩:=this
     refine⟨zs,?_,hzs⟩
     unfold Instr.fill
     simp only [hpl]
     rw [if_neg (by simp [hc1];omega)]
     rw [←hz]
     congr 1
     rw [←Array.foldl_toList]
     simp
   ·cases hf
theorem Q30 {op:BinOp} {t t':TypeId} {x y:Operand} {A B C:AVal} (hA:Dn w0 ok β A (a.eval x)) (hB:Dn w0 ok β B (a.eval y)) (h:binA op A B=some C):
  ∃v,Dn w0 ok β C v∧Q4a P a (.binOp op t x y t') v:=by
 unfold binA at h
 split at h
 all_goals first
  | (cases h;done)
  | (have e1:=hA.v_inv;have e2:=hB.v_inv
     first
     | (split at h
        ·rename_i hk;subst hk;cases h
         refine⟨_,.ro (.v _),fun _ _ _ _ _ w=>?_⟩
         simp [execOp,e1,e2,eqGuard,binOp,Op.intArith,Op.intBits,Op.intCmp,band,bor,bxor,Q5n]
        ·cases h)
     | (cases h
        refine⟨_,.ro (.v _),fun _ _ _ _ _ w=>?_⟩
        simp [execOp,e1,e2,eqGuard,binOp,Op.stringOp,seq]))
theorem Q0O {t:TypeId} (ht:P.underlying t=some .bool) (p q:Bool) (w:World):(Op.equal t (.bool p) (.bool q)).run P w=.ok (p == q) w:=by
 have:∀d,(Op.equalIn (d+1) t (.bool p) (.bool q)).run P w=.ok (p == q) w:=fun d=>by
  unfold Op.equalIn
  simp [run_underlying ht]
 exact this 9999
theorem Q2Z {op:BinOp} {t t':TypeId} {x y:Operand} {A B C:AVal} (ht:P.underlying t=some .bool) (hA:Dn w0 ok β A (a.eval x)) (hB:Dn w0 ok β B (a.eval y)) (h:binB op A B=some C):
  ∃v,Dn w0 ok β C v∧Q4a P a (.binOp op t x y t') v:=by
 unfold binB at h
 split at h
 all_goals first
  | (cases h;done)
  | (have e1:=hA.v_inv;have e2:=hB.v_inv
     cases h
     refine⟨_,.ro (.v _),fun _ _ _ _ _ w=>?_⟩
     simp [execOp,e1,e2,eqGuard,binOp,Q0O ht])
theorem Q3I {op:UnOp} {t:TypeId} {x:Operand} {A C:AVal} (hA:Dn w0 ok β A (a.eval x)) (h:unA op A=some C):
  ∃v,Dn w0 ok β C v∧Q4a P a (.unOp op t x) v:=by
 unfold unA at h
 split at h
 all_goals first
  | (cases h;done)
  | (have e1:=hA.v_inv
     cases h
     refine⟨_,.ro (.v _),fun _ _ _ _ _ w=>?_⟩
     simp [execOp,e1,Op.unary,Op.intArith])
theorem QI.und (htb:QI P tb) {t:Nat} {e:TE} (h:find tb t=some e):∃d,P.underlying t=some d∧e.ti.fits d:=(htb t e h).1
theorem QI.size (htb:QI P tb) {t:Nat} {e:TE} (h:find tb t=some e) (w:World):(sizeOf t).run P w=.ok e.n w:=by
 obtain⟨_,i,z,hi,hn,_⟩:=htb t e h
 simp [sizeOf,typeInfo,hi,hn]
theorem QI.isAgg (htb:QI P tb) {t:Nat} {e:TE} (h:find tb t=some e) (w:World):(isAgg t).run P w=.ok e.ti.agg w:=by
 obtain⟨⟨d,hd,hf⟩,_⟩:=htb t e h
 obtain⟨ti,n,by_,zc⟩:=e
 cases ti <;> simp only [TI.fits] at hf <;> simp [Go.isAgg,run_underlying hd,TI.agg]
 all_goals first
  | (subst hf;simp;done)
  | (obtain⟨_,_,_,rfl⟩:=hf;simp;done)
  | (obtain⟨_,rfl,_⟩:=hf;simp;done)
theorem QI.zero (htb:QI P tb) {t:Nat} {e:TE} (h:find tb t=some e):∃z,(∀w,(zeroValue t).run P w=.ok z w)∧z.cells.toList=e.zc∧(e.ti.agg=true→∃cs,z=.agg cs)∧e.zc.length=e.n∧(∀x∈e.zc,x.oneCell'=true):=by
 obtain⟨_,i,z,hi,hn,_,hz,hc,ha,hl,ho⟩:=htb t e h
 exact⟨z,fun w=>by simp [zeroValue,typeInfo,hi,hz],hc,ha,hl,ho⟩
theorem Kx (b off k:Nat):(⟨b,off,none⟩:Addr).add k=⟨b,off+k,none⟩:=by
 unfold Addr.add;split
 ·rename_i h;subst h;rfl
 ·rfl
theorem AVal.addP_sound {A C:AVal} {y:Value} {k:Nat} (hA:Dn w0 ok β A y) (h:A.addP k=some C):∃b off,y=.pointer (some ⟨b,off,none⟩)∧Dn w0 ok β C (.pointer (some ⟨b,off+k,none⟩)):=by
 unfold AVal.addP at h
 split at h
 ·cases h;obtain⟨b,hb,rfl⟩:=hA.p_inv;exact⟨b,_,rfl,.p _ _ b hb⟩
 ·cases h;obtain⟨b,o,len,cap,hb,rfl⟩:=hA.ep_inv
  refine⟨b,_,rfl,?_⟩
  rw [Nat.add_assoc];exact .ep _ _ _ _ b o len cap hb
 ·cases h;rename_i cells _
  obtain⟨b,off,f,rfl,hok,hc,hr⟩:=hA.rp_inv
  refine⟨b,off,rfl,.ro (.rp _ b (off+k) (fun j=>f (k+j)) hok (fun j A hA=>?_) (fun j A hA=>?_))⟩
  ·rw [List.getElem?_drop] at hA;rw [Nat.add_assoc];exact hc _ A hA
  ·rw [List.getElem?_drop] at hA;exact hr _ A hA
 ·cases h
theorem Zq:∀{l:List AVal} {k:IntKind} {ns:List Int} {us:List Value},ints l=some (k,ns)→DnL w0 ok β l us.toArray→us=ns.map (.int k)
 | [],_,_,_,h,_=>by simp [ints] at h
 | [.v (.int k' a)],k,ns,us,h,hd=>by
  simp only [ints,Option.some.injEq,Prod.mk.injEq] at h
  obtain⟨rfl,rfl⟩:=h
  obtain⟨u,rfl⟩:∃u,us=[u]:=by
   have:=hd.1;simp at this
   match us,this with
   | [u],_=>exact⟨u,rfl⟩
  have:=(hd.2 0 _ rfl).v_inv
  simp at this;simp [this]
 | .v (.int k' a) :: B :: r,k,ns,us,h,hd=>by
  rw [ints] at h
  ·split at h
   ·rename_i k'' l' h2
    split at h
    ·rename_i e;subst e;simp only [Option.some.injEq,Prod.mk.injEq] at h;obtain⟨rfl,rfl⟩:=h
     obtain⟨u,us,rfl⟩:∃u us',us=u :: us':=by
      cases us with
      | nil=>have:=hd.1;simp at this
      | cons u us=>exact⟨u,us,rfl⟩
     have h1:=(hd.2 0 _ rfl).v_inv
     have hd':DnL w0 ok β (B :: r) us.toArray:=⟨by have:=hd.1;simpa using this,fun j C hC=>by have:=hd.2 (j+1) C (by simpa using hC);simpa using this⟩
     have:=Zq h2 hd'
     simp at h1;simp [h1,this]
    ·cases h
   ·cases h
  ·simp
 | .v (.bool _) :: _,_,_,_,h,_=>by simp [ints] at h
 | .v (.float _ _) :: _,_,_,_,h,_=>by simp [ints] at h
 | .v (.complex _ _ _) :: _,_,_,_,h,_=>by simp [ints] at h
 | .v (.string _) :: _,_,_,_,h,_=>by simp [ints] at h
 | .v (.pointer _) :: _,_,_,_,h,_=>by simp [ints] at h
 | .v (.slice _ _ _) :: _,_,_,_,h,_=>by simp [ints] at h
 | .v (.map _) :: _,_,_,_,h,_=>by simp [ints] at h
 | .v (.chan _) :: _,_,_,_,h,_=>by simp [ints] at h
 | .v (.func _ _ _) :: _,_,_,_,h,_=>by simp [ints] at h
 | .v .nilFunc :: _,_,_,_,h,_=>by simp [ints] at h
 | .v (.iface _ _) :: _,_,_,_,h,_=>by simp [ints] at h
 | .v .nilIface :: _,_,_,_,h,_=>by simp [ints] at h
 | .v (.agg _) :: _,_,_,_,h,_=>by simp [ints] at h
 | .v (.tuple _) :: _,_,_,_,h,_=>by simp [ints] at h
 | .p _ _ :: _,_,_,_,h,_=>by simp [ints] at h
 | .rp _ :: _,_,_,_,h,_=>by simp [ints] at h
 | .sl _ _ _ :: _,_,_,_,h,_=>by simp [ints] at h
 | .os _ _ _ :: _,_,_,_,h,_=>by simp [ints] at h
 | .o _ :: _,_,_,_,h,_=>by simp [ints] at h
 | .ep _ _ _ _ :: _,_,_,_,h,_=>by simp [ints] at h
 | .vw _ _ _ _ :: _,_,_,_,h,_=>by simp [ints] at h
 | .agg _ :: _,_,_,_,h,_=>by simp [ints] at h
 | .tup _ :: _,_,_,_,h,_=>by simp [ints] at h
 | .fn _ _ _ :: _,_,_,_,h,_=>by simp [ints] at h
theorem Q4t (k:IntKind) (w:World) (t:TypeId) (ts:Array TypeId) (x:Int) (r:List Int):(Builtin.max_ ts t ((x :: r).map (Value.int k)).toArray).run P w=.ok (.int k (r.foldl imax x)) w:=by
 simp only [Builtin.max_]
 simp only [List.map_cons]
 induction r generalizing x with
 | nil=>simp
 | cons y r ih=>simp only [List.map_cons,List.foldlM_cons,List.foldl_cons,Sem.run_bind];simp only [Builtin.max2,Sem.run_pure,Result.andThen_ok];exact ih (imax x y)
theorem Q4U (k:IntKind) (w:World) (t:TypeId) (ts:Array TypeId) (x:Int) (r:List Int):(Builtin.min_ ts t ((x :: r).map (Value.int k)).toArray).run P w=.ok (.int k (r.foldl imin x)) w:=by
 simp only [Builtin.min_]
 simp only [List.map_cons]
 induction r generalizing x with
 | nil=>simp
 | cons y r ih=>simp only [List.map_cons,List.foldlM_cons,List.foldl_cons,Sem.run_bind];simp only [Builtin.min2,Sem.run_pure,Result.andThen_ok];exact ih (imin x y)
theorem WE (hΓ:WL w0 ok β Γ a):∀{xs:List (Nat×Operand)} {ps:List (Nat×AVal)},WZ Γ xs=some ps →
  ps.length=xs.length∧∀(k:Nat) (p:Nat×AVal),ps[k]?=some p→∃u,(xs.map fun (i,x)=>(i,a.eval x))[k]?=some (p.1,u)∧Dn w0 ok β p.2 u
 | [],ps,h=>by simp only [WZ,Option.some.injEq] at h;subst h;simp
 | (i,x) :: r,ps,h=>by
  simp only [WZ] at h
  split at h
  ·rename_i A l h1 h2;cases h
   obtain⟨e1,e2⟩:=WE hΓ h2
   refine⟨by simp [e1],fun k p hk=>?_⟩
   cases k with
   | zero=>simp at hk;subst hk;exact⟨_,rfl,Q5 hΓ h1⟩
   | succ k=>obtain⟨u,h3,h4⟩:=e2 k p (by simpa using hk);exact⟨u,by simpa using h3,h4⟩
  ·cases h
theorem Z1 {α γ:Type} (g:α→Sem γ) (f:α→γ) (w:World):∀(l:List α),(∀x∈l,(g x).run P w=.ok (f x) w)→(l.mapM g).run P w=.ok (l.map f) w
 | [],_=>by simp
 | x :: l,h=>by
  simp only [List.mapM_cons,Sem.run_bind,h x (by simp),Result.andThen_ok,Z1 g f w l (fun y hy=>h y (by simp [hy])),Sem.run_pure,List.map_cons]
theorem Q0C {α γ:Type} (g:α→Sem γ) (f:α→γ) (w:World) (l:Array α) (h:∀x∈l.toList,(g x).run P w=.ok (f x) w):(l.mapM g).run P w=.ok (l.map f) w:=by
 rw [Array.mapM_eq_mapM_toList,Sem.run_map,Z1 g f w l.toList h,Result.andThen_ok]
 congr 1
 apply Array.ext'
 simp
theorem zc_dn (zc:List Value):DnL w0 ok β (zc.map AVal.v) zc.toArray:=by
 refine⟨by simp,fun j A hA=>?_⟩
 simp only [List.getElem?_map,Option.map_eq_some_iff] at hA
 obtain⟨u,hu,rfl⟩:=hA
 simp [Array.getD_eq_getD_getElem?,hu];exact .ro (.v u)
theorem Q1n (htb:QI P tb) {t:Nat} {pl:Nat→Option (Nat×Nat)} {zc:List Value} (h:Q27 tb t=some (pl,zc)) {us:List (Nat×Value)} {zs:Array Value}
  (hf:Instr.fill pl zc.toArray us=some zs) (w:World):(Instr.build t us.toArray).run P w=.ok (.agg zs) w:=by
 unfold Q27 at h
 split at h
 ·rename_i fs n by_ zc' hfind
  obtain⟨d,hd,f,rfl,hfs⟩:=htb.und hfind
  obtain⟨z,hz,hzc,_⟩:=htb.zero hfind
  split at h
  ·rename_i hall
   simp only [Option.some.injEq,Prod.mk.injEq] at h
   obtain⟨rfl,rfl⟩:=h
   simp only at hzc
   have hz':z.cells=zc'.toArray:=by rw [←hzc]
   simp only [Instr.build,Sem.run_bind,hz,run_underlying hd,Result.andThen_ok,hz']
   have hm:(f.mapM fun f=>do pure (f.offset,←sizeOf f.type):Sem (Array (Nat×Nat))).run P w=.ok (f.map fun f=>(f.offset,((find tb f.type).map (·.n)).getD 0)) w:=by
    refine Q0C _ _ w f fun x hx=>?_
    have hmem:(x.offset,x.type)∈fs:=by rw [←hfs];exact List.mem_map.2 ⟨x,hx,rfl⟩
    have:=List.all_eq_true.1 hall _ hmem
    simp only at this
    cases hx2:find tb x.type with
    | none=>simp [hx2] at this
    | some e=>simp [htb.size hx2]
   rw [hm]
   simp only [Result.andThen_ok]
   have hpl:(fun i=>(f.map fun f=>(f.offset,((find tb f.type).map (·.n)).getD 0))[i]?)=Q2z tb fs:=by
    funext i
    unfold Q2z
    rw [←hfs]
    simp only [Array.getElem?_map,List.getElem?_map,Array.getElem?_toList]
    cases hfi:f[i]? with
    | none=>simp
    | some x=>
     simp only [Option.map_some]
     have hmem:(x.offset,x.type)∈fs:=by rw [←hfs];exact List.mem_map.2 ⟨x,by simpa using Array.mem_of_getElem? hfi,rfl⟩
     have:=List.all_eq_true.1 hall _ hmem
     simp only at this
     cases hx2:find tb x.type with
     | none=>simp [hx2] at this
     | some e=>simp
   rw [hpl,hf]
   simp
  ·cases h
 ·rename_i l u n by_ zc' hfind
  obtain⟨d,hd,rfl⟩:=htb.und hfind
  obtain⟨z,hz,hzc,_⟩:=htb.zero hfind
  split at h
  ·rename_i e he
   simp only [Option.some.injEq,Prod.mk.injEq] at h
   obtain⟨rfl,rfl⟩:=h
   simp only at hzc
   have hz':z.cells=zc'.toArray:=by rw [←hzc]
   simp [Instr.build,hz,run_underlying hd,hz',htb.size he,hf]
  ·cases h
 ·cases h
theorem Q2t (htb:QI P tb) {F:Nat→Prop} (hΓ:WL w0 ok β Γ a) (hH:HOk w0 ok β w H F) {o:Op} {A:AVal} (h:Wm tb Γ H o=some A):
  ∃v,Dn w0 ok β A v∧Q4a P a o v:=by
 cases o with
 | move x=>exact⟨_,Q5 hΓ h,fun _ _ _ _ _ w=>by simp [execOp]⟩
 | assign x=>exact⟨_,Q5 hΓ h,fun _ _ _ _ _ w=>by simp [execOp]⟩
 | binOp op t x y yt=>
  simp only [Wm] at h
  split at h
  ·rename_i A B hA hB
   split at h
   ·rename_i hf
    exact Q2Z (by obtain⟨d,hd,hfit⟩:=htb.und hf;cases hfit;exact hd) (Q5 hΓ hA) (Q5 hΓ hB) h
   ·exact Q30 (Q5 hΓ hA) (Q5 hΓ hB) h
  ·cases h
 | unOp op t x=>
  simp only [Wm] at h
  split at h
  ·rename_i A hA;exact Q3I (Q5 hΓ hA) h
  ·cases h
 | convert s d x=>
  simp only [Wm] at h
  split at h
  ·rename_i k1 n1 b1 z1 k2 n2 b2 z2 k n h1 h2 h3
   cases h
   have e3:=(Q5 hΓ h3).v_inv
   obtain⟨d1,hd1,f1⟩:=htb.und h1
   obtain⟨d2,hd2,f2⟩:=htb.und h2
   cases f1;cases f2
   exact⟨_,.ro (.v _),fun _ _ _ _ _ w=>by simp [execOp,convert,run_underlying hd1,run_underlying hd2,e3,Conv.intToInt]⟩
  ·cases h
 | fieldAddr t x k=>
  simp only [Wm] at h
  split at h
  ·rename_i off u A hfo hA
   split at h
   ·rename_i e he
    split at h
    ·cases h
    ·rename_i hn
     obtain⟨b,o,hx,hd⟩:=AVal.addP_sound (Q5 hΓ hA) h
     unfold ZT at hfo
     split at hfo
     ·rename_i fs n by_ zc hfind
      obtain⟨d,hd',f,rfl,hfs⟩:=htb.und hfind
      refine⟨_,hd,fun _ _ _ _ _ w=>?_⟩
      rw [←hfs] at hfo
      simp only [List.getElem?_map,Option.map_eq_some_iff,Array.getElem?_toList,Prod.mk.injEq] at hfo
      obtain⟨g,hg,rfl,rfl⟩:=hfo
      simp [execOp,Instr.fieldAt,run_underlying hd',hg,hx,Instr.sureAddr,fieldPlace,htb.size he,hn,Kx]
     ·cases hfo
   ·cases h
  ·cases h
 | field t x k=>
  simp only [Wm] at h
  split at h
  ·rename_i off u cs hfo hA
   obtain⟨vs,hx,hl,hd⟩:=(Q5 hΓ hA).agg_inv
   unfold ZT at hfo
   split at hfo
   ·rename_i fs n by_ zc hfind
    obtain⟨d,hd',f,rfl,hfs⟩:=htb.und hfind
    rw [←hfs] at hfo
    simp only [List.getElem?_map,Option.map_eq_some_iff,Array.getElem?_toList,Prod.mk.injEq] at hfo
    obtain⟨g,hg,rfl,rfl⟩:=hfo
    split at h
    ·rename_i e he
     split at h
     ·rename_i hagg
      split at h
      ·rename_i hle;cases h
       refine⟨.agg (vs.extract g.offset (g.offset+e.n)),.agg _ _ (by simp;omega) (fun j A hA=>?_),fun _ _ _ _ _ w=>?_⟩
       ·have hj:j<e.n:=by
         rcases Nat.lt_or_ge j e.n with h | h
         ·exact h
         ·simp [List.getElem?_take,Nat.not_lt.2 h] at hA
        rw [List.getElem?_take,if_pos hj,List.getElem?_drop] at hA
        have:=hd _ _ hA
        have e1:(vs.extract g.offset (g.offset+e.n))[j]?=vs[g.offset+j]?:=by
         rw [Array.getElem?_extract];rw [if_pos (by omega)]
        simpa [Array.getD_eq_getD_getElem?,e1] using this
       ·simp [execOp,Instr.field,run_underlying hd',hg,hx,asAgg,part,htb.isAgg he,hagg,htb.size he]
      ·cases h
     ·rename_i hagg
      have hx':=hd _ _ h
      have hlt:=(List.getElem?_eq_some_iff.1 h).1
      rw [hl] at hlt
      refine⟨_,hx',fun _ _ _ _ _ w=>?_⟩
      simp [execOp,Instr.field,run_underlying hd',hg,hx,asAgg,part,htb.isAgg he,hagg,Array.getElem?_eq_getElem hlt,Array.getD_eq_getD_getElem?]
    ·cases h
   ·cases hfo
  ·cases h
 | extract x i=>
  simp only [Wm] at h
  split at h
  ·rename_i cs hcs
   obtain⟨vs,hv,hl,hd⟩:=(Q5 hΓ hcs).tup_inv
   have hx:=hd _ _ h
   have hlt:=(List.getElem?_eq_some_iff.1 h).1
   refine⟨_,hx,fun _ _ _ _ _ w=>?_⟩
   rw [hl] at hlt
   simp [execOp,Instr.extract,hv,Array.getElem?_eq_getElem hlt,Array.getD_eq_getD_getElem?]
  ·cases h
 | nilCheck x=>
  simp only [Wm] at h
  split at h
  ·rename_i l off hx;cases h
   have:=Q5 hΓ hx
   obtain⟨b,hb,e⟩:=this.p_inv
   exact⟨_,this,fun _ _ _ _ _ w=>by simp [execOp,e]⟩
  ·rename_i cs hx;cases h
   have:=Q5 hΓ hx
   obtain⟨b,off,f,e,_⟩:=this.rp_inv
   exact⟨_,this,fun _ _ _ _ _ w=>by simp [execOp,e]⟩
  ·rename_i l n i off hx;cases h
   have:=Q5 hΓ hx
   obtain⟨b,o,len,cap,hb,e⟩:=this.ep_inv
   exact⟨_,this,fun _ _ _ _ _ w=>by simp [execOp,e]⟩
  ·cases h
 | makeFunc f fa ca=>
  simp only [Wm] at h
  split at h
  ·rename_i A B hA hB;cases h
   obtain⟨l1,d1⟩:=Wy hΓ hA
   obtain⟨l2,d2⟩:=Wy hΓ hB
   exact⟨_,.fn f A B (fa.map a.eval) (ca.map a.eval) l1 d1 l2 d2,fun _ _ _ _ _ w=>by simp [execOp,Instr.makeFunc]⟩
  ·cases h
 | build t parts=>
  simp only [Wm] at h
  split at h
  ·rename_i pl zc ps hpl hps
   split at h
   ·rename_i cs hcs;cases h
    obtain⟨e1,e2⟩:=WE hΓ hps
    obtain⟨zs,hz,hd⟩:=YJ (place:=pl) (us:=(parts.toList.map fun (i,x)=>(i,a.eval x))) (zc_dn zc) (by simpa using e1) e2 hcs
    refine⟨.agg zs,.agg cs zs hd.1 hd.2,fun _ _ _ _ _ w=>?_⟩
    have:=Q1n htb hpl hz w
    have hp:(parts.toList.map fun (i,x)=>(i,a.eval x)).toArray=parts.map (fun x=>(x.fst,a.eval x.snd)):=by apply Array.toList_inj.1;simp
    rw [hp] at this
    simp only [execOp,Sem.run_bind,this];simp
   ·cases h
  ·cases h
 | call c=>
  obtain⟨callee,args,ts⟩:=c
  cases callee with
  | builtin bi=>
   cases bi with
   | max=>
    simp only [Wm] at h
    split at h
    ·rename_i l hl
     split at h
     ·rename_i k x r hi;cases h
      obtain⟨l1,d1⟩:=Wy hΓ hl
      refine⟨_,.ro (.v _),fun _ _ _ _ _ w=>?_⟩
      have e:=Zq (us:=(args.map a.eval).toList) hi ⟨by simpa using l1,by simpa using d1⟩
      have e':args.map a.eval=((x :: r).map (Value.int k)).toArray:=by rw [←e]
      simp only [execOp,resolve,Sem.run_bind,Sem.run_pure,Result.andThen_ok,invoke,builtin,e',Q4t]
     ·cases h
    ·cases h
   | min=>
    simp only [Wm] at h
    split at h
    ·rename_i l hl
     split at h
     ·rename_i k x r hi;cases h
      obtain⟨l1,d1⟩:=Wy hΓ hl
      refine⟨_,.ro (.v _),fun _ _ _ _ _ w=>?_⟩
      have e:=Zq (us:=(args.map a.eval).toList) hi ⟨by simpa using l1,by simpa using d1⟩
      have e':args.map a.eval=((x :: r).map (Value.int k)).toArray:=by rw [←e]
      simp only [execOp,resolve,Sem.run_bind,Sem.run_pure,Result.andThen_ok,invoke,builtin,e',Q4U]
     ·cases h
    ·cases h
   | len=>
    simp only [Wm] at h
    split at h
    ·rename_i x t hargs hts
     have ea:args=#[x]:=by rw [←Array.toList_inj];exact hargs
     have et:ts=#[t]:=by rw [←Array.toList_inj];exact hts
     subst ea;subst et
     split at h
     ·rename_i hf hx;cases h
      obtain⟨p,cap,e⟩:=(Q5 hΓ hx).sl_inv.sl_len
      obtain⟨d,hd,rfl⟩:=htb.und hf
      exact⟨_,.ro (.v _),fun _ _ _ _ _ w=>by simp [execOp,resolve,invoke,builtin,Builtin.len_,run_underlying hd,e,goInt]⟩
     ·rename_i hf hx;cases h
      have e:=(Q5 hΓ hx).v_inv
      obtain⟨d,hd,rfl⟩:=htb.und hf
      exact⟨_,.ro (.v _),fun _ _ _ _ _ w=>by simp [execOp,resolve,invoke,builtin,Builtin.len_,run_underlying hd,e,goInt]⟩
     ·rename_i l hf hx
      split at h
      ·rename_i hl;cases h
       obtain⟨F1,_,y,hy,ho⟩:=hH.get hl
       obtain⟨p,cap,rfl⟩:=ho.os_len
       have e:=(Q5 hΓ hx).o_inv
       rw [hy,Option.some.injEq] at e
       obtain⟨d,hd,rfl⟩:=htb.und hf
       exact⟨_,.ro (.v _),fun _ _ _ _ _ w=>by simp [execOp,resolve,invoke,builtin,Builtin.len_,run_underlying hd,←e,goInt]⟩
      ·cases h
     ·rename_i hf hx;cases h
      have e:=(Q5 hΓ hx).v_inv
      obtain⟨d,hd,rfl⟩:=htb.und hf
      exact⟨_,.ro (.v _),fun _ _ _ _ _ w=>by simp [execOp,resolve,invoke,builtin,Builtin.len_,run_underlying hd,e,goInt]⟩
     ·rename_i hf hx;cases h
      obtain⟨d,hd,rfl⟩:=htb.und hf
      exact⟨_,.ro (.v _),fun _ _ _ _ _ w=>by simp [execOp,resolve,invoke,builtin,Builtin.len_,run_underlying hd,goInt]⟩
     ·cases h
    ·cases h
   | _=>simp [Wm] at h
  | _=>simp [Wm] at h
 | _=>simp [Wm] at h
end
end Go.Taq
