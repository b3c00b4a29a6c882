/- The library of the generated walks, part X: the arguments of a law, opened: what can be read as data is read-only data. -/
import Derived.Test.YtpckofngkabgbaaGreatLibW
import Derived.ChangeReads
import Derived.ChangeSame
set_option linter.unusedVariables false
namespace Go.Taq
open Go
def old (w:World) (b:Nat):Prop:=b<w.heap.size
def QN (P:Program) (t:TypeId) {X:Type} (cs:X→List AVal) (Ok:X→Prop):Prop:=
 ∀{H:Type} (enc:TypeId×Value→H) (w:World) (held:Bool) (fuel:Nat) (cells:List Value) (d:DataW H) (ps:List MemPlace),DataW.trod enc P w 0 (fun _=>true) held fuel t cells=some (d,ps) →
  ∃x:X,Ok x∧(cs x).length=cells.length∧∀(j:Nat) (A:AVal) (v:Value),(cs x)[j]?=some A→cells[j]?=some v→Ro w (old w) A v
def I64 (x:Int):Prop:=-9223372036854775808≤x∧x≤9223372036854775807
def IK (k:IntKind) (x:Int):Prop:=(Lit.int k x).wf=true
def OkS (x:ByteArray):Prop:=x.size≤maxLen
def OkL {X:Type} (Ok:X→Prop) (xs:List X):Prop:=xs.length≤maxLen∧∀x,x∈xs→Ok x
variable {P:Program}
theorem QN.int {t:TypeId} {k:IntKind} (h:P.underlying t=some (.int k)):QN P t (fun x:Int=>[.v (.int k x)]) (IK k):=fun enc w held fuel cells d ps ht=>by
 cases fuel with
 | zero=>simp [DataW.trod] at ht
 | succ fuel=>
  unfold DataW.trod at ht
  simp only [h] at ht
  split at ht <;> first | (simp at ht;done) | skip
  all_goals try (rename_i e;simp at e;done)
  rename_i k1 k2 n heq
  cases heq
  split at ht
  ·rename_i hc
   obtain⟨rfl,hw⟩:=hc
   refine⟨n,hw,rfl,fun j A v hA hv=>?_⟩
   cases j with
   | zero=>simp at hA hv;subst hA;subst hv;exact .v _
   | succ j=>simp at hA
  ·cases ht
theorem QN.i64 {t:TypeId} (h:P.underlying t=some (.int .i64)):QN P t (fun x:Int=>[.v (.int .i64 x)]) I64:=fun enc w held fuel cells d ps ht=>by
 obtain⟨x,hx,r⟩:=QN.int h enc w held fuel cells d ps ht
 refine⟨x,?_,r⟩
 unfold IK at hx
 simp only [Lit.wf,Bool.and_eq_true,decide_eq_true_eq] at hx
 simpa [IntKind.min,IntKind.max,IntKind.signed,IntKind.bits,I64] using hx
theorem QN.bool {t:TypeId} (h:P.underlying t=some .bool):QN P t (fun x:Bool=>[.v (.bool x)]) (fun _=>True):=fun enc w held fuel cells d ps ht=>by
 cases fuel with
 | zero=>simp [DataW.trod] at ht
 | succ fuel=>
  unfold DataW.trod at ht
  simp only [h] at ht
  split at ht <;> first | (simp at ht;done) | skip
  all_goals try (rename_i e;simp at e;done)
  rename_i b _
  exact⟨b,trivial,rfl,fun j A v hA hv=>by
   cases j with
   | zero=>simp at hA hv;subst hA;subst hv;exact .v _
   | succ j=>simp at hA⟩
theorem QN.str {t:TypeId} (h:P.underlying t=some .string):QN P t (fun x:ByteArray=>[.v (.string x)]) OkS:=fun enc w held fuel cells d ps ht=>by
 cases fuel with
 | zero=>simp [DataW.trod] at ht
 | succ fuel=>
  unfold DataW.trod at ht
  simp only [h] at ht
  split at ht <;> first | (simp at ht;done) | skip
  all_goals try (rename_i e;simp at e;done)
  rename_i s _
  split at ht
  ·rename_i hs
   exact⟨s,hs,rfl,fun j A v hA hv=>by
    cases j with
    | zero=>simp at hA hv;subst hA;subst hv;exact .v _
    | succ j=>simp at hA⟩
  ·cases ht
theorem ZX {α β:Type} {f:α→Option β}:∀{l:List α} {r:List β},l.mapM f=some r→l.length=r.length∧∀(i:Nat) (x:α),l[i]?=some x→∃y,r[i]?=some y∧f x=some y
 | [],r,h=>by simp at h;subst h;exact⟨rfl,by simp⟩
 | x :: l,r,h=>by
  rw [List.mapM_cons] at h
  simp only [Option.bind_eq_bind,Option.pure_def,Option.bind_eq_some_iff,Option.some.injEq] at h
  obtain⟨y,hy,ys,hys,rfl⟩:=h
  obtain⟨h1,h2⟩:=ZX hys
  refine⟨by simp [h1],fun i z hz=>?_⟩
  cases i with
  | zero=>simp at hz;subst hz;exact⟨y,rfl,hy⟩
  | succ i=>simpa using h2 i z (by simpa using hz)
theorem Q0q {α:Type} {Q:Nat→α→Prop}:∀(n:Nat),(∀i,i<n→∃x,Q i x)→∃xs:List α,xs.length=n∧∀(i:Nat) (x:α),xs[i]?=some x→Q i x
 | 0,_=>⟨[],rfl,by simp⟩
 | n+1,h=>by
  obtain⟨xs,h1,h2⟩:=Q0q n (fun i hi=>h i (by omega))
  obtain⟨x,hx⟩:=h n (by omega)
  refine⟨xs++[x],by simp [h1],fun i y hy=>?_⟩
  rcases Nat.lt_or_ge i xs.length with hlt | hge
  ·rw [List.getElem?_append_left hlt] at hy;exact h2 i y hy
  ·rw [List.getElem?_append_right hge] at hy
   have:i-xs.length=0:=by
    rcases Nat.eq_zero_or_pos (i-xs.length) with e | e
    ·exact e
    ·rw [List.getElem?_eq_none (by simp;omega)] at hy;cases hy
   rw [this] at hy;simp at hy;subst hy
   have:i=n:=by omega
   subst this;exact hx
theorem QN.slice {t e:TypeId} (h:P.underlying t=some (.slice e)) {n:Nat} (hn:P.cellsOf e=n) (h0:0<n) {X:Type} {cs:X→List AVal} {Ok:X→Prop} (hX:QN P e cs Ok):
  QN P t (fun xs:List X=>[.sl n cs xs]) (OkL Ok):=fun enc w held fuel cells d ps ht=>by
 cases fuel with
 | zero=>simp [DataW.trod] at ht
 | succ fuel=>
  unfold DataW.trod at ht
  simp only [h] at ht
  split at ht <;> first | (simp at ht;done) | skip
  all_goals try (rename_i e;simp at e;done)
  ·exact⟨[],⟨Nat.zero_le _,by simp⟩,rfl,fun j A v hA hv=>by
    cases j with
    | zero=>simp at hA hv;subst hA;subst hv;exact .slNil _ _ _
    | succ j=>simp at hA⟩
  ·rename_i e' a len cap heq
   cases heq
   rw [hn] at ht
   split at ht
   ·rename_i hc
    simp only [if_true,Option.bind_eq_some_iff,Option.map_eq_some_iff] at ht
    obtain⟨elems,he,rest,hrest,_⟩:=ht
    obtain⟨e1,e2⟩:=ZX he
    obtain⟨r1,r2⟩:=ZX hrest
    have hel:∀i,i<len→∃cl,w.cells? 0 (a.add (i*n)) n=some cl∧∃y,DataW.trod enc P w 0 (fun _=>true) held fuel e cl=some y:=fun i hi=>by
     obtain⟨y,hy,hf⟩:=e2 i i (by simp [hi])
     simp only [Option.bind_eq_some_iff] at hf
     obtain⟨cl,h1,h2⟩:=hf
     exact⟨cl,h1,y,h2⟩
    have hx:∀i,i<len→∃x:X,Ok x∧(cs x).length=n∧∀(j:Nat) (A:AVal),(cs x)[j]?=some A→∃v,w.cell? ((a.add (i*n)).add j)=some v∧Ro w (old w) A v:=fun i hi=>by
     obtain⟨cl,h1,⟨d',ps'⟩,h2⟩:=hel i hi
     obtain⟨_,hl,hget⟩:=World.cells?_some h1
     obtain⟨x,hok,hlx,hr⟩:=hX enc w held fuel cl d' ps' h2
     refine⟨x,hok,by rw [hlx,hl],fun j A hA=>?_⟩
     have hj:j<n:=by rw [←hl,←hlx];exact (List.getElem?_eq_some_iff.1 hA).1
     have hcj:cl[j]?=some (cl[j]'(by omega)):=List.getElem?_eq_getElem _
     exact⟨_,(hget j hj).trans hcj,hr j A _ hA hcj⟩
    obtain⟨xs,hxl,hxs⟩:=Q0q len hx
    by_cases hcap:cap=0
    ·subst hcap
     have hl0:len=0:=by omega
     subst hl0
     have:xs=[]:=List.eq_nil_of_length_eq_zero hxl
     subst this
     exact⟨[],⟨Nat.zero_le _,by simp⟩,rfl,fun j A v hA hv=>by
      cases j with
      | zero=>simp at hA hv;subst hA;subst hv;exact .slNil _ _ _
      | succ j=>simp at hA⟩
    ·-- some place of the row can be read: the address is a plain one
     have hplace:∃v,w.cell? a=some v:=by
      have key:∀cl:List Value,w.cells? 0 (a.add (0*n)) n=some cl→∃v,w.cell? a=some v:=fun cl h1=>by
       obtain⟨_,hl,hget⟩:=World.cells?_some h1
       have h2:=hget 0 h0
       have e1:(a.add (0*n)).add 0=a:=by simp [Addr.add]
       rw [e1] at h2
       exact⟨cl[0]'(by omega),h2.trans (List.getElem?_eq_getElem (by omega))⟩
      rcases Nat.eq_zero_or_pos len with hz | hp
      ·subst hz
       obtain⟨y,hy,hf⟩:=r2 0 0 (by rw [List.getElem?_eq_getElem (by simp;omega)];simp)
       simp only [Option.bind_eq_some_iff] at hf
       obtain⟨cl,h1,h2⟩:=hf
       exact key cl (by simpa using h1)
      ·obtain⟨cl,h1,_⟩:=hel 0 hp
       exact key cl h1
     obtain⟨v0,hv0⟩:=hplace
     have hblk:a.block<w.heap.size:=Yn hv0
     obtain⟨b,off,spot⟩:=a
     have hsp:spot=none:=by
      cases spot with
      | none=>rfl
      | some s=>unfold World.cell? at hv0;simp at hv0;split at hv0 <;> simp at hv0
     subst hsp
     have hcell:∀(i j:Nat) (x:X) (A:AVal),xs[i]?=some x→(cs x)[j]?=some A→∃v,w.cell? ⟨b,off+i*n+j,none⟩=some v∧Ro w (old w) A v:=fun i j x A hx hA=>by
      have:=(hxs i x hx).2.2 j A hA
      simpa [Kx] using this
     subst hxl
     refine⟨xs,⟨by omega,fun x hx=>?_⟩,rfl,fun j A v hA hv=>?_⟩
     ·obtain⟨i,hi⟩:=List.getElem?_of_mem hx
      exact (hxs i x hi).1
     ·cases j with
      | zero=>
       simp at hA hv;subst hA;subst hv
       refine .sl n cs xs b off cap (fun i j=>(w.cell? ⟨b,off+i*n+j,none⟩).getD undef) hblk (by omega) (fun i x hx=>(hxs i x hx).2.1) (fun i j x A hx hA=>?_) (fun i j x A hx hA=>?_)
       ·obtain⟨v,h1,h2⟩:=hcell i j x A hx hA
        rw [h1];rfl
       ·obtain⟨v,h1,h2⟩:=hcell i j x A hx hA
        rw [h1];exact h2
      | succ j=>simp at hA
   ·cases ht
def Cov (w:World) (cells:List Value) (off:Nat) (cs:List AVal):Prop:=∀(j:Nat) (A:AVal) (v:Value),cs[j]?=some A→cells[off+j]?=some v→Ro w (old w) A v
theorem Cov.nil {w:World} {cells:List Value} {off:Nat}:Cov w cells off []:=fun j A v h=>by simp at h
theorem Cov.app {w:World} {cells:List Value} {off:Nat} {a b:List AVal} (h1:Cov w cells off a) (h2:Cov w cells (off+a.length) b):Cov w cells off (a++b):=fun j A v hA hv=>by
 rcases Nat.lt_or_ge j a.length with hlt | hge
 ·rw [List.getElem?_append_left hlt] at hA;exact h1 j A v hA hv
 ·rw [List.getElem?_append_right hge] at hA
  exact h2 (j-a.length) A v hA (by rw [←hv];congr 1;omega)
theorem QN.st {t:TypeId} {fs:Array Field} (h:P.underlying t=some (.struct fs)) {N:Nat} (hN:P.cellsOf t=N) {H:Type} {enc:TypeId×Value→H} {w:World} {held:Bool} {fuel:Nat} {cells:List Value} {d:DataW H} {ps:List MemPlace}
  (ht:DataW.trod enc P w 0 (fun _=>true) held fuel t cells=some (d,ps)):∃fuel',cells.length=N∧∀f,f∈fs.toList→∃d' ps',DataW.trod enc P w 0 (fun _=>true) held fuel' f.type ((cells.drop f.offset).take (P.cellsOf f.type))=some (d',ps'):=by
 cases fuel with
 | zero=>simp [DataW.trod] at ht
 | succ fuel=>
  unfold DataW.trod at ht
  simp only [h,hN] at ht
  split at ht
  ·rename_i hc
   simp only [Option.map_eq_some_iff] at ht
   obtain⟨xs,hxs,_⟩:=ht
   obtain⟨_,h2⟩:=ZX hxs
   refine⟨fuel,hc,fun f hf=>?_⟩
   obtain⟨i,hi⟩:=List.getElem?_of_mem hf
   obtain⟨⟨d',ps'⟩,_,h3⟩:=h2 i f hi
   exact⟨d',ps',h3⟩
  ·cases ht
theorem QN.fld {u:TypeId} {X:Type} {cs:X→List AVal} {Ok:X→Prop} (hX:QN P u cs Ok) {n off:Nat} (hn:P.cellsOf u=n) {H:Type} {enc:TypeId×Value→H} {w:World} {held:Bool} {fuel:Nat} {cells:List Value}
  (hle:off+n≤cells.length) (ht:∃d' ps',DataW.trod enc P w 0 (fun _=>true) held fuel u ((cells.drop off).take (P.cellsOf u))=some (d',ps')):∃x,Ok x∧(cs x).length=n∧Cov w cells off (cs x):=by
 obtain⟨d',ps',ht⟩:=ht
 rw [hn] at ht
 obtain⟨x,hk,hl,hr⟩:=hX enc w held fuel _ d' ps' ht
 have hl':(cs x).length=n:=by rw [hl];simp;omega
 refine⟨x,hk,hl',fun j A v hA hv=>hr j A v hA ?_⟩
 have hj:j<n:=by rw [←hl'];exact (List.getElem?_eq_some_iff.1 hA).1
 rw [List.getElem?_take,if_pos hj,List.getElem?_drop];exact hv
end Go.Taq
