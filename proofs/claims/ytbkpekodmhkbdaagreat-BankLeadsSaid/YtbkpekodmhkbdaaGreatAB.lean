/- The mathematics, several parts in one text. -/
import Derived.Test.YtbkpekodmhkbdaaGreatOJ
/- The mathematics, part OK: what legal actions keep, one by one. -/
set_option linter.unusedVariables false
set_option linter.unusedSimpArgs false
namespace Go.Taq
open Go
section
variable {s:ApiSite} {st:ApiState} {n:Nat} {r:ApiRobot}
def Kept (s:ApiSite) (st st':ApiState):Prop:=RSt s st'∧((Y2 s st).2.2=false→(Y2 s st').2.2=false)
theorem Q6l (h:RSt s st) (hf:RF s.Floor) (hx:st.Robots[n]?=some r) (hr:r.Load<0) (hat:0≤atS st r.Cell) {ch:Int} (hch:0≤ch∧ch≤1000000):Kept s st {st with Shelves:=st.Shelves,Robots:=st.Robots.set n {r with Load:=atS st r.Cell,Charge:=ch}}:=by
 have hR:=h.rob n r hx
 obtain⟨i,hi,hie,hcell,hcar⟩:=Q8f hat
 rw [hie]
 have hlt:=(List.getElem?_eq_some_iff.1 hx).1
 have hc1:∀j:Nat,j≠i→carB {st with Shelves:=st.Shelves,Robots:=st.Robots.set n {r with Load:=(i:Int),Charge:=ch}} j=carB st j:=fun j hj=>by
  rw [Bool.eq_iff_iff,ZN hx,Y3 hx]
  constructor
  ·rintro (e | e)
   ·simp only at e;omega
   ·exact .inr e
  ·rintro (e | e)
   ·omega
   ·exact .inr e
 have hci:carB {st with Shelves:=st.Shelves,Robots:=st.Robots.set n {r with Load:=(i:Int),Charge:=ch}} i=true:=(ZN hx).2 (.inl rfl)
 have hback:∀j:Nat,carB {st with Shelves:=st.Shelves,Robots:=st.Robots.set n {r with Load:=(i:Int),Charge:=ch}} j=false→carB st j=false:=fun j hj=>by
  by_cases e:j=i
  ·subst e;rw [hci] at hj;cases hj
  ·rw [←hc1 j e];exact hj
 refine⟨h.upd hx hR.cell hR.kind ⟨by simp only;omega,by simp only;omega⟩ hch hR.rest hR.mute rfl (fun _=>hcell) (fun k z hk hz h0=>⟨fun e=>?_,rfl⟩) (fun j c hj hcj=>h.shel j c hj (hback j hcj)) ?_,Q2m rfl (fun j _ hj=>⟨hback j hj,rfl⟩)⟩
 ·have:carB st i=true:=Z4.2 ⟨k,z,hz,e⟩
  rw [this] at hcar;cases hcar
 ·rw [List.nodup_iff_count]
  intro x
  have hA:=YW (y:={r with Load:=(i:Int),Charge:=ch}) hx x
  have hS:=Zc (f:=slS st) (f':=slS {st with Shelves:=st.Shelves,Robots:=st.Robots.set n {r with Load:=(i:Int),Charge:=ch}}) hi (fun j _ hj=>Q5J (hc1 j hj) (fun _=>rfl)) x
  have hle:=Q0W h.clash x
  have e1:slR r=[low r.Cell]:=by unfold slR;rw [if_neg (by omega)]
  have e2:slR {r with Load:=(i:Int),Charge:=ch}=[low r.Cell]++[high r.Cell]:=by unfold slR;rw [if_pos (by simp only;omega)];rfl
  have e3:slS st i=[high r.Cell]:=by unfold slS;rw [hcar,hcell];rfl
  have e4:slS {st with Shelves:=st.Shelves,Robots:=st.Robots.set n {r with Load:=(i:Int),Charge:=ch}} i=[]:=by unfold slS;rw [hci];rfl
  rw [e1,e2,List.count_append] at hA
  rw [e3,e4,List.count_nil] at hS
  unfold allS at hle ⊢
  simp only [List.count_append] at hle ⊢
  omega
theorem Q5F (h:RSt s st) (hf:RF s.Floor) (hx:st.Robots[n]?=some r) (hr:0≤r.Load) (hd:Q2L s st r.Load r.Cell=0) {ch:Int} (hch:0≤ch∧ch≤1000000):Kept s st {st with Shelves:=st.Shelves,Robots:=st.Robots.set n {r with Load:=-1,Charge:=ch}}:=by
 have hR:=h.rob n r hx
 obtain⟨i,hi⟩:=Int.eq_ofNat_of_zero_le hr
 have hil:i<st.Shelves.length:=by have:=hR.load;omega
 have hcell:st.Shelves.getD i 0=r.Cell:=by have:=(hR.own hr).2;rw [hi] at this;exact this
 have hcar:carB st i=true:=Z4.2 ⟨n,r,hx,hi⟩
 unfold Q2L at hd
 split at hd
 ·cases hd
 split at hd
 ·cases hd
 rename_i hst
 split at hd
 ·cases hd
 split at hd
 ·cases hd
 rename_i hap
 have hstB:stB s r.Cell=true:=by simpa using hst
 have hc1:∀j:Nat,j≠i→carB {st with Shelves:=st.Shelves,Robots:=st.Robots.set n {r with Load:=-1,Charge:=ch}} j=carB st j:=fun j hj=>by
  rw [Bool.eq_iff_iff,ZN hx,Y3 hx]
  constructor
  ·rintro (e | e)
   ·simp only at e;omega
   ·exact .inr e
  ·rintro (e | e)
   ·omega
   ·exact .inr e
 have hci:carB {st with Shelves:=st.Shelves,Robots:=st.Robots.set n {r with Load:=-1,Charge:=ch}} i=false:=by
  cases e:carB {st with Shelves:=st.Shelves,Robots:=st.Robots.set n {r with Load:=-1,Charge:=ch}} i with
  | false=>rfl
  | true=>
   rcases (ZN hx).1 e with e2 | ⟨k,z,hk,hz,hzl⟩
   ·simp only at e2;omega
   ·exact absurd (h.uniq hx hz hr (by omega)) hk
 refine⟨h.upd hx hR.cell hR.kind ⟨by simp,by simp only;omega⟩ hch hR.rest hR.mute rfl (fun h0=>by simp at h0) (fun k z hk hz h0=>⟨by simp only;omega,rfl⟩) (fun j c hj hcj=>?_) ?_,fun hap0=>?_⟩
 ·by_cases e:j=i
  ·subst e;rw [KR hj] at hcell;rw [hcell];exact kx12 hstB
  ·exact h.shel j c hj (by rw [←hc1 j e];exact hcj)
 ·rw [List.nodup_iff_count]
  intro x
  have hA:=YW (y:={r with Load:=-1,Charge:=ch}) hx x
  have hS:=Zc (f:=slS st) (f':=slS {st with Shelves:=st.Shelves,Robots:=st.Robots.set n {r with Load:=-1,Charge:=ch}}) hil (fun j _ hj=>Q5J (hc1 j hj) (fun _=>rfl)) x
  have hle:=Q0W h.clash x
  have e1:slR r=[low r.Cell]++[high r.Cell]:=by unfold slR;rw [if_pos hr];rfl
  have e2:slR {r with Load:=-1,Charge:=ch}=[low r.Cell]:=by unfold slR;rw [if_neg (by simp)]
  have e3:slS st i=[]:=by unfold slS;rw [hcar];rfl
  have e4:slS {st with Shelves:=st.Shelves,Robots:=st.Robots.set n {r with Load:=-1,Charge:=ch}} i=[high r.Cell]:=by
   unfold slS;rw [hci];show [high (st.Shelves.getD i 0)]=_;rw [hcell]
  rw [e1,e2,List.count_append] at hA
  rw [e3,e4,List.count_nil] at hS
  unfold allS at hle ⊢
  simp only [List.count_append] at hle ⊢
  omega
 ·cases e:(Y2 s {st with Shelves:=st.Shelves,Robots:=st.Robots.set n {r with Load:=-1,Charge:=ch}}).2.2 with
  | false=>rfl
  | true=>
   exfalso
   obtain⟨a,b,hab,hb,hbad⟩:=Z9.1 e
   have hb':b<st.Shelves.length:=hb
   unfold badP at hbad
   simp only [Bool.and_eq_true,Bool.not_eq_true'] at hbad
   obtain⟨⟨⟨h1,h2⟩,h3⟩,h4⟩:=hbad
   -- the shelf that is put down,and another
   have key:∀j:Nat,j<st.Shelves.length→j≠i→carB st j=false→Q08 s.Floor (st.Shelves.getD j 0) r.Cell=true→nev s (clsS s i) (clsS s j)=true→False:=fun j hj hne hcj hn hv=>by
    refine hap (ZZ (i:=j) hj ?_)
    unfold dAp
    rw [hi,hcj,hn,hv]
    simp;omega
   by_cases ea:a=i
   ·subst ea
    have hbi:b≠a:=by omega
    rw [hc1 b hbi] at h4
    rw [hcell] at h1
    rw [Q5g hf hR.cell (h.cells _ (Q5L hb'))] at h1
    exact key b hb' hbi h4 h1 h2
   ·by_cases eb:b=i
    ·subst eb
     rw [hc1 a ea] at h3
     rw [hcell] at h1
     rw [Q6I] at h2
     exact key a (by omega) ea h3 h1 h2
    ·rw [hc1 a ea] at h3;rw [hc1 b eb] at h4
     have:(Y2 s st).2.2=true:=Z9.2 ⟨a,b,hab,hb',by unfold badP;rw [h1,h2,h3,h4];rfl⟩
     rw [this] at hap0;cases hap0
theorem Q5q (h:RSt s st) (hx:st.Robots[n]?=some r):st.Shelves=if 0≤r.Load then st.Shelves.set r.Load.toNat r.Cell else st.Shelves:=by
 split
 ·rename_i h0
  have hR:=h.rob n r hx
  have hlt:r.Load.toNat<st.Shelves.length:=by have:=hR.load;omega
  have h1:=(hR.own h0).2
  have hx2:=List.getElem?_eq_getElem hlt
  rw [KR hx2] at h1
  rw [←h1];exact (Q4P hx2).symm
 ·rfl
theorem Q6G {a:Int} (e:a=8) (h:legR s st r a=0):Q2L s st r.Load r.Cell=0:=by
 unfold legR at h
 rw [if_neg (by omega),if_neg (by omega)] at h
 split at h
 ·cases h
 split at h
 ·cases h
 split at h
 ·cases h
 rw [if_neg (by rw [Gd];omega),if_neg (by omega)] at h
 split at h
 ·cases h
 exact h
theorem Q8l (h:RSt s st) (ls:LS s st) (hx:st.Robots[n]?=some r) {a:Int} (ha:0≤a∧a<10) (hleg:legR s st r a=0):Kept s st (doR s st n r a):=by
 have hR:=h.rob n r hx
 have hch:=Q9u (st:=st) (r:=r) hR.charge ha
 unfold doR
 by_cases hd:r.Dead=true
 ·rw [if_pos hd];exact⟨h,fun e=>e⟩
 rw [if_neg hd]
 have hd':r.Dead=false:=by simpa using hd
 cases hm:mvB a with
 | true=>
  obtain⟨hnx,hrest,hmov⟩:=Q7d hm hd' hleg
  have hm':=Gd.1 hm
  have hld:lod st r a=r.Load:=by unfold lod;rw [if_neg (by omega),if_neg (by omega)]
  obtain⟨m1,m2,m3,m4,m5⟩:=Q6f hmov
  obtain⟨n1,n2,n3,n4,n5,n6⟩:=Q1P ls.fl hnx
  have hsp:=Q4V ls.rs (nx s.Floor r.Cell (a-1)).1
  have e1:nwR s st r a={r with Cell:=(nx s.Floor r.Cell (a-1)).1,Load:=r.Load,Charge:=chg st r a,Rest:=spd s (nx s.Floor r.Cell (a-1)).1-1}:=by unfold nwR;rw [hm,hnx,hld];rfl
  have e2:nwS s st r a=if 0≤r.Load then st.Shelves.set r.Load.toNat (nx s.Floor r.Cell (a-1)).1 else st.Shelves:=by unfold nwS;rw [hm,hnx,hld];simp
  rw [e1]
  refine Q1d h ls.fl hx n2 n5 rfl hch ⟨by simp only;omega,by simp only;omega⟩ rfl e2 (.inr fun x hxm=>?_)
  unfold slR at hxm
  simp only at hxm
  split at hxm
  ·rename_i h0
   simp only [List.mem_cons,List.not_mem_nil,or_false] at hxm
   rcases hxm with e | e
   ·rw [e];exact m4
   ·rw [e];exact m5 h0
  ·simp only [List.mem_cons,List.not_mem_nil,or_false] at hxm
   rw [hxm];exact m4
 | false=>
  have e1:nwR s st r a={r with Load:=lod st r a,Charge:=chg st r a}:=by unfold nwR;rw [hm];rfl
  have e2:nwS s st r a=st.Shelves:=by unfold nwS;rw [hm];simp
  rw [e1,e2]
  by_cases h0:a=0
  ·have hld:lod st r a=r.Load:=by unfold lod;rw [if_neg (by omega),if_neg (by omega)]
   rw [hld]
   exact Q1d h ls.fl hx hR.cell hR.kind rfl hch hR.rest rfl (Q5q h hx) (.inl rfl)
  have ha1:1≤a∧a<10:=by omega
  obtain⟨_,h7,h8,h9⟩:=Q6h ha1 hleg
  by_cases e7:a=7
  ·have hld:lod st r a=atS st r.Cell:=by unfold lod;rw [if_pos e7]
   rw [hld];exact Q6l h ls.fl hx (h7 e7).1 (h7 e7).2 hch
  by_cases e8:a=8
  ·have hld:lod st r a=-1:=by unfold lod;rw [if_neg e7,if_pos e8]
   rw [hld]
   refine Q5F h ls.fl hx (h8 e8).1 ?_ hch
   exact Q6G e8 hleg
  ·have hld:lod st r a=r.Load:=by unfold lod;rw [if_neg e7,if_neg e8]
   rw [hld]
   exact Q1d h ls.fl hx hR.cell hR.kind rfl hch hR.rest rfl (Q5q h hx) (.inl rfl)
end
end Go.Taq
/- The mathematics, part OM: right states in the program; ActKeeps. -/
set_option linter.unusedVariables false
set_option linter.unusedSimpArgs false
namespace Go.Taq
open Go
theorem Q4U {α:Type} {xs:List α} (hm:xs.length≤maxLen) {T:Int→(Bool→Prop)→Prop} {F E:Prop} (hT:∀(i:Nat) x,xs[i]?=some x→∀{q:Bool→Prop},q false→T (i:Int) q) (hE:E):
  Jn (fun (J:Unit→Prop)=>Loop (fun (s:Int) Y=>Ite (decide (s<(xs.length:Int))) (T s (fun b=>Ite b F (Y (w64 (s+1))))) (J ())) 0) (fun _=>E):=
 Jn.mk (fun _=>E) (Q2C hm (fun t=>t) (fun _ _=>True) rfl trivial (fun i x t hx ht _=>by rw [ht];exact hT i x hx (Ite.f rfl ⟨rfl,trivial⟩)) (fun _ _=>hE)) (fun _ h=>h)
section
variable {s:ApiSite} {st:ApiState}
theorem G6 {x a b:Int} (h:a≤x∧x≤b) {post:Bool→Prop} (hp:post true):K9 x a b post:=by
 unfold K9
 refine Zd ?_
 rw [decide_eq_true (by omega:x≥a),decide_eq_true h.2];exact hp
theorem Q1c {f:ApiFloor} {c:Int} {ks:List Int} (hk:ks.length≤10) (h0:0≤kx f c) (h:kx f c∈ks) {post:Bool→Prop} (hp:post true):X0 f c ks post:=by
 have hc:isC f c=true:=by
  cases e:isC f c with
  | true=>rfl
  | false=>unfold kx at h0;rw [e] at h0;simp at h0
 have hb:=QF.1 hc
 unfold X0
 unfold kx at h;rw [if_pos hc] at h
 refine Jn.mk' (Ite.t (by simp;omega) (Ite.t (by simp;omega) ⟨_,Ws hc,K7 (by unfold maxLen;omega) ?_⟩))
 rw [List.contains_iff_mem.2 h];exact hp
theorem Q2H (h:RSt s st) (hz:Sz st) {post:Bool→Prop} (hp:post true):Xy s st post:=by
 unfold Xy
 have q1:=hz.rb
 have q2:=hz.sh
 refine Jn.mk (fun _=>post true) (Kg (xs:=st.Robots) (by unfold maxLen;omega) (fun t:List (Int×Bool)×Int=>t.2) (fun i t=>∀x,0≤x→(lk t.1 x).getD false=true→∃(k:Nat) (z:ApiRobot),k<i∧st.Robots[k]?=some z∧z.Load=x) rfl (fun x _ hx=>by simp [lk] at hx) (fun i r t hx ht hI=>?_) (fun _ _=>hp)) (fun _ h=>h)
 have hR:=h.rob i r hx
 have hc:=QF.1 hR.cell
 refine Jn.mk (fun b=>b=false) (Ite.f (by simp;omega) (Ite.f (by simp;omega) ⟨_,Ws hR.cell,Ite.f (by simpa using hR.kind) (G6 (by rw [QD (by omega) (by omega)];have:=hR.load;omega) rfl)⟩)) (fun b hb=>Ite.f hb ?_)
 refine Jn.mk (fun b=>b=false) (G6 hR.charge (Ite.t rfl (G6 hR.rest (Ite.t rfl (G6 hR.mute rfl))))) (fun b hb=>Ite.f hb ?_)
 refine Jn.mk (fun b=>b=false) (Ite.mk (fun h0=>Ite.mk (fun h1=>?_) (fun h1=>?_)) (fun _=>rfl)) (fun b hb=>Ite.f hb ⟨by show w64 (t.2+1)=_;rw [ht],fun x h0 hx2=>?_⟩)
 ·exfalso
  have h0':0≤r.Load:=by simpa using h0
  obtain⟨k,z,hk,hz2,e⟩:=hI _ h0' h1
  have:=h.uniq hx hz2 h0' e;omega
 ·have h0':0≤r.Load:=by simpa using h0
  obtain⟨m,hm⟩:=Int.eq_ofNat_of_zero_le h0'
  have hml:m<st.Shelves.length:=by have:=hR.load;omega
  have ho:=(hR.own h0').2
  have hsx:=List.getElem?_eq_getElem hml
  rw [hm] at ho
  have ho2:st.Shelves.getD m 0=r.Cell:=ho
  rw [KR hsx] at ho2
  refine⟨_,Qn hm hsx,?_⟩
  rw [ho2];simp
 ·have hx3:(lk (upd t.1 r.Load true) x).getD false=true:=hx2
  rw [Wb] at hx3
  by_cases e:r.Load=x
  ·exact⟨i,r,by omega,hx,e⟩
  ·rw [if_neg e] at hx3
   obtain⟨k,z,hk,hz2,e2⟩:=hI x h0 hx3
   exact⟨k,z,by omega,hz2,e2⟩
theorem Q4k (h:RSt s st) (hz:Sz st) {post:Bool→Prop} (hp:post true):Gq s.Floor st post:=by
 unfold Gq
 have q4:=hz.dd;have q5:=hz.sk
 refine Q4U (xs:=st.Dead) (by unfold maxLen;omega) (T:=fun i q=>∃x14,idx st.Dead i=some x14∧Jn (fun (J16:Bool→Prop)=>Ite (decide (x14<0)) (J16 true) (Ite (decide (x14≥(s.Floor.Kind.length:Int))) (J16 true) (Ite (decide (i>0)) (∃x20,idx st.Dead (w64 (i-1))=some x20∧J16 (decide (x14≤x20))) (J16 false)))) q) (fun i x hx q hq=>⟨x,Qn rfl hx,Jn.mk' ?_⟩) ?_
 ·have hc:=QF.1 (h.dead i x hx)
  have hil:=(List.getElem?_eq_some_iff.1 hx).1
  refine Ite.f (by simp;omega) (Ite.f (by simp;omega) (Ite.mk (fun h1=>?_) (fun _=>hq)))
  cases i with
  | zero=>simp at h1
  | succ j=>
   have hy:=List.getElem?_eq_getElem (show j<st.Dead.length by omega)
   refine⟨_,Qn (n:=j) (by rw [QD (by omega) (by omega)];omega) hy,?_⟩
   have:=h.deadA j _ x hy hx
   rw [decide_eq_false (by omega)];exact hq
 refine Q4U (xs:=st.Stuck) (by unfold maxLen;omega) (T:=fun i q=>∃x37,idx st.Stuck i=some x37∧Jn (fun (J39:Bool→Prop)=>X0 s.Floor x37.Cell ([6]:List Int) (fun x40=>Ite x40 (K9 x37.Left 1 20000 (fun x42=>Ite x42 (Ite (decide (i>0)) (∃x45,idx st.Stuck (w64 (i-1))=some x45∧J39 (decide (x37.Cell≤x45.Cell))) (J39 false)) (J39 true))) (J39 true))) q) (fun i x hx q hq=>⟨x,Qn rfl hx,Jn.mk' ?_⟩) hp
 obtain⟨k1,k2,k3⟩:=h.stuck i x hx
 have hil:=(List.getElem?_eq_some_iff.1 hx).1
 refine Q1c (by decide) (by omega) (by rw [k1];decide) (Ite.t rfl (G6 ⟨k2,k3⟩ (Ite.t rfl (Ite.mk (fun h1=>?_) (fun _=>hq)))))
 cases i with
 | zero=>simp at h1
 | succ j=>
  have hy:=List.getElem?_eq_getElem (show j<st.Stuck.length by omega)
  refine⟨_,Qn (n:=j) (by rw [QD (by omega) (by omega)];omega) hy,?_⟩
  have:=h.stuckA j _ x hy hx
  rw [decide_eq_false (by omega)];exact hq
theorem Q3o {l:List Int} (hl:l.length≤10000) (hn:l.Nodup) {post:Int×Bool→Prop} (hp:post (0,false)):Xe l post:=by
 unfold Xe Ki Qt Qr Qh
 refine⟨by omega,?_⟩
 refine Each.inv l (fun i t=>t=l.take i) rfl (fun i x t hx ht Y hY=>?_) (fun t ht=>?_)
 ·have:=(List.getElem?_eq_some_iff.1 hx).1
  refine⟨by rw [ht];simp;omega,hY _ ?_⟩
  rw [ht,Qz hx]
 rw [List.take_length] at ht;subst ht
 unfold Qg
 refine⟨by omega,?_⟩
 have hperm:=List.mergeSort_perm t (fun x y=>decide (x≤y))
 have hnd:=hperm.nodup_iff.2 hn
 have hlen:=hperm.length_eq
 generalize t.mergeSort (fun x y=>decide (x≤y))=m at *
 refine Jn.mk (fun _=>post (0,false)) ?_ (fun _ h=>h)
 refine Loop.inv (m.length-1) (fun i q=>q=(i:Int)+1) rfl (fun i q hi hq=>?_) (fun q hq=>Ite.f (by subst hq;simp;omega) hp)
 subst hq
 have h1:=List.getElem?_eq_getElem (show i+1<m.length by omega)
 have h2:=List.getElem?_eq_getElem (show i<m.length by omega)
 refine Ite.lt (by omega) ⟨_,Qn (n:=i+1) (by omega) h1,_,Qn (n:=i) (by rw [QD (by omega) (by omega)];omega) h2,Ite.f ?_ (by rw [QD (by omega) (by omega)];simp)⟩
 have:=List.pairwise_iff_getElem.1 hnd i (i+1) (by omega) (by omega) (by omega)
 simpa using fun e=>this e.symm
theorem Q3x (h:RSt s st) (hz:Sz st) {post:Bool→Prop} (hp:post true):Xv s st post:=by
 unfold Xv
 have q1:=hz.sh;have q3:=hz.pp
 refine Jn.mk (fun b=>b=false) (G6 h.tick (Ite.t rfl (Ite.f (by simp [h.sl]) (Ite.f (by simp [h.rl]) (Ite.f (by have:=h.pl;simp;omega) (Q2H h hz (Ite.t rfl (Q4k h hz rfl)))))))) (fun b hb=>Ite.f hb ?_)
 refine Q4U (xs:=st.Shelves) (by unfold maxLen;omega) (T:=fun i q=>∃x27,idx st.Shelves i=some x27∧Jn (fun (J29:Bool→Prop)=>KN st i (fun x30=>Ite (decide (x30<0)) (X0 s.Floor x27 ([1,2]:List Int) (fun x32=>J29 (!x32))) (J29 false))) q) (fun i x hx q hq=>⟨x,Qn rfl hx,Jn.mk' (WS hz (Ite.mk (fun h1=>?_) (fun _=>hq)))⟩) ?_
 ·have hc:carB st i=false:=by unfold carB;simp at h1 ⊢;omega
  have:=h.shel i x hx hc
  refine Q1c (by decide) (by omega) (by rcases this with e | e <;> rw [e] <;> decide) hq
 refine Q4U (xs:=st.People) (by unfold maxLen;omega) (T:=fun i q=>∃x49,idx st.People i=some x49∧X0 s.Floor x49 ([4,5]:List Int) (fun x52=>q (!x52))) (fun i x hx q hq=>⟨x,Qn rfl hx,?_⟩) ?_
 ·have:=h.ppl i x hx
  exact Q1c (by decide) (by omega) (by rcases this with e | e <;> rw [e] <;> decide) hq
 exact Z5 hz (Q3o (by have:=Yh hz;omega) h.clash hp)
end
def stOf (t:Int×List Int×List ApiRobot×List Int×List Int×List ApiStuck×Int):ApiState:={Tick:=t.1,Shelves:=t.2.1,Robots:=t.2.2.1,People:=t.2.2.2.1,Dead:=t.2.2.2.2.1,Stuck:=t.2.2.2.2.2.1}
end Go.Taq
/- The mathematics, part AA: what moves, whether slots clash, whether acts may be begun (arena.Check and its reference). -/
set_option linter.unusedVariables false
set_option linter.unusedSimpArgs false
namespace Go.Taq
open Go
def slAt (r:ApiRobot) (c:Int):List Int:=if 0≤r.Load then [low c,high c] else [low c]
theorem Q4L (r:ApiRobot) (c:Int):(slAt r c).length≤2:=by unfold slAt;split <;> simp
theorem Q5f {r:ApiRobot} {c:Int} {post:List Int→Prop} (hp:post (slAt r c)):W7 r c post:=by
 unfold W7 X4 Ku
 unfold slAt low high at hp
 refine Ite.mk (fun h=>?_) (fun h=>?_) <;> simp at h
 ·rw [if_pos h] at hp;exact hp
 ·rw [if_neg (by omega)] at hp;exact hp
def mvS (f:ApiFloor) (st:ApiState) (acts:List Int) (i:Nat):List Int:=
 if ((st.Robots.getD i default).Dead||!mvB (acts.getD i 0))=true then []
 else if (nx f (st.Robots.getD i default).Cell (acts.getD i 0-1)).2=true then slAt (st.Robots.getD i default) (nx f (st.Robots.getD i default).Cell (acts.getD i 0-1)).1 else []
def movL (f:ApiFloor) (st:ApiState) (acts:List Int):List Int:=allS st++(List.range st.Robots.length).flatMap (mvS f st acts)
theorem Q6p (f:ApiFloor) (st:ApiState) (acts:List Int) (i:Nat):(mvS f st acts i).length≤2:=by
 unfold mvS;split
 ·simp
 ·split
  ·exact Q4L _ _
  ·simp
section
variable {s:ApiSite} {st:ApiState}
theorem Q4v (hz:Sz st) (f:ApiFloor) (acts:List Int):(movL f st acts).length≤9000:=by
 have h1:=Gn (n:=st.Robots.length) (f:=mvS f st acts) (fun i _=>Q6p ..)
 have h2:=Yh hz
 have:=hz.rb
 unfold movL;rw [List.length_append];omega
theorem YC {f:Nat→List Int} {i:Nat}:(List.range (i+1)).flatMap f=(List.range i).flatMap f++f i:=by
 rw [List.range_succ,List.flatMap_append];simp
theorem Q2N (hf:RF s.Floor) (hz:Sz st) {acts:List Int} (hl:acts.length=st.Robots.length) {post:List Int→Prop} (hp:∀l,List.Perm l (movL s.Floor st acts)→post l):G7 s.Floor st acts post:=by
 unfold G7 Qg
 have h1:=Q4v hz s.Floor acts
 have hrb:=hz.rb
 refine Z5 hz (Jn.mk (fun l=>l=movL s.Floor st acts) (Q2e st.Robots.length (fun t:List Int×Int=>t.2) (fun i t=>t.1=allS st++(List.range i).flatMap (mvS s.Floor st acts)) (by unfold maxLen;omega) rfl (by simp) (fun i t hi ht hI=>?_) (fun t h=>h)) (fun l hl=>by subst hl;exact⟨by omega,hp _ (List.mergeSort_perm _ _)⟩))
 rw [ht]
 have hx:=List.getElem?_eq_getElem hi
 generalize st.Robots[i]=r at hx
 have ha:=List.getElem?_eq_getElem (show i<acts.length by omega)
 generalize acts[i]'_=a at ha
 have hlen:t.1.length≤10000:=by
  have h3:=Gn (n:=i) (f:=mvS s.Floor st acts) (fun i _=>Q6p ..)
  have:=Yh hz
  rw [hI,List.length_append];omega
 refine Jn.mk (fun l=>l=t.1++mvS s.Floor st acts i) ⟨r,Qn rfl hx,?_⟩ (fun l hl=>⟨rfl,by show l=_;rw [hl,hI,YC,List.append_assoc]⟩)
 have em:mvS s.Floor st acts i=if (r.Dead||!mvB a)=true then [] else if (nx s.Floor r.Cell (a-1)).2=true then slAt r (nx s.Floor r.Cell (a-1)).1 else []:=by
  unfold mvS;rw [Xr hx,KR ha]
 rw [em]
 refine Jn.mk (fun b=>b=(r.Dead||!mvB a)) (Ite.f (by simp;omega) (Ite.mk (fun h=>by rw [h];rfl) (fun h=>⟨a,Qn rfl ha,?_⟩))) (fun b hb=>?_)
 ·rw [h,Bool.false_or]
  refine Ite.mk (fun h2=>?_) (fun h2=>?_)
  ·have:mvB a=false:=by have:=@Gd a;simp at h2;cases hm:mvB a <;> simp_all;omega
   rw [this];rfl
  ·simp at h2
   by_cases h3:a≥7
   ·have:mvB a=false:=by have:=@Gd a;cases hm:mvB a <;> simp_all;omega
    rw [this];simpa using h3
   ·have:mvB a=true:=Gd.2 (by omega)
    rw [this];simpa using h3
 ·refine Ite.mk (fun h=>?_) (fun h=>?_)
  ·rw [if_pos (by rw [←hb];exact h)];simp
  ·rw [if_neg (by rw [←hb,h];simp)]
   have hm:mvB a=true:=by rw [h] at hb;simpa using (Bool.or_eq_false_iff.1 hb.symm).2
   have hm':=Gd.1 hm
   refine⟨a,Qn rfl ha,?_⟩
   rw [QD (by omega) (by omega)]
   refine Gy hf (Jn.mk' (Ite.mk (fun h2=>?_) (fun h2=>?_)))
   ·rw [if_pos h2]
    exact Q5f ⟨by have:=Q4L r (nx s.Floor r.Cell (a-1)).1;omega,rfl⟩
   ·rw [if_neg (by rw [h2];simp)];simp
/-! ## clashes -/
theorem Q6C {m:List Int} (hs:m.Pairwise (·≤·)) (ha:∀(i:Nat) x y,m[i]?=some x→m[i+1]?=some y→x≠y):m.Nodup:=by
 have:m.Pairwise (· < ·):=by
  induction m with
  | nil=>exact .nil
  | cons x m ih=>
   have hs':=List.pairwise_cons.1 hs
   have ih':=ih hs'.2 (fun i a b h1 h2=>ha (i+1) a b (by simpa using h1) (by simpa using h2))
   refine List.pairwise_cons.2 ⟨fun y hy=>?_,ih'⟩
   cases m with
   | nil=>cases hy
   | cons z m=>
    have h0:=ha 0 x z rfl rfl
    have h1:=hs'.1 z (by simp)
    rcases List.mem_cons.1 hy with e | e
    ·subst e;omega
    ·have:=(List.pairwise_cons.1 ih').1 y e;omega
 exact this.imp (fun h=>by omega)
theorem ZO {l:List Int} (hl:l.length≤10000) {post:Int×Bool→Prop} (hp:∀n b,(b=true↔¬l.Nodup)→post (n,b)):Xe l post:=by
 unfold Xe Ki Qt Qr Qh
 refine⟨by omega,?_⟩
 refine Each.inv l (fun i t=>t=l.take i) rfl (fun i x t hx ht Y hY=>?_) (fun t ht=>?_)
 ·have:=(List.getElem?_eq_some_iff.1 hx).1
  refine⟨by rw [ht];simp;omega,hY _ ?_⟩
  rw [ht,Qz hx]
 rw [List.take_length] at ht;subst ht
 unfold Qg
 refine⟨by omega,?_⟩
 have hperm:=List.mergeSort_perm t (fun x y=>decide (x≤y))
 have hsort:(t.mergeSort fun x y=>decide (x≤y)).Pairwise (·≤·):=by
  have:=List.pairwise_mergeSort (le:=fun x y:Int=>decide (x≤y)) (fun a b c h1 h2=>by simp at *;omega) (fun a b=>by simp;omega) t
  exact this.imp (fun h=>by simpa using h)
 have hlen:=hperm.length_eq
 have hnd:=hperm.nodup_iff
 generalize t.mergeSort (fun x y=>decide (x≤y))=m at *
 refine Jn.mk (fun _=>m.Nodup) ?_ (fun _ h=>hp 0 false (by simp [←hnd,h]))
 refine Loop.inv (m.length-1) (fun i q=>q=(i:Int)+1∧∀(j:Nat) x y,j<i→m[j]?=some x→m[j+1]?=some y→x≠y) ⟨rfl,fun j x y h=>by omega⟩ (fun i q hi hq=>?_) (fun q hq=>Ite.f (by rw [hq.1];simp;omega) (Q6C hsort (fun j x y h1 h2=>hq.2 j x y (by have:=(List.getElem?_eq_some_iff.1 h2).1;omega) h1 h2)))
 obtain⟨hq,hI⟩:=hq
 subst hq
 have h1:=List.getElem?_eq_getElem (show i+1<m.length by omega)
 have h2:=List.getElem?_eq_getElem (show i<m.length by omega)
 refine Ite.lt (by omega) ⟨_,Qn (n:=i+1) (by omega) h1,_,Qn (n:=i) (by rw [QD (by omega) (by omega)];omega) h2,Ite.mk (fun h3=>?_) (fun h3=>?_)⟩
 ·refine hp _ true ⟨fun _ hn=>?_,fun _=>rfl⟩
  have:=List.pairwise_iff_getElem.1 (hnd.2 hn) i (i+1) (by omega) (by omega) (by omega)
  exact this (by simpa using h3:m[i+1]=m[i]).symm
 ·refine⟨by rw [QD (by omega) (by omega)];simp,fun j x y hj hx hy=>?_⟩
  by_cases e:j=i
  ·subst e;rw [h2] at hx;rw [h1] at hy;cases hx;cases hy
   intro e;rw [e] at h3;simp at h3
  ·exact hI j x y (by omega) hx hy
/-! ## Check -/
def fstB (s:ApiSite) (st:ApiState) (acts:List Int):Nat→Nat→Int
 | 0,_=>0
 | n+1,i=>if legS s st i (acts.getD i 0)=0 then fstB s st acts n (i+1) else legS s st i (acts.getD i 0)
def seqB (s:ApiSite) (acts:List Int):Nat→Nat→ApiState→Int
 | 0,_,_=>0
 | n+1,i,st=>if legS s st i (acts.getD i 0)=0 then seqB s acts n (i+1) (doS s st i (acts.getD i 0)) else legS s st i (acts.getD i 0)
open Classical in
noncomputable def chkS (s:ApiSite) (st:ApiState) (acts:List Int):Int:=
 if st.Tick≥20000 then 28 else if (acts.length:Int)≠st.Robots.length then 1
 else if fstB s st acts acts.length 0≠0 then fstB s st acts acts.length 0
 else if ¬(movL s.Floor st acts).Nodup then 15 else seqB s acts acts.length 0 st
theorem Q5M {s:ApiSite} {st:ApiState} {i a:Int} (h:legS s st i a=0):0≤a∧a<10:=(Q5E h).2
theorem Q8a {s:ApiSite} {st:ApiState} {acts:List Int} (k:QM st) (h:LS s st) (hm:acts.length≤maxLen) {post:Int→Prop}
  {L:ApiState→Int→Int→(Int→Prop)→Prop} (hL:∀st,QM st→LS s st→∀i a {q:Int→Prop},q (legS s st i a)→L st i a q)
  {D:ApiState→Int→Int→(ApiState→Prop)→Prop} (hD:∀st,QM st→LS s st→∀i a {q:ApiState→Prop},0≤a→a<10→q (doS s st i a)→D st i a q)
  {M:(List Int→Prop)→Prop} (hM:∀{q:List Int→Prop},acts.length=st.Robots.length→(∀l,List.Perm l (movL s.Floor st acts)→q l)→M q)
  {C:List Int→(Int×Bool→Prop)→Prop} (hC:∀l {q:Int×Bool→Prop},l.length≤10000→(∀n b,(b=true↔¬l.Nodup)→q (n,b))→C l q) (hp:post (chkS s st acts)):
  Ite (decide (st.Tick≥20000)) (post 28) (Ite ((acts.length:Int) != (st.Robots.length:Int)) (post 1)
   (Jn (fun (J:Unit→Prop)=>Loop (fun (t:Int) Y=>Ite (decide (t<(acts.length:Int))) (∃x,idx acts t=some x∧L st t x (fun y=>Ite (y != 0) (post y) (Y (w64 (t+1))))) (J ())) 0)
    (fun (_:Unit)=>M (fun l=>C l (fun c=>Ite c.2 (post 15)
     (Jn (fun (J:Unit→Prop)=>Loop (fun (t:Int×List Int×List ApiRobot×List Int×List Int×List ApiStuck×Int) Y=>Ite (decide (t.2.2.2.2.2.2<(acts.length:Int)))
      (∃x,idx acts t.2.2.2.2.2.2=some x∧L (stOf t) t.2.2.2.2.2.2 x (fun y=>Ite (y != 0) (post y) (D (stOf t) t.2.2.2.2.2.2 x (fun z=>Y (z.Tick,z.Shelves,z.Robots,z.People,z.Dead,z.Stuck,w64 (t.2.2.2.2.2.2+1)))))) (J ())) (st.Tick,st.Shelves,st.Robots,st.People,st.Dead,st.Stuck,0)) (fun _=>post 0))))))):=by
 unfold chkS at hp
 refine Ite.mk (fun h1=>by rw [if_pos (by simpa using h1)] at hp;exact hp) (fun h1=>?_)
 rw [if_neg (by simpa using h1)] at hp
 refine Ite.mk (fun h2=>by rw [if_pos (by simpa using h2)] at hp;exact hp) (fun h2=>?_)
 rw [if_neg (by simpa using h2)] at hp
 have hl:acts.length=st.Robots.length:=by simp at h2;omega
 refine Jn.mk (fun _=>fstB s st acts acts.length 0=0) (Loop.inv acts.length (fun i t=>t=(i:Int)∧fstB s st acts acts.length 0=fstB s st acts (acts.length-i) i) ⟨rfl,rfl⟩ (fun i t hi hI=>?_) (fun t hI=>?_)) (fun _ h3=>?_)
 ·obtain⟨ht,hI⟩:=hI
  have hx:=List.getElem?_eq_getElem hi
  generalize acts[i]=a at hx
  have hn:acts.length-i=(acts.length-(i+1))+1:=by omega
  rw [hn,fstB,KR hx] at hI
  subst ht
  refine Ite.lt (by omega) ⟨a,Qn rfl hx,hL st k h i a (Ite.mk (fun h4=>?_) (fun h4=>?_))⟩
  ·have h4':legS s st i a≠0:=by simpa using h4
   rw [if_neg h4'] at hI
   rw [if_pos (by rw [hI];exact h4'),hI] at hp
   exact hp
  ·have h4':legS s st i a=0:=by simpa using h4
   rw [if_pos h4'] at hI
   exact⟨Xx hi hm,hI⟩
 ·obtain⟨ht,hI⟩:=hI
  rw [Nat.sub_self,fstB] at hI
  exact Ite.nlt (by omega) hI
 ·rw [if_neg (by simpa using h3)] at hp
  refine hM hl (fun l hperm=>hC l (by rw [hperm.length_eq];have:=Q4v h.sz s.Floor acts;omega) (fun n b hb=>Ite.mk (fun h4=>?_) (fun h4=>?_)))
  ·rw [if_pos (by rw [←hperm.nodup_iff];exact hb.1 h4)] at hp;exact hp
  ·rw [if_neg (by rw [←hperm.nodup_iff];intro hn;have:=hb.2 hn;simp only at h4;rw [h4] at this;cases this)] at hp
   refine Jn.mk (fun _=>seqB s acts acts.length 0 st=0) (Loop.inv acts.length (fun i t=>t.2.2.2.2.2.2=(i:Int)∧QM (stOf t)∧LS s (stOf t)∧seqB s acts acts.length 0 st=seqB s acts (acts.length-i) i (stOf t)) ⟨rfl,k,h,rfl⟩ (fun i t hi hI=>?_) (fun t hI=>?_)) (fun _ h5=>by rw [h5] at hp;exact hp)
   ·obtain⟨ht,hk,hls,hI⟩:=hI
    have hx:=List.getElem?_eq_getElem hi
    generalize acts[i]=a at hx
    have hn':acts.length-i=(acts.length-(i+1))+1:=by omega
    rw [hn',seqB,KR hx] at hI
    rw [ht]
    refine Ite.lt (by omega) ⟨a,Qn rfl hx,hL _ hk hls i a (Ite.mk (fun h6=>?_) (fun h6=>?_))⟩
    ·have h6':legS s (stOf t) i a≠0:=by simpa using h6
     rw [if_neg h6'] at hI
     rw [hI] at hp;exact hp
    ·have h6':legS s (stOf t) i a=0:=by simpa using h6
     rw [if_pos h6'] at hI
     have ha:=Q5M h6'
     have hd:=Q9a hk hls (i:Int) a
     exact hD _ hk hls i a ha.1 ha.2 ⟨Xx hi hm,hd.2,hd.1,hI⟩
   ·obtain⟨ht,hk,hls,hI⟩:=hI
    rw [Nat.sub_self,seqB] at hI
    exact Ite.nlt (by omega) hI
theorem Q30 (ks:QX s) (k:QM st) (h:LS s st) {acts:List Int} (ka:OkL I64 acts) {post:Int→Prop} (hp:post (chkS s st acts)):GG s st acts post:=by
 unfold GG
 exact Q8a k h ka.1 (L:=fun st i a q=>XA s st i a q) (fun st k h i a q hq=>Q1i ks k h hq) (D:=fun st i a q=>WM s st i a q) (fun st k h i a q h0 h9 hq=>Q4N ks k h h0 h9 hq)
  (M:=fun q=>G7 s.Floor st acts q) (fun {q} hl hq=>Q2N h.fl h.sz hl hq) (C:=fun l q=>Xe l q) (fun l q hl hq=>ZO hl hq) hp
end
end Go.Taq
/- The mathematics, part AB: faults: which can happen, and what they do (arena.Possible, Happen and their references). -/
set_option linter.unusedVariables false
set_option linter.unusedSimpArgs false
namespace Go.Taq
open Go
def k0 (f:ApiFloor) (c:Int):Int:=if isC f c=true then kd f c else 0
def Kj (st:ApiState) (i:Int):Bool:=decide (0≤i)&&decide (i<st.Robots.length)&&!(st.Robots.getD i.toNat default).Dead
def Q33 (n:Int):Bool:=decide (n≥1)&&decide (n≤20000)
def Q3R (s:ApiSite) (st:ApiState) (a c:Int):Bool:=
 (k0 s.Floor c == 4||k0 s.Floor c == 5)&&(!(allS st).contains (low c)&&!(allS st).contains (high c)) &&
 (if a=st.People.length then k0 s.Floor c == 5&&decide (a<20) else decide (0≤a)&&decide (a<st.People.length)&&Q08 s.Floor (st.People.getD a.toNat 0) c)
def Xh (s:ApiSite) (st:ApiState) (f:QV):Bool:=
 if f.Kind=0 then true else if f.Kind=1 then Kj st f.A else if f.Kind=2 then k0 s.Floor f.A != 0&&!st.Dead.contains f.A
 else if f.Kind=3 then Kj st f.A&&Q33 f.N else if f.Kind=4 then k0 s.Floor f.A == 6&&Q33 f.N else if f.Kind=5 then Q3R s st f.A f.N else false
section
variable {s:ApiSite} {st:ApiState}
theorem Q0u {i:Int} {n:Nat} {r:ApiRobot} (hi:i=n) (h:st.Robots[n]?=some r):st.Robots.getD i.toNat default=r:=by subst hi;exact Xr h
theorem Q0F {i:Int} {post:Bool→Prop} (hp:post (Kj st i)):Gw st i post:=by
 unfold Gw
 refine Jn.mk' (Ite.mk (fun h1=>Ite.mk (fun h2=>?_) (fun h2=>?_)) (fun h1=>?_))
 ·have h1':0≤i:=by simpa using h1
  obtain⟨n,hn⟩:=Int.eq_ofNat_of_zero_le h1'
  have h2':i<(st.Robots.length:Int):=by simpa using h2
  have hx:=List.getElem?_eq_getElem (show n<st.Robots.length by omega)
  refine⟨_,Qn hn hx,?_⟩
  have:Kj st i=!(st.Robots[n]).Dead:=by unfold Kj;rw [Q0u hn hx];simp [h1',h2']
  rw [←this];exact hp
 ·have:Kj st i=false:=by unfold Kj;rw [h2];simp
  rw [←this];exact hp
 ·have:Kj st i=false:=by unfold Kj;have:decide (0≤i)=false:=by simpa using h1
                         rw [this];simp
  rw [←this];exact hp
theorem Q7X {f:ApiFloor} {c:Int} {post:Int→Prop} (hp:post (k0 f c)):
  Jn (fun (J4:Bool→Prop)=>Ite (decide (c<0)) (J4 true) (J4 (decide (c≥(f.Kind.length:Int))))) (fun (x3:Bool)=>Ite x3 (post 0) (∃x11,idx f.Kind c=some x11∧post x11)):=by
 unfold k0 at hp
 refine Jn.mk (fun b=>b=!isC f c) (Ite.mk (fun h=>?_) (fun h=>?_)) (fun b hb=>Ite.mk (fun h=>?_) (fun h=>?_))
 ·rw [Q1p.2 (by simp at h;omega)];rfl
 ·cases e:isC f c with
  | true=>have:=QF.1 e;simp;omega
  | false=>have:=Q1p.1 e;simp at h ⊢;omega
 ·rw [h] at hb
  have:isC f c=false:=by simpa using hb.symm
  rw [this] at hp;exact hp
 ·rw [h] at hb
  have:isC f c=true:=by simpa using hb.symm
  rw [if_pos this] at hp
  exact⟨_,Ws this,hp⟩
theorem YR {f:ApiFloor} {c:Int} {post:Int→Prop} (hp:post (k0 f c)):XZ f c post:=by unfold XZ;exact Q7X hp
theorem Q2z (hf:RF s.Floor) (hz:Sz st) {a c:Int} {post:Bool→Prop} (hp:post (Q3R s st a c)):GC s st a c post:=by
 unfold GC X4 Ku
 unfold Q3R at hp
 refine YR (Jn.mk (fun b=>b=!(k0 s.Floor c == 4||k0 s.Floor c == 5)) (Ite.mk (fun h=>?_) (fun h=>?_)) (fun b hb=>Ite.mk (fun h=>?_) (fun h=>?_)))
 ·have:(k0 s.Floor c == 4)=false:=by simpa using h
  rw [this];simp [bne]
 ·have:(k0 s.Floor c == 4)=true:=by simpa using h
  rw [this];rfl
 ·rw [h] at hb
  have:(k0 s.Floor c == 4||k0 s.Floor c == 5)=false:=by cases e:(k0 s.Floor c == 4||k0 s.Floor c == 5) with
   | false=>rfl
   | true=>rw [e] at hb;cases hb
  rw [this] at hp;simpa using hp
 ·rw [h] at hb
  have:(k0 s.Floor c == 4||k0 s.Floor c == 5)=true:=by cases e:(k0 s.Floor c == 4||k0 s.Floor c == 5) with
   | true=>rfl
   | false=>rw [e] at hb;cases hb
  rw [this,Bool.true_and] at hp
  refine Q27 hz (fun l hl=>?_)
  rw [←GE hl,←GE hl] at hp
  have hll:l.length≤maxLen:=by have:=hl.length_eq;have:=Yh hz;unfold maxLen;omega
  have hany:(l.any fun x=>x == low c||x == high c)=!(!l.contains (low c)&&!l.contains (high c)):=by
   cases e1:l.contains (low c) with
   | true=>
    have h1:low c∈l:=by simpa using e1
    show _=true
    exact List.any_eq_true.2 ⟨_,h1,by simp⟩
   | false=>
    cases e2:l.contains (high c) with
    | true=>
     have h1:high c∈l:=by simpa using e2
     show _=true
     exact List.any_eq_true.2 ⟨_,h1,by simp⟩
    | false=>
     have h1:low c∉l:=by simpa using e1
     have h2:high c∉l:=by simpa using e2
     show _=false
     cases e3:(l.any fun x=>x == low c||x == high c) with
     | false=>rfl
     | true=>
      obtain⟨x,hx,h⟩:=List.any_eq_true.1 e3
      simp at h
      rcases h with h | h <;> subst h
      ·exact absurd hx h1
      ·exact absurd hx h2
  refine Jn.mk (fun _=>(l.any fun x=>x == low c||x == high c)=false) (Kg (xs:=l) hll (fun t:Int=>t) (fun i _=>∀x,x∈l.take i→(x == low c||x == high c)=false) rfl (fun x hx=>by simp at hx) (fun i x t hx ht hI=>?_) (fun t hI=>?_)) (fun _ hn=>?_)
  ·refine Jn.mk (fun b=>b=(x == low c||x == high c)) (Ite.mk (fun h1=>?_) (fun h1=>?_)) (fun b hb=>Ite.mk (fun h2=>?_) (fun h2=>⟨by rw [ht],fun y hy=>?_⟩))
   ·have:(x == low c)=true:=h1
    rw [this];rfl
   ·have:(x == low c)=false:=h1
    rw [this];rfl
   ·have:(l.any fun x=>x == low c||x == high c)=true:=List.any_eq_true.2 ⟨x,List.mem_of_getElem? hx,by rw [←hb];exact h2⟩
    rw [hany] at this
    have:(!l.contains (low c)&&!l.contains (high c))=false:=by
     cases e:(!l.contains (low c)&&!l.contains (high c)) with
     | false=>rfl
     | true=>rw [e] at this;cases this
    rw [this] at hp;exact hp
   ·rw [Qz hx] at hy
    rcases List.mem_append.1 hy with h | h
    ·exact hI y h
    ·simp at h;subst h;rw [←hb];exact h2
  ·rw [List.take_length] at hI
   cases e:(l.any fun x=>x == low c||x == high c) with
   | false=>rfl
   | true=>obtain⟨x,hx,h⟩:=List.any_eq_true.1 e;rw [hI x hx] at h;cases h
  ·rw [hany] at hn
   have:(!l.contains (low c)&&!l.contains (high c))=true:=by
    cases e:(!l.contains (low c)&&!l.contains (high c)) with
    | true=>rfl
    | false=>rw [e] at hn;cases hn
   rw [this,Bool.true_and] at hp
   refine Ite.mk (fun h1=>?_) (fun h1=>?_)
   ·rw [if_pos (by simpa using h1)] at hp
    exact Zd hp
   ·rw [if_neg (by simpa using h1)] at hp
    refine Jn.mk' (Ite.mk (fun h2=>Ite.mk (fun h3=>?_) (fun h3=>?_)) (fun h2=>?_))
    ·have h2':0≤a:=by simpa using h2
     obtain⟨n,hn⟩:=Int.eq_ofNat_of_zero_le h2'
     have h3':a<(st.People.length:Int):=by simpa using h3
     have hx:=List.getElem?_eq_getElem (show n<st.People.length by omega)
     have e:∀y,st.People[n]?=some y→st.People.getD a.toNat 0=y:=fun y hy=>by rw [hn];exact KR hy
     rw [e _ hx] at hp
     refine⟨_,Qn hn hx,Q0K hf ?_⟩
     rw [decide_eq_true h2',decide_eq_true h3'] at hp;exact hp
    ·rw [h3] at hp;simpa using hp
    ·have:decide (0≤a)=false:=by simpa using h2
     rw [this] at hp;simpa using hp
theorem Q5P {f:QV} (h:f.Kind=0):Xh s st f=true:=by unfold Xh;rw [if_pos h]
theorem Q4e {f:QV} (h:f.Kind=1):Xh s st f=Kj st f.A:=by unfold Xh;rw [if_neg (by omega),if_pos h]
theorem Q5W {f:QV} (h:f.Kind=2):Xh s st f=(k0 s.Floor f.A != 0&&!st.Dead.contains f.A):=by unfold Xh;rw [if_neg (by omega),if_neg (by omega),if_pos h]
theorem Q4l {f:QV} (h:f.Kind=3):Xh s st f=(Kj st f.A&&Q33 f.N):=by unfold Xh;rw [if_neg (by omega),if_neg (by omega),if_neg (by omega),if_pos h]
theorem Q5X {f:QV} (h:f.Kind=4):Xh s st f=(k0 s.Floor f.A == 6&&Q33 f.N):=by unfold Xh;rw [if_neg (by omega),if_neg (by omega),if_neg (by omega),if_neg (by omega),if_pos h]
theorem Q44 {f:QV} (h:f.Kind=5):Xh s st f=Q3R s st f.A f.N:=by unfold Xh;rw [if_neg (by omega),if_neg (by omega),if_neg (by omega),if_neg (by omega),if_neg (by omega),if_pos h]
theorem Q35 {f:QV} (h0:f.Kind≠0) (h1:f.Kind≠1) (h2:f.Kind≠2) (h3:f.Kind≠3) (h4:f.Kind≠4) (h5:f.Kind≠5):Xh s st f=false:=by
 unfold Xh;rw [if_neg h0,if_neg h1,if_neg h2,if_neg h3,if_neg h4,if_neg h5]
def Q3v (s:ApiSite) (st:ApiState) (f:QV):Int:=if Xh s st f=true then 0 else 26
theorem Yx (hf:RF s.Floor) (hz:Sz st) {f:QV} {post:Int→Prop} (hp:post (Q3v s st f)):X5 s st f post:=by
 unfold X5
 refine Jn.mk (fun b=>b=Q33 f.N) (Ite.mk (fun h=>?_) (fun h=>?_)) (fun lg hlg=>?_)
 ·unfold Q33;rw [h];rfl
 ·unfold Q33;rw [h];rfl
 refine Jn.mk (fun b=>b=Xh s st f) ?_ (fun b hb=>?_)
 rotate_left
 ·unfold Q3v at hp
  refine Ite.mk (fun h=>?_) (fun h=>?_)
  ·have:b=false:=by simpa using h
   rw [this] at hb;rw [←hb,if_neg (by simp)] at hp;exact hp
  ·have:b=true:=by simpa using h
   rw [this] at hb;rw [←hb,if_pos rfl] at hp;exact hp
 refine Ite.mk (fun h=>(Q5P (by simpa using h)).symm) (fun h0=>Jn.mk' (Ite.mk (fun h=>?_) (fun h1=>Jn.mk' (Ite.mk (fun h=>?_) (fun h2=>Jn.mk' (Ite.mk (fun h=>?_) (fun h3=>Jn.mk' (Ite.mk (fun h=>?_) (fun h4=>Jn.mk' (Ite.mk (fun h=>?_) (fun h5=>?_)))))))))))
 ·exact Q0F (Q4e (by simpa using h)).symm
 ·have e:=Q5W (s:=s) (st:=st) (f:=f) (by simpa using h)
  refine Jn.mk' (YR (Ite.mk (fun h=>K7 (by have:=hz.dd;unfold maxLen;omega) ?_) (fun h=>?_)))
  ·show _=Xh s st f
   rw [e,h];rfl
  ·show _=Xh s st f
   rw [e,h];rfl
 ·have e:=Q4l (s:=s) (st:=st) (f:=f) (by simpa using h)
  refine Jn.mk' (Q0F (Ite.mk (fun h=>?_) (fun h=>?_)))
  ·show _=Xh s st f
   rw [e,h,hlg];rfl
  ·show _=Xh s st f
   rw [e,h];rfl
 ·have e:=Q5X (s:=s) (st:=st) (f:=f) (by simpa using h)
  refine Jn.mk' (YR (Ite.mk (fun h=>?_) (fun h=>?_)))
  ·show _=Xh s st f
   rw [e,h,hlg];rfl
  ·show _=Xh s st f
   rw [e,h];rfl
 ·exact Q2z hf hz (Q44 (by simpa using h)).symm
 ·exact (Q35 (by simpa using h0) (by simpa using h1) (by simpa using h2) (by simpa using h3) (by simpa using h4) (by simpa using h5)).symm
/-! ## what happens -/
def srtI (l:List Int):List Int:=l.mergeSort fun x y=>decide (x≤y)
theorem Q3T (l:List Int):List.Perm (srtI l) l:=List.mergeSort_perm _ _
theorem Q8m (l:List Int):(srtI l).Pairwise (·≤·):=by
 have:=List.pairwise_mergeSort (le:=fun x y:Int=>decide (x≤y)) (fun a b c h1 h2=>by simp at *;omega) (fun a b=>by simp;omega) l
 exact this.imp (fun h=>by simpa using h)
def Xf (c n:Int):List ApiStuck→List ApiStuck
 | []=>[{Cell:=c,Left:=n}]
 | x :: r=>if x.Cell<c then x :: Xf c n r else if x.Cell=c then {Cell:=c,Left:=imax x.Left n} :: r else {Cell:=c,Left:=n} :: x :: r
theorem Q0h {c n:Int}:∀{p:List ApiStuck} (q:List ApiStuck),(∀x,x∈p→x.Cell<c)→Xf c n (p++q)=p++Xf c n q
 | [],_,_=>rfl
 | x :: p,q,h=>by
  show Xf c n (x :: (p++q))=_
  rw [Xf,if_pos (h x (by simp)),Q0h q (fun y hy=>h y (by simp [hy]))];rfl
theorem Q2a (c n:Int):∀l:List ApiStuck,l.length≤(Xf c n l).length∧(Xf c n l).length≤l.length+1
 | []=>by simp [Xf]
 | x :: r=>by
  have:=Q2a c n r
  unfold Xf;split
  ·simp;omega
  ·split <;> simp
theorem Q2K {c n:Int} {l:List ApiStuck} (hl:l.length≤1000) {post:List ApiStuck→Prop} (hp:post (Xf c n l)):Xt c n l post:=by
 unfold Xt Qs
 refine Ww (xs:=l) (by unfold maxLen;omega) (fun x:ApiStuck=>decide (x.Cell≥c)) (T:=fun x q=>XU x c q) (fun x _ q hq=>by unfold XU;exact hq) (post:=fun m=>Ite (decide (m<0)) _ _) ?_
 rcases XO (fun x:ApiStuck=>decide (x.Cell≥c)) l with ⟨i,x,hx,e,hpx,hb⟩ | ⟨e,hb⟩
 ·rw [e]
  have hlt:=(List.getElem?_eq_some_iff.1 hx).1
  have hsplit:l=l.take i++x :: l.drop (i+1):=by
   have h1:=(List.getElem?_eq_some_iff.1 hx).2
   conv=>lhs;rw [←List.take_append_drop i l]
   rw [List.drop_eq_getElem_cons hlt,h1]
  have hlow:∀y,y∈l.take i→y.Cell<c:=fun y hy=>by
   obtain⟨j,hj⟩:=List.getElem?_of_mem hy
   have hjl:=(List.getElem?_eq_some_iff.1 hj).1
   rw [List.length_take] at hjl
   rw [List.getElem?_take,if_pos (by omega)] at hj
   have:=hb j y (by omega) hj
   simpa using this
  have hpx':c≤x.Cell:=by simpa using hpx
  have est:Xf c n l=l.take i++Xf c n (x :: l.drop (i+1)):=by
   conv=>lhs;rw [hsplit]
   exact Q0h _ hlow
  refine Ite.f (decide_eq_false (by omega)) ⟨x,Qn rfl hx,Ite.mk (fun h=>?_) (fun h=>?_)⟩
  ·have hc:x.Cell=c:=by simpa using h
   have:l.set (Int.toNat (i:Int)) {Cell:=x.Cell,Left:=imax x.Left n}=Xf c n l:=by
    rw [est,Xf,if_neg (by omega),if_pos hc]
    show l.set i _=_
    conv=>lhs;rw [hsplit]
    have hti:(l.take i).length=i:=by rw [List.length_take];omega
    rw [List.set_append,if_neg (by omega),hti,Nat.sub_self,List.set_cons_zero,hc]
   rw [this];exact hp
  ·have hc:x.Cell≠c:=by simpa using h
   unfold QN
   refine⟨by omega,by simp,by rw [List.length_singleton];omega,?_⟩
   have:l.take (Int.toNat (i:Int))++([{Cell:=c,Left:=n}]++l.drop (Int.toNat (i:Int)))=Xf c n l:=by
    rw [est,Xf,if_neg (by omega),if_neg hc]
    show l.take i++([_]++l.drop i)=_
    rw [List.drop_eq_getElem_cons hlt,(List.getElem?_eq_some_iff.1 hx).2];rfl
   rw [this];exact hp
 ·rw [e]
  refine Ite.t (by decide) ⟨by simp;omega,?_⟩
  have:Xf c n l=l++Xf c n []:=by
   have:=Q0h (n:=n) (p:=l) [] (fun x hx=>by simpa using hb x hx)
   simpa using this
  rw [this] at hp;exact hp
end
end Go.Taq
