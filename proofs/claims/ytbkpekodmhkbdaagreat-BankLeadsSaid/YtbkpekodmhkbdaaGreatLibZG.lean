/- slices.Grow of a nil slice: an empty slice that is owned. -/
import Derived.Test.YtbkpekodmhkbdaaGreatLibZI
set_option linter.unusedVariables false
namespace Go.Taq
open Go
variable {P:Program}
def Q6U (w:World) (K:Nat) (e:Ending) (w':World):Prop:=
  (e=.returned (.slice none 0 0)∧w'=w)∨∃(G:Nat) (row:Array Value) (T:TypeId),e=.returned (.slice (some ⟨w.heap.size,0,none⟩) 0 G)∧row.size=G*K∧w'.heap=(w.alloc (.cells row T)).heap∧w'.os=w.os∧w'.tape=w.tape∧w'.output=w.output∧w.drawn≤w'.drawn
def Q6z (P:Program) (f:FuncId) (K:Nat):Prop:=
 ∀(w:World) (n:Nat),n≤1099511627776→Calls P f #[.slice none 0 0,.int .i64 n] w fun e w'=>Q6U w K e w'
theorem Tr.grow {f:FuncId} {K:Nat} (hraw:Q6z P f K) {α:Type} {enc:α→List AVal} (n:Nat) (hn:(n:Int)≤1099511627776) {post:List α→Prop} (hp:post []):
  Tr P f [.v (.slice none 0 0),.v (.int .i64 (n:Int))] [] 0 (fun A H' k'=>∃zs,post zs∧A=.o 0∧H'=[(0,.val (.os K enc zs))]∧k'=1):=by
 intro w ok F β vs hβ hok hF hH hd
 have hvs:vs=#[.slice none 0 0,.int .i64 (n:Int)]:=by
  have h0:=(hd.2 0 _ rfl).v_inv
  have h1:=(hd.2 1 _ rfl).v_inv
  have hs:=hd.1
  apply Array.ext
  ·simpa using hs.symm
  ·intro j hj1 hj2
   have hj:j=0∨j=1:=by simp at hj2;omega
   rcases hj with rfl | rfl
   ·simp [Array.getD_eq_getD_getElem?,Array.getElem?_eq_getElem hj1] at h0;simp [h0]
   ·simp [Array.getD_eq_getD_getElem?,Array.getElem?_eq_getElem hj1] at h1;simp [h1]
 subst hvs
 refine (hraw w n (by omega)).mono fun e w'=>?_
 have hβ0:β=[]:=List.length_eq_zero_iff.1 hβ
 subst hβ0
 rintro (⟨he,hw⟩ | ⟨G,row,T,he,hs,hh,h1,h2,h3,h4⟩)
 ·subst hw
  refine⟨_,.o 0,[(0,.val (.os K enc ([]:List α)))],[.slice none 0 0],fun _=>False,ok,he,⟨_,hp,rfl,rfl,rfl⟩,fun l x h=>by simp at h,fun l x b2 hl hx hh=>?_,(Kp.refl _ _),fun _ h=>h,fun x hx=>⟨.inl hx,(hok x hx).1⟩,fun x hx=>hx.elim,
   ⟨fun _=>False,fun _=>False,fun _ h=>h,fun _ h=>h.elim,fun _ h _=>h.elim,⟨_,rfl,.osNil _ _ _ _⟩,trivial⟩,.o 0 _ rfl rfl⟩
  have:=Ym (β:=[]) rfl (by omega) hx
  subst this;cases hh
 ·have hsz:w'.heap.size=w.heap.size+1:=by rw [hh,Q0w]
  have hkp:Kp w F w':=⟨h1,h2,h3,by rw [hsz];omega,fun x hx _=>by rw [hh];exact RowKit.Below.heap_alloc w _ x hx,.of_le h4⟩
  refine⟨_,.o 0,[(0,.val (.os K enc ([]:List α)))],[.slice (some ⟨w.heap.size,0,none⟩) 0 G],fun x=>x=w.heap.size,ok,he,⟨_,hp,rfl,rfl,rfl⟩,fun l x h=>by simp at h,fun l x b2 hl hx hh2=>?_,hkp,fun _ h=>h,fun x hx=>⟨.inl hx,by rw [hsz];have:=(hok x hx).1;omega⟩,fun x hx=>?_,
   ⟨fun x=>x=w.heap.size,fun _=>False,fun _ h=>h,fun _ h=>h.elim,fun _ _ h=>h,⟨_,rfl,?_⟩,trivial⟩,.o 0 _ rfl rfl⟩
  ·have:=Ym (β:=[]) rfl (by omega) hx
   subst this
   cases G with
   | zero=>cases hh2
   | succ G=>cases hh2;exact .inr (Nat.le_refl _)
  ·have hx':x=w.heap.size:=hx
   subst hx'
   exact⟨.inr (Nat.le_refl _),by rw [hsz];omega,fun ho=>by have:=(hok _ ho).1;omega⟩
  ·exact On.flat (xs:=([]:List α)) (off:=0) (c:=row) (T:=T) rfl (by rw [hh];exact heap_alloc_new w _) (Nat.zero_le _) (by rw [hs];omega) (fun i x h=>by simp at h) (fun i j x A h=>by simp at h)
end Go.Taq
