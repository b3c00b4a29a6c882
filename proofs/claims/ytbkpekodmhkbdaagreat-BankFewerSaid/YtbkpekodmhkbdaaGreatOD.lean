/- The mathematics, several parts in one text. -/
import Derived.Test.YtbkpekodmhkbdaaGreatNF
import Derived.Test.YtbkpekodmhkbdaaGreatNW
/- The mathematics, part OA: batteries, and the slots of a state. -/
set_option linter.unusedVariables false
set_option linter.unusedSimpArgs false
namespace Go.Taq
open Go

end Go.Taq

/- The mathematics, part OB: the slots of a state, in both; who carries. -/
set_option linter.unusedVariables false
set_option linter.unusedSimpArgs false
namespace Go.Taq
open Go

def low (c : Int) : Int := w64 (2 * c)
def high (c : Int) : Int := w64 (w64 (2 * c) + 1)
def slR (r : ApiRobot) : List Int := if 0 ≤ r.Load then [low r.Cell, high r.Cell] else [low r.Cell]
def slS (st : ApiState) (i : Nat) : List Int := if carB st i = true then [] else [high (st.Shelves.getD i 0)]
def slP (c : Int) : List Int := [low c, high c]
def allS (st : ApiState) : List Int := (List.range st.Robots.length).flatMap (fun i => slR (st.Robots.getD i default)) ++ (List.range st.Shelves.length).flatMap (slS st) ++ (List.range st.People.length).flatMap (fun i => slP (st.People.getD i 0))
structure Sz (st : ApiState) : Prop where
  sh : st.Shelves.length ≤ 1000
  rb : st.Robots.length ≤ 1000
  pp : st.People.length ≤ 1000
  dd : st.Dead.length ≤ 1000
  sk : st.Stuck.length ≤ 1000
theorem flat_len {n : Nat} {f : Nat → List Int} (h : ∀ i, i < n → (f i).length ≤ 2) : ((List.range n).flatMap f).length ≤ 2 * n := by
  induction n with
  | zero => simp
  | succ n ih => rw [List.range_succ, List.flatMap_append, List.length_append]; have := ih (fun i hi => h i (by omega)); have := h n (by omega); simp only [List.flatMap_cons, List.flatMap_nil, List.append_nil]; omega
theorem V_app {n : Nat} (hn : n ≤ 1000) {f : Nat → List Int} (hf : ∀ i, i < n → (f i).length ≤ 2) {T : Int → (List Int → Prop) → Prop} (hT : ∀ i : Nat, i < n → ∀ {q : List Int → Prop}, q (f i) → T (i : Int) q) {l0 : List Int} (hl : l0.length ≤ 1000000) {K : List Int → Prop} (hK : K (l0 ++ (List.range n).flatMap f)) :
    Jn (fun (J : List Int → Prop) => Loop (fun (s : List Int × Int) Y => Ite (decide (s.2 < (n : Int))) (T s.2 (fun x => (s.1.length + x.length ≤ 1099511627776) ∧ Y (s.1 ++ x, w64 (s.2 + 1)))) (J s.1)) (l0, 0)) (fun x => K x) := by
  refine Jn.mk (fun x => x = l0 ++ (List.range n).flatMap f) (V_upto n (fun t : List Int × Int => t.2) (fun i t => t.1 = l0 ++ (List.range i).flatMap f) (by unfold maxLen; omega) rfl (by simp) (fun i t hi h1 h2 => ?_) (fun t h => h)) (fun x hx => hx ▸ hK)
  rw [h1]
  refine hT i hi ⟨?_, rfl, ?_⟩
  · have := hf i hi
    have h3 := flat_len (n := i) (f := f) (fun j hj => hf j (by omega))
    rw [h2, List.length_append]; omega
  · show t.1 ++ f i = _
    rw [h2, List.range_succ, List.flatMap_append, List.append_assoc]; simp
section
variable {st : ApiState}
theorem S_body_at {r : ApiRobot} {post : List Int → Prop} (hp : post (slR r)) : V_body_at r r.Cell post := by
  unfold V_body_at V_body_Low V_body_High
  unfold slR low high at hp
  refine Ite.mk (fun h => ?_) (fun h => ?_) <;> simp at h
  · rw [if_pos h] at hp; exact hp
  · rw [if_neg (by omega)] at hp; exact hp
theorem getD_r {i : Nat} {r : ApiRobot} (h : st.Robots[i]? = some r) : st.Robots.getD i default = r := by rw [List.getD_eq_getElem?_getD, h]; rfl
theorem getD_i {l : List Int} {n : Nat} {x : Int} (h : l[n]? = some x) : l.getD n 0 = x := by rw [List.getD_eq_getElem?_getD, h]; rfl
theorem S_body_Robot {i : Nat} (hi : i < st.Robots.length) {post : List Int → Prop} (hp : post (slR (st.Robots.getD i default))) : V_body_Robot st i post := by
  have hx := List.getElem?_eq_getElem hi
  rw [getD_r hx] at hp
  unfold V_body_Robot
  exact Jor2 (Ite.f (by simp; omega) ⟨_, idx_of rfl hx, S_body_at hp⟩)
theorem S_body_Carrier (hz : Sz st) {i : Int} {post : Int → Prop} (hp : post (carr st i)) : V_body_Carrier st i post := by
  unfold V_body_Carrier V_slices_IndexFunc_api_Robot_api_Robot__body_Carrier_1
  unfold carr at hp
  refine Ite.mk (fun h => ?_) (fun h => ?_) <;> simp at h
  · rw [if_pos h] at hp; exact hp
  · rw [if_neg (by omega)] at hp
    exact V_fidxc (by have := hz.rb; unfold maxLen; omega) (fun r : ApiRobot => r.Load == i) (T := fun x q => V_body_Carrier_1 x i q) (fun x _ q hq => by unfold V_body_Carrier_1; exact hq) hp
theorem S_body_Shelf (hz : Sz st) {i : Nat} (hi : i < st.Shelves.length) {post : List Int → Prop} (hp : post (slS st i)) : V_body_Shelf st i post := by
  have hx := List.getElem?_eq_getElem hi
  unfold slS carB high at hp
  rw [getD_i hx] at hp
  unfold V_body_Shelf
  refine Jn.mk' (Ite.f (by simp) (Ite.f (by simp; omega) (S_body_Carrier hz ?_)))
  refine Ite.mk (fun h => ?_) (fun h => ?_)
  · rw [if_pos (by simpa using h)] at hp; exact hp
  · rw [if_neg (by simpa using h)] at hp; exact ⟨_, idx_of rfl hx, by unfold V_body_High; exact hp⟩
theorem S_body_Person {i : Nat} (hi : i < st.People.length) {post : List Int → Prop} (hp : post (slP (st.People.getD i 0))) : V_body_Person st i post := by
  have hx := List.getElem?_eq_getElem hi
  rw [getD_i hx] at hp
  unfold V_body_Person V_body_Low V_body_High
  exact Jor2 (Ite.f (by simp; omega) ⟨_, idx_of rfl hx, hp⟩)
theorem slR_len (r : ApiRobot) : (slR r).length ≤ 2 := by unfold slR; split <;> simp
theorem slS_len (i : Nat) : (slS st i).length ≤ 2 := by unfold slS; split <;> simp
theorem allS_len (hz : Sz st) : (allS st).length ≤ 6000 := by
  have h1 := flat_len (n := st.Robots.length) (f := fun i => slR (st.Robots.getD i default)) (fun i _ => slR_len _)
  have h2 := flat_len (n := st.Shelves.length) (f := slS st) (fun i _ => slS_len i)
  have h3 := flat_len (n := st.People.length) (f := fun i => slP (st.People.getD i 0)) (fun i _ => by simp [slP])
  have := hz.sh; have := hz.rb; have := hz.pp
  unfold allS; rw [List.length_append, List.length_append]; omega
theorem S_body_all (hz : Sz st) {post : List Int → Prop} (hp : post (allS st)) : V_body_all st post := by
  have h1 := flat_len (n := st.Robots.length) (f := fun i => slR (st.Robots.getD i default)) (fun i _ => slR_len _)
  have h2 := flat_len (n := st.Shelves.length) (f := slS st) (fun i _ => slS_len i)
  have q1 := hz.sh; have q2 := hz.rb; have q3 := hz.pp
  unfold V_body_all
  refine V_app q2 (f := fun i => slR (st.Robots.getD i default)) (fun i _ => slR_len _) (T := fun i q => V_body_Robot st i q) (fun i hi q hq => S_body_Robot hi hq) (by simp) ?_
  refine V_app q1 (f := slS st) (fun i _ => slS_len i) (T := fun i q => V_body_Shelf st i q) (fun i hi q hq => S_body_Shelf hz hi hq) (by rw [List.nil_append]; omega) ?_
  refine V_app q3 (f := fun i => slP (st.People.getD i 0)) (fun i _ => by simp [slP]) (T := fun i q => V_body_Person st i q) (fun i hi q hq => S_body_Person hi hq) (by rw [List.length_append]; simp only [List.nil_append]; omega) ?_
  exact hp
end
end Go.Taq

/- The mathematics, part OC: right states (taquinref14.Right, Few); the bounds of the statements about actions. -/
set_option linter.unusedVariables false
set_option linter.unusedSimpArgs false
namespace Go.Taq
open Go

def kx (f : ApiFloor) (c : Int) : Int := if isC f c = true then kd f c else -1
structure RRob (s : ApiSite) (st : ApiState) (i : Nat) (r : ApiRobot) : Prop where
  cell : isC s.Floor r.Cell = true
  kind : kd s.Floor r.Cell ≠ 0
  load : -1 ≤ r.Load ∧ r.Load < st.Shelves.length
  charge : 0 ≤ r.Charge ∧ r.Charge ≤ 1000000
  rest : 0 ≤ r.Rest ∧ r.Rest ≤ 20000
  mute : 0 ≤ r.Mute ∧ r.Mute ≤ 20000
  own : 0 ≤ r.Load → carr st r.Load = i ∧ st.Shelves.getD r.Load.toNat 0 = r.Cell
structure RSt (s : ApiSite) (st : ApiState) : Prop where
  tick : 0 ≤ st.Tick ∧ st.Tick ≤ 20000
  sl : st.Shelves.length = s.Shelves.length
  rl : st.Robots.length = s.Robots.length
  pl : st.People.length ≤ 20
  rob : ∀ (i : Nat) r, st.Robots[i]? = some r → RRob s st i r
  shel : ∀ (i : Nat) c, st.Shelves[i]? = some c → carB st i = false → kx s.Floor c = 1 ∨ kx s.Floor c = 2
  ppl : ∀ (i : Nat) c, st.People[i]? = some c → kx s.Floor c = 4 ∨ kx s.Floor c = 5
  dead : ∀ (i : Nat) c, st.Dead[i]? = some c → isC s.Floor c = true
  deadA : ∀ (i : Nat) x y, st.Dead[i]? = some x → st.Dead[i + 1]? = some y → x < y
  stuck : ∀ (i : Nat) x, st.Stuck[i]? = some x → kx s.Floor x.Cell = 6 ∧ 1 ≤ x.Left ∧ x.Left ≤ 20000
  stuckA : ∀ (i : Nat) x y, st.Stuck[i]? = some x → st.Stuck[i + 1]? = some y → x.Cell < y.Cell
  clash : (allS st).Nodup
structure Few12 (st : ApiState) : Prop where
  sh : st.Shelves.length ≤ 12
  rb : st.Robots.length ≤ 12
  pp : st.People.length ≤ 12
  dd : st.Dead.length ≤ 12
  sk : st.Stuck.length ≤ 12
theorem Few12.sz {st : ApiState} (h : Few12 st) : Sz st := ⟨by have := h.sh; omega, by have := h.rb; omega, by have := h.pp; omega, by have := h.dd; omega, by have := h.sk; omega⟩
/-- a loop that looks at each place of a list -/
theorem V_chk {α : Type} {xs : List α} (hm : xs.length ≤ maxLen) (P : Nat → α → Prop) {T : Int → (Bool → Prop) → Prop} {E : Prop} {post : Bool → Prop}
    (hT : ∀ (i : Nat) x, xs[i]? = some x → ∀ {q : Bool → Prop}, q true → (P i x → q false) → T (i : Int) q) (hF : post false) (hE : (∀ (i : Nat) x, xs[i]? = some x → P i x) → E) :
    Jn (fun (J : Unit → Prop) => Loop (fun (s : Int) Y => Ite (decide (s < (xs.length : Int))) (T s (fun b => Ite b (post false) (Y (w64 (s + 1))))) (J ())) 0) (fun _ => E) := by
  refine Jn.mk (fun _ => E) (V_loopj hm (fun t => t) (fun i _ => ∀ (j : Nat) x, j < i → xs[j]? = some x → P j x) rfl (fun j x h => by omega) (fun i x t hx ht hI => ?_) (fun t h => hE fun j x hj => h j x (List.getElem?_eq_some_iff.1 hj).1 hj)) (fun _ h => h)
  rw [ht]
  refine hT i x hx (Ite.t rfl hF) (fun hP => Ite.f rfl ⟨rfl, fun j y hj hy => ?_⟩)
  by_cases e : j = i
  · subst e; rw [hx] at hy; cases hy; exact hP
  · exact hI j y (by omega) hy
section
variable {st : ApiState}
theorem S_ref14_Few {post : Bool → Prop} (hF : post false) (hT : Few12 st → post true) : V_taquinref14_Few st post := by
  unfold V_taquinref14_Few
  refine Jor5 (Ite.mk (fun _ => hF) (fun h => ?_))
  simp only [Bool.or_eq_false_iff, decide_eq_false_iff_not] at h
  have hw : Few12 st := ⟨by omega, by omega, by omega, by omega, by omega⟩
  have := hw.sh; have := hw.pp; have := hw.dd; have := hw.rb
  refine ⟨by simp; omega, by simp; omega, by simp; omega, ?_⟩
  refine Jn.mk (fun l : List Int => l.length ≤ 48) (V_loopc (xs := st.Robots) (by unfold maxLen; omega) (fun t : List Int × Int => t.2) (fun i t => t.1.length ≤ 36 + i) rfl (by simp; omega) (fun i x t hx ht hI => ?_) (fun t h => by show t.1.length ≤ 48; omega)) (fun l hl => ?_)
  · have := (List.getElem?_eq_some_iff.1 hx).1
    refine ⟨by simp; omega, by show w64 (t.2 + 1) = _; rw [ht], by show (t.1 ++ [x.Cell]).length ≤ _; simp; omega⟩
  · exact V_chk (xs := l) (by unfold maxLen; omega) (fun _ _ => True) (T := fun i q => Jn (fun (J42 : Bool → Prop) => ∃ x43, idx l i = some x43 ∧ Ite (decide (x43 < (-1152921504606846976))) (J42 true) (J42 (decide (x43 > 1152921504606846976)))) q) (fun i x hx q q1 q2 => Jn.ex x (idx_of rfl hx) (Jor2 (by
      cases hb : (decide (x < (-1152921504606846976)) || decide (x > 1152921504606846976))
      · exact q2 trivial
      · exact q1))) hF (fun _ => hT hw)
end
end Go.Taq

/- The mathematics, part OD: which actions are legal, and what they do. -/
set_option linter.unusedVariables false
set_option linter.unusedSimpArgs false
namespace Go.Taq
open Go

section

end
end Go.Taq
