/- The mathematics, several parts in one text. -/
import Derived.Test.YtbpbennpgnjbkaaGreatNF
import Derived.Test.YtbpbennpgnjbkaaGreatNW
/- The mathematics, part OA: batteries, and the slots of a state. -/
set_option linter.unusedVariables false
set_option linter.unusedSimpArgs false
namespace Go.Taq
open Go

/-- the base of an action's cost -/
def bas (a : Int) (l : Bool) : Int :=
  if a = 0 ∨ a = 8 then 1 else if a = 7 then 3 else if a < 1 ∨ a ≥ 7 then 0 else (if a = 5 then 5 else if a = 6 then 1 else 2) + if l = true then 2 else 0
def agT (t : Int) : Int := if t < 0 then 0 else if t > 20000 then 20 else t / 1000
def cst (t a : Int) (l : Bool) : Int := (bas a l * (10 + agT t) + 9) / 10
def aft (t ch a : Int) (l : Bool) : Int × Int :=
  if ch < 0 ∨ ch > 1000000 ∨ a < 0 ∨ a ≥ 10 then (ch, 1) else if a = 9 then (if ch > 999980 then 1000000 else ch + 20, 0) else if ch < cst t a l then (ch, 16) else (ch - cst t a l, 0)
theorem bas_bd (a : Int) (l : Bool) : bas a l = 0 ∨ bas a l = 1 ∨ bas a l = 2 ∨ bas a l = 3 ∨ bas a l = 4 ∨ bas a l = 5 ∨ bas a l = 7 := by
  unfold bas
  cases l <;> simp <;> split <;> (try split) <;> (try split) <;> (try split) <;> (try split) <;> omega
theorem agT_bd (t : Int) : 0 ≤ agT t ∧ agT t ≤ 20 := by unfold agT; split <;> (try split) <;> omega
theorem prod_bd (a t : Int) (l : Bool) : 0 ≤ bas a l * (10 + agT t) ∧ bas a l * (10 + agT t) ≤ 210 := by
  have h := agT_bd t
  rcases bas_bd a l with e | e | e | e | e | e | e <;> rw [e] <;> omega
theorem cst_bd (t a : Int) (l : Bool) : 0 ≤ cst t a l ∧ cst t a l ≤ 21 := by have := prod_bd a t l; unfold cst; omega
theorem act10 {a : Int} (h0 : 0 ≤ a) (h9 : a < 10) : a = 0 ∨ a = 1 ∨ a = 2 ∨ a = 3 ∨ a = 4 ∨ a = 5 ∨ a = 6 ∨ a = 7 ∨ a = 8 ∨ a = 9 := by omega
theorem S_battery_Base {a : Int} (h0 : 0 ≤ a) (h9 : a < 10) {l : Bool} {post : Int → Prop} (hp : post (bas a l)) : V_battery_Base a l post := by
  unfold V_battery_Base
  rcases act10 h0 h9 with rfl | rfl | rfl | rfl | rfl | rfl | rfl | rfl | rfl | rfl <;> cases l <;> repeat (first | exact hp | refine Jn.mk' ?_ | refine Ite.t (by decide) ?_ | refine Ite.f (by decide) ?_)
theorem age_eq (t : Int) : w64 ((imin (imax t 0) 20000).tdiv 1000) = agT t := by
  have e : (imin (imax t 0) 20000).tdiv 1000 = agT t := by
    unfold imin imax agT
    rw [Int.tdiv_eq_ediv_of_nonneg (by repeat' split <;> omega)]
    repeat' split <;> omega
  rw [e]; have := agT_bd t; exact w64_eq (by omega) (by omega)
theorem S_battery_Cost {t a : Int} (h0 : 0 ≤ a) (h9 : a < 10) {l : Bool} {post : Int → Prop} (hp : post (cst t a l)) : V_battery_Cost t a l post := by
  unfold V_battery_Cost
  refine S_battery_Base h0 h9 ?_
  have hb := prod_bd a t l
  have ha := agT_bd t
  rw [age_eq, w64_eq (x := 10 + agT t) (by omega) (by omega), w64_eq (x := bas a l * (10 + agT t)) (by omega) (by omega), w64_eq (x := bas a l * (10 + agT t) + 9) (by omega) (by omega), Int.tdiv_eq_ediv_of_nonneg (by omega)]
  have hc := cst_bd t a l
  unfold cst at hc hp
  rw [w64_eq (by omega) (by omega)]
  exact hp
theorem S_battery_Spend {ch c : Int} (hc : 0 ≤ c ∧ c ≤ 100) {post : Int × Int → Prop} (hp : post (if ch < 0 ∨ ch > 1000000 then (ch, 1) else if ch < c then (ch, 16) else (ch - c, 0))) : V_battery_Spend ch c post := by
  unfold V_battery_Spend V_battery_isCharge
  refine Jn.mk (fun b => b = decide (ch < 0 ∨ ch > 1000000)) (Jand2 (Ite.mk (fun h => ?_) (fun h => ?_))) (fun b hb => ?_)
  · simp at h; rw [decide_eq_false (by omega : ¬ c < 0)]; simp; omega
  · simp at h; simp; omega
  · subst hb
    refine Ite.mk (fun h => ?_) (fun h => Ite.mk (fun h1 => ?_) (fun h1 => ?_))
    · rw [if_pos (by simpa using h)] at hp; exact hp
    · rw [if_neg (by simpa using h), if_pos (by simpa using h1)] at hp; exact hp
    · rw [if_neg (by simpa using h), if_neg (by simpa using h1)] at hp
      simp at h h1
      rw [w64_eq (by omega) (by omega)]; exact hp
theorem S_battery_After {t ch a : Int} {l : Bool} {post : Int × Int → Prop} (hp : post (aft t ch a l)) : V_battery_After t ch a l post := by
  unfold V_battery_After V_battery_isCharge
  refine Jn.mk (fun b => b = decide (ch < 0 ∨ ch > 1000000 ∨ a < 0 ∨ a ≥ 10)) (Jand2 (Ite.mk (fun h => Ite.mk (fun h1 => ?_) (fun h1 => ?_)) (fun h => ?_))) (fun b hb => ?_)
  · simp at h h1; simp; omega
  · simp at h h1; show decide (a ≥ 10) = decide (ch < 0 ∨ ch > 1000000 ∨ a < 0 ∨ a ≥ 10); rw [Bool.eq_iff_iff]; simp; omega
  · simp at h; simp; omega
  · subst hb
    unfold aft at hp
    refine Ite.mk (fun h => ?_) (fun h => Ite.mk (fun h1 => ?_) (fun h1 => ?_))
    · rw [if_pos (by simpa using h)] at hp; exact hp
    · simp at h1; rw [if_neg (by simpa using h), if_pos h1] at hp
      simp at h
      rw [w64_eq (x := ch + 20) (by omega) (by omega)]
      have e : imin (ch + 20) 1000000 = if ch > 999980 then 1000000 else ch + 20 := by unfold imin; repeat' split <;> omega
      rw [e]; exact hp
    · simp at h1; rw [if_neg (by simpa using h), if_neg h1] at hp
      simp at h
      refine S_battery_Cost (by omega) (by omega) (S_battery_Spend (by have := cst_bd t a l; omega) ?_)
      rw [if_neg (by omega)]
      split
      · rw [if_pos (by assumption)] at hp; exact hp
      · rw [if_neg (by assumption)] at hp; exact hp
end Go.Taq

/- The mathematics, part OB: the slots of a state, in both; who carries. -/
set_option linter.unusedVariables false
set_option linter.unusedSimpArgs false
namespace Go.Taq
open Go

def low (c : Int) : Int := w64 (2 * c)
def high (c : Int) : Int := w64 (w64 (2 * c) + 1)
def slR (r : ApiRobot) : List Int := if 0 ≤ r.Load then [low r.Cell, high r.Cell] else [low r.Cell]
def slS (st : ApiState) (i : Nat) : List Int := if carB st i = true then [] else [high (st.Shelves.getD i 0)]
def slP (c : Int) : List Int := [low c, high c]
def allS (st : ApiState) : List Int := (List.range st.Robots.length).flatMap (fun i => slR (st.Robots.getD i default)) ++ (List.range st.Shelves.length).flatMap (slS st) ++ (List.range st.People.length).flatMap (fun i => slP (st.People.getD i 0))
structure Sz (st : ApiState) : Prop where
  sh : st.Shelves.length ≤ 1000
  rb : st.Robots.length ≤ 1000
  pp : st.People.length ≤ 1000
  dd : st.Dead.length ≤ 1000
  sk : st.Stuck.length ≤ 1000
theorem flat_len {n : Nat} {f : Nat → List Int} (h : ∀ i, i < n → (f i).length ≤ 2) : ((List.range n).flatMap f).length ≤ 2 * n := by
  induction n with
  | zero => simp
  | succ n ih => rw [List.range_succ, List.flatMap_append, List.length_append]; have := ih (fun i hi => h i (by omega)); have := h n (by omega); simp only [List.flatMap_cons, List.flatMap_nil, List.append_nil]; omega
theorem V_app {n : Nat} (hn : n ≤ 1000) {f : Nat → List Int} (hf : ∀ i, i < n → (f i).length ≤ 2) {T : Int → (List Int → Prop) → Prop} (hT : ∀ i : Nat, i < n → ∀ {q : List Int → Prop}, q (f i) → T (i : Int) q) {l0 : List Int} (hl : l0.length ≤ 1000000) {K : List Int → Prop} (hK : K (l0 ++ (List.range n).flatMap f)) :
    Jn (fun (J : List Int → Prop) => Loop (fun (s : List Int × Int) Y => Ite (decide (s.2 < (n : Int))) (T s.2 (fun x => (s.1.length + x.length ≤ 1099511627776) ∧ Y (s.1 ++ x, w64 (s.2 + 1)))) (J s.1)) (l0, 0)) (fun x => K x) := by
  refine Jn.mk (fun x => x = l0 ++ (List.range n).flatMap f) (V_upto n (fun t : List Int × Int => t.2) (fun i t => t.1 = l0 ++ (List.range i).flatMap f) (by unfold maxLen; omega) rfl (by simp) (fun i t hi h1 h2 => ?_) (fun t h => h)) (fun x hx => hx ▸ hK)
  rw [h1]
  refine hT i hi ⟨?_, rfl, ?_⟩
  · have := hf i hi
    have h3 := flat_len (n := i) (f := f) (fun j hj => hf j (by omega))
    rw [h2, List.length_append]; omega
  · show t.1 ++ f i = _
    rw [h2, List.range_succ, List.flatMap_append, List.append_assoc]; simp
section
variable {st : ApiState}
theorem S_body_at {r : ApiRobot} {post : List Int → Prop} (hp : post (slR r)) : V_body_at r r.Cell post := by
  unfold V_body_at V_body_Low V_body_High
  unfold slR low high at hp
  refine Ite.mk (fun h => ?_) (fun h => ?_) <;> simp at h
  · rw [if_pos h] at hp; exact hp
  · rw [if_neg (by omega)] at hp; exact hp
theorem getD_r {i : Nat} {r : ApiRobot} (h : st.Robots[i]? = some r) : st.Robots.getD i default = r := by rw [List.getD_eq_getElem?_getD, h]; rfl
theorem getD_i {l : List Int} {n : Nat} {x : Int} (h : l[n]? = some x) : l.getD n 0 = x := by rw [List.getD_eq_getElem?_getD, h]; rfl
theorem S_body_Robot {i : Nat} (hi : i < st.Robots.length) {post : List Int → Prop} (hp : post (slR (st.Robots.getD i default))) : V_body_Robot st i post := by
  have hx := List.getElem?_eq_getElem hi
  rw [getD_r hx] at hp
  unfold V_body_Robot
  exact Jor2 (Ite.f (by simp; omega) ⟨_, idx_of rfl hx, S_body_at hp⟩)
theorem S_body_Carrier (hz : Sz st) {i : Int} {post : Int → Prop} (hp : post (carr st i)) : V_body_Carrier st i post := by
  unfold V_body_Carrier V_slices_IndexFunc_api_Robot_api_Robot__body_Carrier_1
  unfold carr at hp
  refine Ite.mk (fun h => ?_) (fun h => ?_) <;> simp at h
  · rw [if_pos h] at hp; exact hp
  · rw [if_neg (by omega)] at hp
    exact V_fidxc (by have := hz.rb; unfold maxLen; omega) (fun r : ApiRobot => r.Load == i) (T := fun x q => V_body_Carrier_1 x i q) (fun x _ q hq => by unfold V_body_Carrier_1; exact hq) hp
theorem S_body_Shelf (hz : Sz st) {i : Nat} (hi : i < st.Shelves.length) {post : List Int → Prop} (hp : post (slS st i)) : V_body_Shelf st i post := by
  have hx := List.getElem?_eq_getElem hi
  unfold slS carB high at hp
  rw [getD_i hx] at hp
  unfold V_body_Shelf
  refine Jn.mk' (Ite.f (by simp) (Ite.f (by simp; omega) (S_body_Carrier hz ?_)))
  refine Ite.mk (fun h => ?_) (fun h => ?_)
  · rw [if_pos (by simpa using h)] at hp; exact hp
  · rw [if_neg (by simpa using h)] at hp; exact ⟨_, idx_of rfl hx, by unfold V_body_High; exact hp⟩
theorem S_body_Person {i : Nat} (hi : i < st.People.length) {post : List Int → Prop} (hp : post (slP (st.People.getD i 0))) : V_body_Person st i post := by
  have hx := List.getElem?_eq_getElem hi
  rw [getD_i hx] at hp
  unfold V_body_Person V_body_Low V_body_High
  exact Jor2 (Ite.f (by simp; omega) ⟨_, idx_of rfl hx, hp⟩)
theorem slR_len (r : ApiRobot) : (slR r).length ≤ 2 := by unfold slR; split <;> simp
theorem slS_len (i : Nat) : (slS st i).length ≤ 2 := by unfold slS; split <;> simp
theorem allS_len (hz : Sz st) : (allS st).length ≤ 6000 := by
  have h1 := flat_len (n := st.Robots.length) (f := fun i => slR (st.Robots.getD i default)) (fun i _ => slR_len _)
  have h2 := flat_len (n := st.Shelves.length) (f := slS st) (fun i _ => slS_len i)
  have h3 := flat_len (n := st.People.length) (f := fun i => slP (st.People.getD i 0)) (fun i _ => by simp [slP])
  have := hz.sh; have := hz.rb; have := hz.pp
  unfold allS; rw [List.length_append, List.length_append]; omega
theorem S_body_all (hz : Sz st) {post : List Int → Prop} (hp : post (allS st)) : V_body_all st post := by
  have h1 := flat_len (n := st.Robots.length) (f := fun i => slR (st.Robots.getD i default)) (fun i _ => slR_len _)
  have h2 := flat_len (n := st.Shelves.length) (f := slS st) (fun i _ => slS_len i)
  have q1 := hz.sh; have q2 := hz.rb; have q3 := hz.pp
  unfold V_body_all
  refine V_app q2 (f := fun i => slR (st.Robots.getD i default)) (fun i _ => slR_len _) (T := fun i q => V_body_Robot st i q) (fun i hi q hq => S_body_Robot hi hq) (by simp) ?_
  refine V_app q1 (f := slS st) (fun i _ => slS_len i) (T := fun i q => V_body_Shelf st i q) (fun i hi q hq => S_body_Shelf hz hi hq) (by rw [List.nil_append]; omega) ?_
  refine V_app q3 (f := fun i => slP (st.People.getD i 0)) (fun i _ => by simp [slP]) (T := fun i q => V_body_Person st i q) (fun i hi q hq => S_body_Person hi hq) (by rw [List.length_append]; simp only [List.nil_append]; omega) ?_
  exact hp
theorem S_body_All (hz : Sz st) {post : List Int → Prop} (hp : ∀ l, List.Perm l (allS st) → post l) : V_body_All st post := by
  unfold V_body_All V_slices_Sort_int_int__o0
  exact S_body_all hz ⟨by have := allS_len hz; omega, hp _ (List.mergeSort_perm _ _)⟩
theorem perm_contains {l m : List Int} (h : List.Perm l m) (x : Int) : l.contains x = m.contains x := by
  rw [Bool.eq_iff_iff]; simp [h.mem_iff]
end
end Go.Taq

/- The mathematics, part OC: right states (taquinref14.Right, Few); the bounds of the statements about actions. -/
set_option linter.unusedVariables false
set_option linter.unusedSimpArgs false
namespace Go.Taq
open Go

def kx (f : ApiFloor) (c : Int) : Int := if isC f c = true then kd f c else -1
structure RRob (s : ApiSite) (st : ApiState) (i : Nat) (r : ApiRobot) : Prop where
  cell : isC s.Floor r.Cell = true
  kind : kd s.Floor r.Cell ≠ 0
  load : -1 ≤ r.Load ∧ r.Load < st.Shelves.length
  charge : 0 ≤ r.Charge ∧ r.Charge ≤ 1000000
  rest : 0 ≤ r.Rest ∧ r.Rest ≤ 20000
  mute : 0 ≤ r.Mute ∧ r.Mute ≤ 20000
  own : 0 ≤ r.Load → carr st r.Load = i ∧ st.Shelves.getD r.Load.toNat 0 = r.Cell
structure RSt (s : ApiSite) (st : ApiState) : Prop where
  tick : 0 ≤ st.Tick ∧ st.Tick ≤ 20000
  sl : st.Shelves.length = s.Shelves.length
  rl : st.Robots.length = s.Robots.length
  pl : st.People.length ≤ 20
  rob : ∀ (i : Nat) r, st.Robots[i]? = some r → RRob s st i r
  shel : ∀ (i : Nat) c, st.Shelves[i]? = some c → carB st i = false → kx s.Floor c = 1 ∨ kx s.Floor c = 2
  ppl : ∀ (i : Nat) c, st.People[i]? = some c → kx s.Floor c = 4 ∨ kx s.Floor c = 5
  dead : ∀ (i : Nat) c, st.Dead[i]? = some c → isC s.Floor c = true
  deadA : ∀ (i : Nat) x y, st.Dead[i]? = some x → st.Dead[i + 1]? = some y → x < y
  stuck : ∀ (i : Nat) x, st.Stuck[i]? = some x → kx s.Floor x.Cell = 6 ∧ 1 ≤ x.Left ∧ x.Left ≤ 20000
  stuckA : ∀ (i : Nat) x y, st.Stuck[i]? = some x → st.Stuck[i + 1]? = some y → x.Cell < y.Cell
  clash : (allS st).Nodup
structure Few12 (st : ApiState) : Prop where
  sh : st.Shelves.length ≤ 12
  rb : st.Robots.length ≤ 12
  pp : st.People.length ≤ 12
  dd : st.Dead.length ≤ 12
  sk : st.Stuck.length ≤ 12
theorem Few12.sz {st : ApiState} (h : Few12 st) : Sz st := ⟨by have := h.sh; omega, by have := h.rb; omega, by have := h.pp; omega, by have := h.dd; omega, by have := h.sk; omega⟩
/-- a loop that looks at each place of a list -/
theorem V_chk {α : Type} {xs : List α} (hm : xs.length ≤ maxLen) (P : Nat → α → Prop) {T : Int → (Bool → Prop) → Prop} {E : Prop} {post : Bool → Prop}
    (hT : ∀ (i : Nat) x, xs[i]? = some x → ∀ {q : Bool → Prop}, q true → (P i x → q false) → T (i : Int) q) (hF : post false) (hE : (∀ (i : Nat) x, xs[i]? = some x → P i x) → E) :
    Jn (fun (J : Unit → Prop) => Loop (fun (s : Int) Y => Ite (decide (s < (xs.length : Int))) (T s (fun b => Ite b (post false) (Y (w64 (s + 1))))) (J ())) 0) (fun _ => E) := by
  refine Jn.mk (fun _ => E) (V_loopj hm (fun t => t) (fun i _ => ∀ (j : Nat) x, j < i → xs[j]? = some x → P j x) rfl (fun j x h => by omega) (fun i x t hx ht hI => ?_) (fun t h => hE fun j x hj => h j x (List.getElem?_eq_some_iff.1 hj).1 hj)) (fun _ h => h)
  rw [ht]
  refine hT i x hx (Ite.t rfl hF) (fun hP => Ite.f rfl ⟨rfl, fun j y hj hy => ?_⟩)
  by_cases e : j = i
  · subst e; rw [hx] at hy; cases hy; exact hP
  · exact hI j y (by omega) hy
section
variable {s : ApiSite} {st : ApiState}
theorem S_ref14_Few {post : Bool → Prop} (hF : post false) (hT : Few12 st → post true) : V_taquinref14_Few st post := by
  unfold V_taquinref14_Few
  refine Jor5 (Ite.mk (fun _ => hF) (fun h => ?_))
  simp only [Bool.or_eq_false_iff, decide_eq_false_iff_not] at h
  have hw : Few12 st := ⟨by omega, by omega, by omega, by omega, by omega⟩
  have := hw.sh; have := hw.pp; have := hw.dd; have := hw.rb
  refine ⟨by simp; omega, by simp; omega, by simp; omega, ?_⟩
  refine Jn.mk (fun l : List Int => l.length ≤ 48) (V_loopc (xs := st.Robots) (by unfold maxLen; omega) (fun t : List Int × Int => t.2) (fun i t => t.1.length ≤ 36 + i) rfl (by simp; omega) (fun i x t hx ht hI => ?_) (fun t h => by show t.1.length ≤ 48; omega)) (fun l hl => ?_)
  · have := (List.getElem?_eq_some_iff.1 hx).1
    refine ⟨by simp; omega, by show w64 (t.2 + 1) = _; rw [ht], by show (t.1 ++ [x.Cell]).length ≤ _; simp; omega⟩
  · exact V_chk (xs := l) (by unfold maxLen; omega) (fun _ _ => True) (T := fun i q => Jn (fun (J42 : Bool → Prop) => ∃ x43, idx l i = some x43 ∧ Ite (decide (x43 < (-1152921504606846976))) (J42 true) (J42 (decide (x43 > 1152921504606846976)))) q) (fun i x hx q q1 q2 => Jn.ex x (idx_of rfl hx) (Jor2 (by
      cases hb : (decide (x < (-1152921504606846976)) || decide (x > 1152921504606846976))
      · exact q2 trivial
      · exact q1))) hF (fun _ => hT hw)
structure Fair (s : ApiSite) (st : ApiState) : Prop where
  r : RSite s
  few : FewS s 60 30
  f12 : Few12 st
  rst : RSt s st
end
end Go.Taq

/- The mathematics, part OD: which actions are legal, and what they do. -/
set_option linter.unusedVariables false
set_option linter.unusedSimpArgs false
namespace Go.Taq
open Go

structure LS (s : ApiSite) (st : ApiState) : Prop where
  fl : RF s.Floor
  rs : RS s
  sz : Sz st
  cell : ∀ c, c ∈ st.Shelves → isC s.Floor c = true
  rob : ∀ (i : Nat) r, st.Robots[i]? = some r → isC s.Floor r.Cell = true ∧ -1 ≤ r.Load ∧ r.Load < st.Shelves.length
def mvB (a : Int) : Bool := decide (1 ≤ a) && decide (a < 7)
def movS (s : ApiSite) (st : ApiState) (r : ApiRobot) (d : Int) : Int :=
  if (!(nx s.Floor r.Cell d).2 || st.Dead.contains (nx s.Floor r.Cell d).1) = true then 14
  else if ((d == 4 || d == 5) && (st.Stuck.any fun x => x.Cell == r.Cell || x.Cell == (nx s.Floor r.Cell d).1)) = true then 14
  else if opn s (nx s.Floor r.Cell d).1 st.Tick = false then 18
  else if ((allS st).contains (low (nx s.Floor r.Cell d).1) || (decide (r.Load ≥ 0) && (allS st).contains (high (nx s.Floor r.Cell d).1))) = true then 15 else 0
def legR (s : ApiSite) (st : ApiState) (r : ApiRobot) (a : Int) : Int :=
  if a < 0 ∨ a ≥ 10 then 1 else if a = 0 then 0
  else if (r.Dead || decide (r.Mute > 0)) = true then 9
  else if (mvB a && decide (r.Rest > 0)) = true then 8
  else if (aft st.Tick r.Charge a (decide (r.Load ≥ 0))).2 = 16 then 16
  else if mvB a = true then movS s st r (a - 1)
  else if a = 7 then (if r.Load ≥ 0 then 7 else if atS st r.Cell < 0 then 4 else 0)
  else if a = 8 then (if r.Load < 0 then 7 else dropS s st r.Load r.Cell)
  else if kd s.Floor r.Cell = 3 then 0 else 13
def legS (s : ApiSite) (st : ApiState) (i a : Int) : Int := if i < 0 ∨ i ≥ st.Robots.length then 4 else legR s st (st.Robots.getD i.toNat default) a
def chg (st : ApiState) (r : ApiRobot) (a : Int) : Int := if (aft st.Tick r.Charge a (decide (r.Load ≥ 0))).2 = 0 then (aft st.Tick r.Charge a (decide (r.Load ≥ 0))).1 else 0
def lod (st : ApiState) (r : ApiRobot) (a : Int) : Int := if a = 7 then atS st r.Cell else if a = 8 then -1 else r.Load
def nwR (s : ApiSite) (st : ApiState) (r : ApiRobot) (a : Int) : ApiRobot :=
  if (mvB a && (nx s.Floor r.Cell (a - 1)).2) = true then { r with Cell := (nx s.Floor r.Cell (a - 1)).1, Load := lod st r a, Charge := chg st r a, Rest := spd s (nx s.Floor r.Cell (a - 1)).1 - 1 }
  else { r with Load := lod st r a, Charge := chg st r a }
def nwS (s : ApiSite) (st : ApiState) (r : ApiRobot) (a : Int) : List Int :=
  if (mvB a && (nx s.Floor r.Cell (a - 1)).2) = true ∧ 0 ≤ lod st r a then st.Shelves.set (lod st r a).toNat (nx s.Floor r.Cell (a - 1)).1 else st.Shelves
def doR (s : ApiSite) (st : ApiState) (n : Nat) (r : ApiRobot) (a : Int) : ApiState :=
  if r.Dead = true then st else { st with Shelves := nwS s st r a, Robots := st.Robots.set n (nwR s st r a) }
section
variable {s : ApiSite} {st : ApiState}
theorem mvB_iff {a : Int} : mvB a = true ↔ 1 ≤ a ∧ a < 7 := by simp [mvB]
theorem S_act_direction {a : Int} (h0 : 0 ≤ a) (h9 : a < 10) {post : Int × Bool → Prop} (hp : post (a - 1, mvB a)) : V_act_direction a post := by
  unfold V_act_direction
  rw [w64_eq (by omega) (by omega)]
  refine Jand2 ?_
  have : (decide (a - 1 ≥ 0) && decide (a - 1 < 6)) = mvB a := by rw [Bool.eq_iff_iff, mvB_iff]; simp; omega
  rw [this]; exact hp
theorem S_stuck {xs : List ApiStuck} (hl : xs.length ≤ maxLen) {r : ApiRobot} {c : Int} {post : Bool → Prop} (hp : post (xs.any fun x => x.Cell == r.Cell || x.Cell == c)) : V_slices_ContainsFunc_api_Stuck_api_Stuck__act_move_1 xs r c post := by
  unfold V_slices_ContainsFunc_api_Stuck_api_Stuck__act_move_1 V_slices_IndexFunc_api_Stuck_api_Stuck__act_move_1
  exact V_fidxc hl (fun x : ApiStuck => x.Cell == r.Cell || x.Cell == c) (T := fun x q => V_act_move_1 x r c q) (fun x _ q hq => by unfold V_act_move_1; exact Jor2 hq) (post := fun n => post (decide (n ≥ 0))) (by rw [fidx_any]; exact hp)
theorem S_act_move (ks : OkApiSite s) (h : LS s st) {r : ApiRobot} {d : Int} {post : Int → Prop} (hp : post (movS s st r d)) : V_act_move s st r d post := by
  have hd : st.Dead.length ≤ maxLen := by have := h.sz.dd; unfold maxLen; omega
  have hk : st.Stuck.length ≤ maxLen := by have := h.sz.sk; unfold maxLen; omega
  unfold V_act_move V_body_Low V_body_High
  unfold movS at hp
  refine S_floor_Next h.fl ?_
  generalize nx s.Floor r.Cell d = x at hp
  refine Jn.mk (fun b => b = (!x.2 || st.Dead.contains x.1)) (Ite.mk (fun h1 => S_slices_Contains hd (by rw [h1]; rfl)) (fun h1 => by rw [h1]; rfl)) (fun b hb => ?_)
  subst hb
  refine Ite.mk (fun h1 => ?_) (fun h1 => ?_)
  · rw [if_pos h1] at hp; exact hp
  rw [if_neg (by rw [h1]; simp)] at hp
  refine Jor2 (Jn.mk (fun _ => ((d == 4 || d == 5) && (st.Stuck.any fun y => y.Cell == r.Cell || y.Cell == x.1)) = false) (Ite.mk (fun h2 => S_stuck hk (Ite.mk (fun h3 => ?_) (fun h3 => ?_))) (fun h2 => ?_)) (fun _ h2 => ?_))
  · rw [if_pos (by rw [h2, h3]; rfl)] at hp; exact hp
  · rw [h3]; simp
  · rw [h2]; simp
  rw [if_neg (by rw [h2]; simp)] at hp
  refine S_rules_Open ks h.rs (Ite.mk (fun h3 => ?_) (fun h3 => S_body_All h.sz (fun l hl => ?_)))
  · rw [if_pos (by simpa using h3)] at hp; exact hp
  rw [if_neg (by simpa using h3)] at hp
  have hlm : l.length ≤ maxLen := by rw [hl.length_eq]; have := allS_len h.sz; unfold maxLen; omega
  refine Jn.mk (fun b => b = ((allS st).contains (low x.1) || (decide (r.Load ≥ 0) && (allS st).contains (high x.1)))) (S_slices_Contains hlm (Ite.mk (fun h4 => ?_) (fun h4 => Ite.mk (fun h5 => S_slices_Contains hlm ?_) (fun h5 => ?_)))) (fun b hb => ?_)
  · rw [perm_contains hl] at h4; unfold low; rw [h4]; rfl
  · rw [perm_contains hl] at h4 ⊢; unfold low high; rw [h4, h5]; rfl
  · rw [perm_contains hl] at h4; unfold low; rw [h4, h5]; rfl
  · subst hb
    refine Ite.mk (fun h4 => ?_) (fun h4 => ?_)
    · rw [if_pos h4] at hp; exact hp
    · rw [if_neg (by rw [h4]; simp)] at hp; exact hp
theorem S_act_Legal (ks : OkApiSite s) (k : OkApiState st) (h : LS s st) {i a : Int} {post : Int → Prop} (hp : post (legS s st i a)) : V_act_Legal s st i a post := by
  have hsl : st.Shelves.length ≤ 1000000 := by have := h.sz.sh; omega
  unfold V_act_Legal
  unfold legS legR at hp
  refine Jor2 (Ite.mk (fun h1 => ?_) (fun h1 => ?_)) <;> simp at h1
  · rw [if_pos (by omega)] at hp; exact hp
  rw [if_neg (by omega)] at hp
  refine Jor2 (Ite.mk (fun h2 => ?_) (fun h2 => ?_)) <;> simp at h2
  · rw [if_pos (by omega)] at hp; exact hp
  rw [if_neg (by omega)] at hp
  refine Ite.mk (fun h3 => ?_) (fun h3 => ?_) <;> simp at h3
  · rw [if_pos h3] at hp; exact hp
  rw [if_neg h3] at hp
  obtain ⟨n, hn⟩ := Int.eq_ofNat_of_zero_le h1.1
  have hlt : n < st.Robots.length := by omega
  have hx := List.getElem?_eq_getElem hlt
  have hg : st.Robots.getD i.toNat default = st.Robots[n] := by rw [hn]; exact getD_r hx
  rw [hg] at hp
  generalize st.Robots[n] = r at hp hx
  obtain ⟨hc, hlo⟩ := h.rob n r hx
  refine ⟨r, idx_of hn hx, S_act_direction h2.1 h2.2 (Jor2 (Ite.mk (fun h4 => ?_) (fun h4 => ?_)))⟩
  · rw [if_pos h4] at hp; exact hp
  rw [if_neg (by rw [h4]; simp)] at hp
  refine Jand2 (Ite.mk (fun h5 => ?_) (fun h5 => ?_))
  · rw [if_pos h5] at hp; exact hp
  rw [if_neg (by rw [h5]; simp)] at hp
  refine S_battery_After (Ite.mk (fun h6 => ?_) (fun h6 => ?_))
  · simp at h6; rw [if_pos h6] at hp; rw [h6]; exact hp
  simp at h6; rw [if_neg h6] at hp
  refine Ite.mk (fun h7 => ?_) (fun h7 => ?_)
  · simp only at h7; rw [if_pos h7] at hp; exact S_act_move ks h hp
  simp only at h7; rw [if_neg (by rw [h7]; simp)] at hp
  refine Ite.mk (fun h8 => ?_) (fun h8 => ?_) <;> simp at h8
  · rw [if_pos h8] at hp
    unfold V_act_lift
    refine Ite.mk (fun h9 => ?_) (fun h9 => S_rules_At k hsl ?_) <;> simp at h9
    · rw [if_pos h9] at hp; exact hp
    · rw [if_neg (by omega)] at hp
      refine Ite.mk (fun g => ?_) (fun g => ?_) <;> simp at g
      · rw [if_pos g] at hp; exact hp
      · rw [if_neg (by omega)] at hp; exact hp
  rw [if_neg h8] at hp
  refine Jand2 (Ite.mk (fun h9 => ?_) (fun h9 => Ite.mk (fun g => ?_) (fun g => ?_)))
  · simp at h9; rw [if_pos h9.1, if_pos h9.2] at hp; exact hp
  · simp at g; rw [g] at h9; simp at h9
    rw [if_pos g, if_neg (by omega)] at hp; exact S_rules_Drop ks k h.fl hsl hp
  · simp at g; rw [if_neg g] at hp
    refine ⟨_, idx_kd hc, Ite.mk (fun g1 => ?_) (fun g1 => ?_)⟩
    · rw [if_neg (by simpa using g1)] at hp; exact hp
    · rw [if_pos (by simpa using g1)] at hp; exact hp
end
end Go.Taq
