/- The mathematics, several parts in one text. -/
import Derived.Test.YtbpbennpgnjbkaaGreatNB
/- The mathematics, part NC: what may stand where (rules): cells, classes, who is carried, what stands at a cell, rooms. -/
set_option linter.unusedVariables false
set_option linter.unusedSimpArgs false
namespace Go.Taq
open Go

def stB (s : ApiSite) (c : Int) : Bool := isC s.Floor c && standK (kd s.Floor c)
def clsS (s : ApiSite) (i : Int) : ByteArray := if 0 ≤ i ∧ i < s.Shelves.length then (s.Shelves.getD i.toNat default).Class else ByteArray.empty
def nev (s : ApiSite) (a b : ByteArray) : Bool := apB s.Aparts a b
def carr (st : ApiState) (i : Int) : Int := if i < 0 then -1 else fidx (fun r : ApiRobot => r.Load == i) st.Robots
def carB (st : ApiState) (i : Int) : Bool := decide (0 ≤ carr st i)
theorem carB_any {st : ApiState} {i : Int} (h : 0 ≤ i) : carB st i = st.Robots.any fun r => r.Load == i := by
  unfold carB carr
  rw [if_neg (by omega)]
  have := fidx_any (p := fun r : ApiRobot => r.Load == i) (xs := st.Robots)
  rw [← this]
/-- an option of a number that is -1 if there is none -/
def optI (x : Int) : Option Int := if 0 ≤ x then some x else none
/-- the shelf that stands at a cell, or -1 -/
def atP (st : ApiState) (c : Int) (i : Nat) : Bool := (st.Shelves.getD i 0 == c) && !carB st i
def atS (st : ApiState) (c : Int) : Int := fnat (atP st c) st.Shelves.length
theorem fnat_step {p : Nat → Bool} {a n : Nat} (h : a < n) : fnat (fun i => decide (a ≤ i) && p i) n = if p a = true then (a : Int) else fnat (fun i => decide (a + 1 ≤ i) && p i) n := by
  by_cases hp : p a = true
  · rw [if_pos hp]
    exact fnat_some h (by simp [hp]) (fun j hj => by simp; intro h'; omega)
  · rw [if_neg hp]
    have : (fun i => decide (a ≤ i) && p i) = fun i => decide (a + 1 ≤ i) && p i := by
      funext i
      by_cases e : i = a
      · subst e; simp [hp]
      · have : (a ≤ i) = (a + 1 ≤ i) := by simp; omega
        simp only [this]
    rw [this]
theorem fnat_zero (p : Nat → Bool) (n : Nat) : fnat (fun i => decide (0 ≤ i) && p i) n = fnat p n := by simp
theorem fnat_end (p : Nat → Bool) (n : Nat) : fnat (fun i => decide (n ≤ i) && p i) n = -1 := fnat_none fun i hi => by simp; intro; omega

section
variable {s : ApiSite} {st : ApiState}
theorem S_rules_Stands {c : Int} {post : Bool → Prop} (hp : post (stB s c)) : V_rules_Stands s c post := by
  unfold V_rules_Stands V_rules_isCell
  refine Jn.mk (fun b => b = stB s c) (Jand2 (Ite.mk (fun h => ?_) (fun h => ?_))) (fun b hb => by rw [hb]; exact hp)
  · have hc : isC s.Floor c = true := h
    refine ⟨_, idx_kd hc, ?_⟩
    unfold stB standK; rw [hc]
    refine Ite.mk (fun h' => by simp [h']) (fun h' => by simp [h'])
  · have hc : isC s.Floor c = false := h
    unfold stB; rw [hc]; rfl
theorem S_rules_Class {i : Int} {post : ByteArray → Prop} (hp : post (clsS s i)) : V_rules_Class s i post := by
  unfold V_rules_Class
  refine Jor2 (Ite.mk (fun h => ?_) (fun h => ?_))
  · unfold clsS at hp; rw [if_neg (by simp at h; omega)] at hp; exact hp
  · have h' : 0 ≤ i ∧ i < s.Shelves.length := by simp at h; omega
    unfold clsS at hp; rw [if_pos h'] at hp
    refine ⟨s.Shelves.getD i.toNat default, ?_, hp⟩
    rw [idx_get h'.1 h'.2, List.getD_eq_getElem?_getD, List.getElem?_eq_getElem (by omega)]; rfl
theorem S_rules_classes (k : OkApiSite s) {post : List (ApiApart × Bool) → Prop} (hp : ∀ m : List (ApiApart × Bool), (∀ a b, (lk m ⟨a, b⟩).getD false = s.Aparts.any fun x => (seq x.A a && seq x.B b) || (seq x.A b && seq x.B a)) → post m) : V_rules_classes s post := by
  unfold V_rules_classes
  refine Jn.mk (fun m => ∀ a b, (lk m ⟨a, b⟩).getD false = s.Aparts.any fun x => (seq x.A a && seq x.B b) || (seq x.A b && seq x.B a))
    (V_loopc k.Aparts.1 (fun t : List (ApiApart × Bool) × Int => t.2) (fun n (t : List (ApiApart × Bool) × Int) => ∀ a b, (lk t.1 ⟨a, b⟩).getD false = (s.Aparts.take n).any fun x => (seq x.A a && seq x.B b) || (seq x.A b && seq x.B a)) rfl (fun a b => rfl) (fun n x t hx ht hI => ⟨by rw [ht], fun a b => ?_⟩) (fun t h => by rwa [List.take_length] at h)) (fun m h => hp m h)
  rw [take_succ hx, List.any_append, lk_upd, lk_upd]
  by_cases e1 : (⟨x.B, x.A⟩ : ApiApart) = ⟨a, b⟩
  · rw [if_pos e1]
    simp only [ApiApart.mk.injEq] at e1
    simp [e1.1, e1.2, seq_eq.2]
  · rw [if_neg e1]
    by_cases e2 : x = ⟨a, b⟩
    · rw [if_pos e2]; subst e2; simp [seq_eq.2]
    · rw [if_neg e2, hI]
      have h1 : (seq x.A a && seq x.B b) = false := by
        rw [Bool.eq_false_iff]; intro h; simp only [Bool.and_eq_true, seq_eq] at h; exact e2 (by cases x; simp at h; simp [h])
      have h2 : (seq x.A b && seq x.B a) = false := by
        rw [Bool.eq_false_iff]; intro h; simp only [Bool.and_eq_true, seq_eq] at h; exact e1 (by rw [h.1, h.2])
      simp [h1, h2]
theorem nev_lk {m : List (ApiApart × Bool)} (hm : ∀ a b, (lk m ⟨a, b⟩).getD false = s.Aparts.any fun x => (seq x.A a && seq x.B b) || (seq x.A b && seq x.B a)) {a b : ByteArray} (ha : nosh a = false) (hb : nosh b = false) : (lk m ⟨a, b⟩).getD false = nev s a b := by
  rw [hm]; unfold nev apB; rw [ha, hb]; rfl
theorem S_rules_Never (k : OkApiSite s) {a b : ByteArray} {post : Bool → Prop} (hp : post (nev s a b)) : V_rules_Never s a b post := by
  unfold V_rules_Never
  refine Jn.mk (fun r => r = nev s a b) (Ite.mk (fun h => ?_) (fun h => Ite.mk (fun h' => ?_) (fun h' => S_rules_classes k (fun m hm => nev_lk hm h h')))) (fun r hr => by rw [hr]; exact hp)
  · have : nosh a = true := h
    unfold nev apB; rw [this]; rfl
  · have : nosh b = true := h'
    unfold nev apB; rw [this]; simp
theorem S_rules_Carried (k : OkApiState st) {i : Int} {post : Int → Prop} (hp : post (carr st i)) : V_rules_Carried st i post := by
  unfold V_rules_Carried
  refine Ite.mk (fun h => ?_) (fun h => ?_)
  · unfold carr at hp; rw [if_pos (by simpa using h)] at hp; exact hp
  · unfold carr at hp; rw [if_neg (by simpa using h)] at hp
    unfold V_slices_IndexFunc_api_Robot_api_Robot__rules_Carried_1
    refine V_fidxc k.Robots.1 (fun r : ApiRobot => r.Load == i) (T := fun r post => V_rules_Carried_1 r i post) (fun r _ q hq => ?_) hp
    unfold V_rules_Carried_1; exact hq
theorem S_rules_standing (k : OkApiState st) (hl : st.Shelves.length ≤ 1000000) {post : List (Int × Int) → Prop} (hp : ∀ m : List (Int × Int), (∀ c, lk m c = optI (atS st c)) → post m) : V_rules_standing st post := by
  unfold V_rules_standing
  refine Jn.mk (fun m => ∀ i : Int, (lk m i).getD false = st.Robots.any fun r => r.Load == i)
    (V_loopc k.Robots.1 (fun t : List (Int × Bool) × Int => t.2) (fun n (t : List (Int × Bool) × Int) => ∀ i : Int, (lk t.1 i).getD false = (st.Robots.take n).any fun r => r.Load == i) rfl (fun i => rfl) (fun n r t hr ht hI => ⟨by rw [ht], fun i => ?_⟩) (fun t h => by rwa [List.take_length] at h)) (fun cm hcm => ?_)
  · rw [take_succ hr, List.any_append, lk_upd]
    by_cases e : r.Load = i
    · rw [if_pos e]; simp [e]
    · rw [if_neg e, hI]; simp [e]
  unfold V_slices_Backward_int_int
  refine ⟨by omega, Each.inv (bkw st.Shelves) (fun j m => ∀ c, lk m c = optI (fnat (fun i => decide (st.Shelves.length - j ≤ i) && atP st c i) st.Shelves.length)) (fun c => ?_) (fun j x m hx hI Y hY => ?_) (fun m h => hp m (fun c => ?_))⟩
  · rw [Nat.sub_zero, fnat_end]; rfl
  · have hj : j < st.Shelves.length := by have := (List.getElem?_eq_some_iff.1 hx).1; rwa [bkw_len] at this
    have hg := bkw_get (xs := st.Shelves) (m := st.Shelves.length - (j + 1)) (by omega)
    rw [show st.Shelves.length - (st.Shelves.length - (j + 1) + 1) = j by omega, hx] at hg
    cases hg
    have e1 : st.Shelves.length - j = st.Shelves.length - (j + 1) + 1 := by omega
    have hcar : (lk cm ((st.Shelves.length - (j + 1) : Nat) : Int)).getD false = carB st ((st.Shelves.length - (j + 1) : Nat) : Int) := by rw [hcm, carB_any (by omega)]
    refine Jn.mk' ?_
    dsimp only
    rw [hcar]
    refine Ite.mk (fun h => hY _ (fun c => ?_)) (fun h => hY _ (fun c => ?_))
    · rw [lk_upd, fnat_step (by omega)]
      by_cases e : st.Shelves.getD (st.Shelves.length - (j + 1)) 0 = c
      · rw [if_pos e, if_pos (by unfold atP; simp only [Bool.and_eq_true, beq_iff_eq]; exact ⟨e, h⟩)]
        unfold optI; rw [if_pos (by omega)]
      · rw [if_neg e, if_neg (by unfold atP; simp only [Bool.and_eq_true, beq_iff_eq]; exact fun h => e h.1), hI, e1]
    · rw [fnat_step (by omega), if_neg (by unfold atP; simp only [Bool.and_eq_true]; exact fun h' => by rw [h] at h'; cases h'.2), hI, e1]
  · rw [h c, bkw_len, Nat.sub_self]; unfold atS; rw [fnat_zero]
theorem atS_bd (st : ApiState) (c : Int) : -1 ≤ atS st c ∧ atS st c < st.Shelves.length := by
  rcases fnat_cases (atP st c) st.Shelves.length with ⟨i, h1, h2, _⟩ | ⟨h, _⟩ <;> unfold atS <;> omega
theorem optI_isSome (x : Int) : (optI x).isSome = decide (0 ≤ x) := by
  unfold optI; by_cases h : 0 ≤ x <;> simp [h]
theorem S_rules_At (k : OkApiState st) (hl : st.Shelves.length ≤ 1000000) {c : Int} {post : Int → Prop} (hp : post (atS st c)) : V_rules_At s st c post := by
  unfold V_rules_At
  refine S_rules_standing k hl (fun m hm => ?_)
  have := atS_bd st c
  rw [hm, optI_isSome]
  refine Ite.mk (fun h => ?_) (fun h => ?_)
  · simp at h; unfold optI; rw [if_pos h]; exact hp
  · simp at h; rw [show (-1 : Int) = atS st c by omega]; exact hp
end
end Go.Taq

/- The mathematics, part ND: what is near, which shelves disturb each other, dropping (rules). -/
set_option linter.unusedVariables false
set_option linter.unusedSimpArgs false
namespace Go.Taq
open Go

def nearB (f : ApiFloor) (a b : Int) : Bool := isC f b && ([0, 1, 2, 3] : List Int).any fun d => nbr f a d == b
theorem S_floor_Near {f : ApiFloor} (h : RF f) {a b : Int} {post : Bool → Prop} (hp : post (nearB f a b)) : V_floor_Near f a b post := by
  unfold V_floor_Near
  refine S_floor_is h (Ite.mk (fun hb => ?_) (fun hb => ?_))
  · simp only [Bool.not_eq_true'] at hb
    unfold nearB at hp; rw [hb] at hp; exact hp
  · simp only [Bool.not_eq_false'] at hb
    unfold nearB at hp; rw [hb] at hp
    exact V_anyc (xs := [0, 1, 2, 3]) (by simp [maxLen]) (fun d => nbr f a d == b) (T := fun x q => V_floor_beside f a x (fun r => q (r == b))) (fun x _ q hq => S_floor_beside h hq) hp
section
variable {s : ApiSite} {st : ApiState}
/-- two shelves disturb each other -/
def badP (s : ApiSite) (st : ApiState) (a b : Nat) : Bool := nearB s.Floor (st.Shelves.getD a 0) (st.Shelves.getD b 0) && nev s (clsS s a) (clsS s b) && !carB st a && !carB st b
/-- the least one behind a shelf that it disturbs -/
def partner (s : ApiSite) (st : ApiState) (a : Nat) : Int := fnat (fun b => decide (a < b) && badP s st a b) st.Shelves.length
def apartS (s : ApiSite) (st : ApiState) : Int × Int × Bool :=
  let a := fnat (fun a => decide (0 ≤ partner s st a)) st.Shelves.length
  if a < 0 then (0, 0, false) else (a, partner s st a.toNat, true)
end
end Go.Taq

/- The mathematics, part NE: dropping; the rules' statements: bounds, examples. -/
set_option linter.unusedVariables false
set_option linter.unusedSimpArgs false
namespace Go.Taq
open Go

def dHit (st : ApiState) (shelf c : Int) (i : Nat) : Bool := !((i : Int) == shelf) && !carB st i && (st.Shelves.getD i 0 == c)
def dAp (s : ApiSite) (st : ApiState) (shelf c : Int) (i : Nat) : Bool := !((i : Int) == shelf) && !carB st i && nearB s.Floor (st.Shelves.getD i 0) c && nev s (clsS s shelf) (clsS s i)
def dropS (s : ApiSite) (st : ApiState) (shelf c : Int) : Int :=
  if shelf < 0 ∨ shelf ≥ st.Shelves.length then 4 else if stB s c = false then 13 else if (List.range st.Shelves.length).any (dHit st shelf c) = true then 13 else if (List.range st.Shelves.length).any (dAp s st shelf c) = true then 17 else 0
theorem any_range_succ (p : Nat → Bool) (n : Nat) : (List.range (n + 1)).any p = ((List.range n).any p || p n) := by rw [List.range_succ, List.any_append]; simp
theorem any_range_mem {p : Nat → Bool} {n i : Nat} (hi : i < n) (hp : p i = true) : (List.range n).any p = true := List.any_eq_true.2 ⟨i, by simpa using hi, hp⟩
section
variable {s : ApiSite} {st : ApiState}
theorem getD_of {l : List Int} {n : Nat} {x : Int} (h : l[n]? = some x) : l.getD n 0 = x := by rw [List.getD_eq_getElem?_getD, h]; rfl
theorem S_rules_Drop (ks : OkApiSite s) (k : OkApiState st) (hf : RF s.Floor) (hl : st.Shelves.length ≤ 1000000) {shelf c : Int} {post : Int → Prop} (hp : post (dropS s st shelf c)) : V_rules_Drop s st shelf c post := by
  unfold V_rules_Drop
  refine Jor2 (Ite.mk (fun h => ?_) (fun h => S_rules_Stands (Ite.mk (fun h2 => ?_) (fun h2 => ?_))))
  · unfold dropS at hp; rw [if_pos (by simp at h; omega)] at hp; exact hp
  · unfold dropS at hp; rw [if_neg (by simp at h; omega), if_pos (by simpa using h2)] at hp; exact hp
  · unfold dropS at hp; rw [if_neg (by simp at h; omega), if_neg (by simp at h2; simp [h2])] at hp
    refine Jn.mk (fun e => (List.range st.Shelves.length).any (dHit st shelf c) = false ∧ e = if (List.range st.Shelves.length).any (dAp s st shelf c) = true then 17 else 0)
      (V_loopj (xs := st.Shelves) k.Shelves.1 (fun t : Int × Int => t.2) (fun n (t : Int × Int) => (List.range n).any (dHit st shelf c) = false ∧ t.1 = if (List.range n).any (dAp s st shelf c) = true then 17 else 0) rfl ⟨rfl, rfl⟩ (fun n x t hx ht hI => ?_) (fun t h => h)) (fun e he => by rw [he.1] at hp; rw [he.2]; exact hp)
    have hn := (List.getElem?_eq_some_iff.1 hx).1
    have hxg := getD_of hx
    rw [ht]
    refine Jn.mk (fun e => (List.range (n + 1)).any (dHit st shelf c) = false ∧ e = if (List.range (n + 1)).any (dAp s st shelf c) = true then 17 else 0) ⟨x, idx_of rfl hx, ?_⟩ (fun e he => ⟨rfl, he⟩)
    rw [any_range_succ, any_range_succ, hI.1, hI.2]
    refine Jn.mk (fun b => (b = true → dHit st shelf c n = false ∧ dAp s st shelf c n = false) ∧ (b = false → ((n : Int) == shelf) = false ∧ carB st n = false ∧ (x ≠ c → nearB s.Floor x c = true))) ?_ (fun b hb => Ite.mk (fun h3 => ?_) (fun h3 => ?_))
    · refine Ite.mk (fun h3 => ⟨fun _ => ⟨by unfold dHit; rw [h3]; rfl, by unfold dAp; rw [h3]; rfl⟩, fun h => by cases h⟩) (fun h3 => Ite.mk (fun h4 => S_floor_Near hf (Ite.mk (fun h5 => S_rules_Carried k ⟨fun h6 => ?_, fun h6 => ?_⟩) (fun h5 => ⟨fun _ => ⟨?_, ?_⟩, fun h => by cases h⟩))) (fun h4 => S_rules_Carried k ⟨fun h6 => ?_, fun h6 => ?_⟩))
      · have : carB st n = true := by unfold carB; simpa using h6
        exact ⟨by unfold dHit; rw [this]; simp, by unfold dAp; rw [this]; simp⟩
      · have : carB st n = false := by unfold carB; simpa using h6
        exact ⟨h3, this, fun _ => h5⟩
      · unfold dHit; rw [hxg]; simp at h4; simp [h4]
      · unfold dAp; rw [hxg, h5]; simp
      · have : carB st n = true := by unfold carB; simpa using h6
        exact ⟨by unfold dHit; rw [this]; simp, by unfold dAp; rw [this]; simp⟩
      · have : carB st n = false := by unfold carB; simpa using h6
        exact ⟨h3, this, fun h => absurd (by simpa using h4) h⟩
    · rw [(hb.1 h3).1, (hb.1 h3).2]; exact ⟨by simp, by simp⟩
    · obtain ⟨g1, g2, g3⟩ := hb.2 h3
      refine Ite.mk (fun h4 => ?_) (fun h4 => S_rules_Class (S_rules_Class (S_rules_Never ks ?_)))
      · have : dHit st shelf c n = true := by unfold dHit; rw [g1, g2, hxg, h4]; rfl
        rw [any_range_mem hn this] at hp; exact hp
      · have e1 : dHit st shelf c n = false := by unfold dHit; rw [hxg, h4]; simp
        have e2 : dAp s st shelf c n = nev s (clsS s shelf) (clsS s n) := by unfold dAp; rw [g1, g2, hxg, g3 (by simpa using h4)]; rfl
        rw [e1, e2]
        refine Jn.mk (fun e => e = if ((List.range n).any (dAp s st shelf c) || nev s (clsS s shelf) (clsS s n)) = true then 17 else 0) (Ite.mk (fun h5 => by rw [h5]; simp) (fun h5 => by rw [h5]; simp)) (fun e he => ⟨by simp, he⟩)
end

/-- a right small site, and a state with as many shelves, at cells -/
structure FitS (s : ApiSite) (st : ApiState) : Prop where
  r : RSite s
  few : FewS s 60 20
  rob : st.Robots.length ≤ 20
  len : st.Shelves.length = s.Shelves.length
  cell : ∀ c, c ∈ st.Shelves → isC s.Floor c = true
theorem FitS.sl {s : ApiSite} {st : ApiState} (h : FitS s st) : st.Shelves.length ≤ 20 := by have := h.few.shelves; have := h.len; omega
/-! ## the examples -/
theorem ok_ml {α : Type} {X : α → Prop} {xs : List α} (h1 : xs.length ≤ 1000) (h2 : ∀ x, x ∈ xs → X x) : OkL X xs := ⟨Nat.le_trans h1 (by decide), h2⟩
theorem i64_of {x : Int} (h : -1000000 ≤ x ∧ x ≤ 1000000) : I64 x := by constructor <;> omega
end Go.Taq

/- The mathematics, part NF: the rules' statements: examples, RulesApart. -/
set_option linter.unusedVariables false
set_option linter.unusedSimpArgs false
namespace Go.Taq
open Go

theorem nev_comm {s : ApiSite} (a b : ByteArray) : nev s a b = nev s b a := by
  unfold nev apB
  have e : ∀ x : ApiApart, ((seq x.A a && seq x.B b) || (seq x.A b && seq x.B a)) = ((seq x.A b && seq x.B a) || (seq x.A a && seq x.B b)) := fun x => Bool.or_comm _ _
  simp only [e]
  rw [Bool.and_comm (!nosh a)]

theorem apartS_found {s : ApiSite} {st : ApiState} : (apartS s st).2.2 = decide (0 ≤ fnat (fun a => decide (0 ≤ partner s st a)) st.Shelves.length) := by
  unfold apartS
  simp only
  split <;> rename_i h <;> simp <;> omega
end Go.Taq
