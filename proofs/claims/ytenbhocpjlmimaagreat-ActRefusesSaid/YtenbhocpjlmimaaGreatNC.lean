/- The mathematics, several parts in one text. -/
import Derived.Test.YtenbhocpjlmimaaGreatLibZR
import Derived.Test.YtenbhocpjlmimaaGreatMB
import Derived.Test.YtenbhocpjlmimaaGreatMS
/- The mathematics, part QA: loops whose state has a counter and more; ranges over lists; lists of places. -/
set_option linter.unusedVariables false
set_option linter.unusedSimpArgs false
namespace Go.Taq
open Go

/-- a loop over a list's places: ix is where the state keeps the place -/
theorem V_loopc {α τ : Type} {xs : List α} (hm : xs.length ≤ maxLen) (ix : τ → Int) (I : Nat → τ → Prop) {t0 : τ} (hi0 : ix t0 = 0) (h0 : I 0 t0) {R : α → τ → (τ → Prop) → Prop} {E : τ → Prop}
    (hs : ∀ (i : Nat) x t, xs[i]? = some x → ix t = (i : Int) → I i t → R x t (fun t' => ix t' = w64 ((i : Int) + 1) ∧ I (i + 1) t'))
    (he : ∀ t, I xs.length t → E t) :
    Loop (fun t Y => Ite (decide (ix t < (xs.length : Int))) (∃ x, idx xs (ix t) = some x ∧ R x t Y) (E t)) t0 := by
  refine Loop.inv xs.length (fun i t => ix t = (i : Int) ∧ I i t) ⟨by simpa using hi0, h0⟩ (fun i t hi h => ?_) (fun t h => ?_)
  · have hx : xs[i]? = some (xs[i]'hi) := List.getElem?_eq_getElem hi
    refine Ite.lt (by omega) ⟨_, by rw [h.1]; exact idx_of rfl hx, ?_⟩
    have := hs i _ t hx h.1 h.2
    rw [w64_nat hi hm] at this; exact this
  · exact Ite.nlt (by omega) (he t h.2)
/-- ... where a round is a way that meets others first -/
theorem V_loopj {α τ : Type} {xs : List α} (hm : xs.length ≤ maxLen) (ix : τ → Int) (I : Nat → τ → Prop) {t0 : τ} (hi0 : ix t0 = 0) (h0 : I 0 t0) {R : τ → (τ → Prop) → Prop} {E : τ → Prop}
    (hs : ∀ (i : Nat) x t, xs[i]? = some x → ix t = (i : Int) → I i t → R t (fun t' => ix t' = w64 ((i : Int) + 1) ∧ I (i + 1) t'))
    (he : ∀ t, I xs.length t → E t) :
    Loop (fun t Y => Ite (decide (ix t < (xs.length : Int))) (R t Y) (E t)) t0 := by
  refine Loop.inv xs.length (fun i t => ix t = (i : Int) ∧ I i t) ⟨by simpa using hi0, h0⟩ (fun i t hi h => ?_) (fun t h => ?_)
  · have hx : xs[i]? = some (xs[i]'hi) := List.getElem?_eq_getElem hi
    refine Ite.lt (by omega) ?_
    have := hs i _ t hx h.1 h.2
    rw [w64_nat hi hm] at this; exact this
  · exact Ite.nlt (by omega) (he t h.2)
/-- a range over a list -/
theorem Each.inv {α σ : Type} {body : α → σ → (σ → Prop) → Prop} {k : σ → Prop} : ∀ (ys : List α) (I : Nat → σ → Prop) {s0 : σ}, I 0 s0 → (∀ (i : Nat) x s, ys[i]? = some x → I i s → ∀ Y : σ → Prop, (∀ s', I (i + 1) s' → Y s') → body x s Y) → (∀ s, I ys.length s → k s) → Each body k ys s0
  | [], I, s0, h0, _, he => he _ h0
  | y :: ys, I, s0, h0, hs, he => hs 0 y s0 rfl h0 _ fun s' h' => Each.inv ys (fun i => I (i + 1)) h' (fun i x s hx hI Y hY => hs (i + 1) x s (by simpa using hx) hI Y hY) (fun s h => he s h)
/-- a range over numbers -/
theorem V_upto {τ : Type} (n : Nat) (ix : τ → Int) (I : Nat → τ → Prop) {t0 : τ} (hn : n ≤ maxLen) (hi0 : ix t0 = 0) (h0 : I 0 t0) {R : τ → (τ → Prop) → Prop} {E : τ → Prop}
    (hs : ∀ (i : Nat) t, i < n → ix t = (i : Int) → I i t → R t (fun t' => ix t' = w64 ((i : Int) + 1) ∧ I (i + 1) t'))
    (he : ∀ t, I n t → E t) :
    Loop (fun t Y => Ite (decide (ix t < (n : Int))) (R t Y) (E t)) t0 := by
  refine Loop.inv n (fun i t => ix t = (i : Int) ∧ I i t) ⟨by simpa using hi0, h0⟩ (fun i t hi h => ?_) (fun t h => ?_)
  · refine Ite.lt (by omega) ?_
    have := hs i t hi h.1 h.2
    rw [w64_nat hi hn] at this; exact this
  · exact Ite.nlt (by omega) (he t h.2)
/-- the first place from which something holds, as a number -/
def fnat (p : Nat → Bool) (n : Nat) : Int := match (List.range n).find? p with | some i => i | none => -1
theorem fnat_some {p : Nat → Bool} {n i : Nat} (hi : i < n) (hp : p i = true) (hb : ∀ j, j < i → p j = false) : fnat p n = i := by
  unfold fnat
  have : (List.range n).find? p = some i := by
    rw [List.find?_eq_some_iff_getElem]
    refine ⟨hp, i, by simpa using hi, by simp, fun j hj => ?_⟩
    simp [hb j hj]
  rw [this]
theorem fnat_none {p : Nat → Bool} {n : Nat} (h : ∀ i, i < n → p i = false) : fnat p n = -1 := by
  unfold fnat
  have : (List.range n).find? p = none := by
    rw [List.find?_eq_none]
    intro x hx; simp at hx; simp [h x hx]
  rw [this]
theorem fnat_cases (p : Nat → Bool) (n : Nat) : (∃ i : Nat, i < n ∧ fnat p n = i ∧ p i = true ∧ ∀ j, j < i → p j = false) ∨ (fnat p n = -1 ∧ ∀ i, i < n → p i = false) := by
  cases h : (List.range n).find? p with
  | none =>
    refine .inr ?_
    have h' : ∀ i, i < n → p i = false := fun i hi => by
      have := List.find?_eq_none.1 h i (by simpa using hi); simpa using this
    exact ⟨fnat_none h', h'⟩
  | some i =>
    refine .inl ⟨i, ?_⟩
    have hp : p i = true := List.find?_some h
    have hlt : i < n := by have := List.mem_of_find?_eq_some h; simpa using this
    have hb' : ∀ j, j < i → p j = false := by
      rw [List.find?_eq_some_iff_getElem] at h
      obtain ⟨_, k, hk, hki, hall⟩ := h
      simp at hki; subst hki
      intro j hj; have := hall j hj; simpa using this
    exact ⟨hlt, fnat_some hlt hp hb', hp, hb'⟩
theorem fidx_cases {α : Type} (p : α → Bool) (xs : List α) : (∃ (i : Nat) (x : α), xs[i]? = some x ∧ fidx p xs = i ∧ p x = true ∧ ∀ (j : Nat) (y : α), j < i → xs[j]? = some y → p y = false) ∨ (fidx p xs = -1 ∧ ∀ x, x ∈ xs → p x = false) := by
  unfold fidx
  cases h : xs.findIdx? p with
  | none =>
    refine .inr ⟨rfl, fun x hx => ?_⟩
    rw [List.findIdx?_eq_none_iff] at h; exact h x hx
  | some i =>
    obtain ⟨hlt, hp, hb⟩ := List.findIdx?_eq_some_iff_getElem.1 h
    refine .inl ⟨i, xs[i], List.getElem?_eq_getElem hlt, rfl, hp, fun j y hj hy => ?_⟩
    have := hb j hj
    have hyj := (List.getElem?_eq_some_iff.1 hy).2
    rw [← hyj]; simpa using this
theorem take_succ {α : Type} {xs : List α} {i : Nat} {x : α} (h : xs[i]? = some x) : xs.take (i + 1) = xs.take i ++ [x] := by
  rw [List.take_add_one, h]; rfl
end Go.Taq

/- The mathematics, part NA: right floors and right sites, as the program sees them (floor.Right, survey.Right). -/
set_option linter.unusedVariables false
namespace Go.Taq
open Go

end Go.Taq

/- The mathematics, part NB: survey.Right. -/
set_option linter.unusedVariables false
namespace Go.Taq
open Go

section

end
end Go.Taq

/- The mathematics, part NC: what may stand where (rules): cells, classes, who is carried, what stands at a cell, rooms. -/
set_option linter.unusedVariables false
set_option linter.unusedSimpArgs false
namespace Go.Taq
open Go

def stB (s : ApiSite) (c : Int) : Bool := isC s.Floor c && standK (kd s.Floor c)
def clsS (s : ApiSite) (i : Int) : ByteArray := if 0 ≤ i ∧ i < s.Shelves.length then (s.Shelves.getD i.toNat default).Class else ByteArray.empty
def nev (s : ApiSite) (a b : ByteArray) : Bool := apB s.Aparts a b
def carr (st : ApiState) (i : Int) : Int := if i < 0 then -1 else fidx (fun r : ApiRobot => r.Load == i) st.Robots
def carB (st : ApiState) (i : Int) : Bool := decide (0 ≤ carr st i)
theorem carB_any {st : ApiState} {i : Int} (h : 0 ≤ i) : carB st i = st.Robots.any fun r => r.Load == i := by
  unfold carB carr
  rw [if_neg (by omega)]
  have := fidx_any (p := fun r : ApiRobot => r.Load == i) (xs := st.Robots)
  rw [← this]
/-- an option of a number that is -1 if there is none -/
def optI (x : Int) : Option Int := if 0 ≤ x then some x else none
/-- the shelf that stands at a cell, or -1 -/
def atP (st : ApiState) (c : Int) (i : Nat) : Bool := (st.Shelves.getD i 0 == c) && !carB st i
def atS (st : ApiState) (c : Int) : Int := fnat (atP st c) st.Shelves.length
theorem fnat_step {p : Nat → Bool} {a n : Nat} (h : a < n) : fnat (fun i => decide (a ≤ i) && p i) n = if p a = true then (a : Int) else fnat (fun i => decide (a + 1 ≤ i) && p i) n := by
  by_cases hp : p a = true
  · rw [if_pos hp]
    exact fnat_some h (by simp [hp]) (fun j hj => by simp; intro h'; omega)
  · rw [if_neg hp]
    have : (fun i => decide (a ≤ i) && p i) = fun i => decide (a + 1 ≤ i) && p i := by
      funext i
      by_cases e : i = a
      · subst e; simp [hp]
      · have : (a ≤ i) = (a + 1 ≤ i) := by simp; omega
        simp only [this]
    rw [this]
theorem fnat_zero (p : Nat → Bool) (n : Nat) : fnat (fun i => decide (0 ≤ i) && p i) n = fnat p n := by simp
theorem fnat_end (p : Nat → Bool) (n : Nat) : fnat (fun i => decide (n ≤ i) && p i) n = -1 := fnat_none fun i hi => by simp; intro; omega

section
variable {s : ApiSite} {st : ApiState}
theorem S_rules_Stands {c : Int} {post : Bool → Prop} (hp : post (stB s c)) : V_rules_Stands s c post := by
  unfold V_rules_Stands V_rules_isCell
  refine Jn.mk (fun b => b = stB s c) (Jand2 (Ite.mk (fun h => ?_) (fun h => ?_))) (fun b hb => by rw [hb]; exact hp)
  · have hc : isC s.Floor c = true := h
    refine ⟨_, idx_kd hc, ?_⟩
    unfold stB standK; rw [hc]
    refine Ite.mk (fun h' => by simp [h']) (fun h' => by simp [h'])
  · have hc : isC s.Floor c = false := h
    unfold stB; rw [hc]; rfl
theorem S_rules_Class {i : Int} {post : ByteArray → Prop} (hp : post (clsS s i)) : V_rules_Class s i post := by
  unfold V_rules_Class
  refine Jor2 (Ite.mk (fun h => ?_) (fun h => ?_))
  · unfold clsS at hp; rw [if_neg (by simp at h; omega)] at hp; exact hp
  · have h' : 0 ≤ i ∧ i < s.Shelves.length := by simp at h; omega
    unfold clsS at hp; rw [if_pos h'] at hp
    refine ⟨s.Shelves.getD i.toNat default, ?_, hp⟩
    rw [idx_get h'.1 h'.2, List.getD_eq_getElem?_getD, List.getElem?_eq_getElem (by omega)]; rfl
theorem S_rules_classes (k : OkApiSite s) {post : List (ApiApart × Bool) → Prop} (hp : ∀ m : List (ApiApart × Bool), (∀ a b, (lk m ⟨a, b⟩).getD false = s.Aparts.any fun x => (seq x.A a && seq x.B b) || (seq x.A b && seq x.B a)) → post m) : V_rules_classes s post := by
  unfold V_rules_classes
  refine Jn.mk (fun m => ∀ a b, (lk m ⟨a, b⟩).getD false = s.Aparts.any fun x => (seq x.A a && seq x.B b) || (seq x.A b && seq x.B a))
    (V_loopc k.Aparts.1 (fun t : List (ApiApart × Bool) × Int => t.2) (fun n (t : List (ApiApart × Bool) × Int) => ∀ a b, (lk t.1 ⟨a, b⟩).getD false = (s.Aparts.take n).any fun x => (seq x.A a && seq x.B b) || (seq x.A b && seq x.B a)) rfl (fun a b => rfl) (fun n x t hx ht hI => ⟨by rw [ht], fun a b => ?_⟩) (fun t h => by rwa [List.take_length] at h)) (fun m h => hp m h)
  rw [take_succ hx, List.any_append, lk_upd, lk_upd]
  by_cases e1 : (⟨x.B, x.A⟩ : ApiApart) = ⟨a, b⟩
  · rw [if_pos e1]
    simp only [ApiApart.mk.injEq] at e1
    simp [e1.1, e1.2, seq_eq.2]
  · rw [if_neg e1]
    by_cases e2 : x = ⟨a, b⟩
    · rw [if_pos e2]; subst e2; simp [seq_eq.2]
    · rw [if_neg e2, hI]
      have h1 : (seq x.A a && seq x.B b) = false := by
        rw [Bool.eq_false_iff]; intro h; simp only [Bool.and_eq_true, seq_eq] at h; exact e2 (by cases x; simp at h; simp [h])
      have h2 : (seq x.A b && seq x.B a) = false := by
        rw [Bool.eq_false_iff]; intro h; simp only [Bool.and_eq_true, seq_eq] at h; exact e1 (by rw [h.1, h.2])
      simp [h1, h2]
theorem nev_lk {m : List (ApiApart × Bool)} (hm : ∀ a b, (lk m ⟨a, b⟩).getD false = s.Aparts.any fun x => (seq x.A a && seq x.B b) || (seq x.A b && seq x.B a)) {a b : ByteArray} (ha : nosh a = false) (hb : nosh b = false) : (lk m ⟨a, b⟩).getD false = nev s a b := by
  rw [hm]; unfold nev apB; rw [ha, hb]; rfl
theorem S_rules_Never (k : OkApiSite s) {a b : ByteArray} {post : Bool → Prop} (hp : post (nev s a b)) : V_rules_Never s a b post := by
  unfold V_rules_Never
  refine Jn.mk (fun r => r = nev s a b) (Ite.mk (fun h => ?_) (fun h => Ite.mk (fun h' => ?_) (fun h' => S_rules_classes k (fun m hm => nev_lk hm h h')))) (fun r hr => by rw [hr]; exact hp)
  · have : nosh a = true := h
    unfold nev apB; rw [this]; rfl
  · have : nosh b = true := h'
    unfold nev apB; rw [this]; simp
theorem S_rules_Carried (k : OkApiState st) {i : Int} {post : Int → Prop} (hp : post (carr st i)) : V_rules_Carried st i post := by
  unfold V_rules_Carried
  refine Ite.mk (fun h => ?_) (fun h => ?_)
  · unfold carr at hp; rw [if_pos (by simpa using h)] at hp; exact hp
  · unfold carr at hp; rw [if_neg (by simpa using h)] at hp
    unfold V_slices_IndexFunc_api_Robot_api_Robot__rules_Carried_1
    refine V_fidxc k.Robots.1 (fun r : ApiRobot => r.Load == i) (T := fun r post => V_rules_Carried_1 r i post) (fun r _ q hq => ?_) hp
    unfold V_rules_Carried_1; exact hq
theorem S_rules_standing (k : OkApiState st) (hl : st.Shelves.length ≤ 1000000) {post : List (Int × Int) → Prop} (hp : ∀ m : List (Int × Int), (∀ c, lk m c = optI (atS st c)) → post m) : V_rules_standing st post := by
  unfold V_rules_standing
  refine Jn.mk (fun m => ∀ i : Int, (lk m i).getD false = st.Robots.any fun r => r.Load == i)
    (V_loopc k.Robots.1 (fun t : List (Int × Bool) × Int => t.2) (fun n (t : List (Int × Bool) × Int) => ∀ i : Int, (lk t.1 i).getD false = (st.Robots.take n).any fun r => r.Load == i) rfl (fun i => rfl) (fun n r t hr ht hI => ⟨by rw [ht], fun i => ?_⟩) (fun t h => by rwa [List.take_length] at h)) (fun cm hcm => ?_)
  · rw [take_succ hr, List.any_append, lk_upd]
    by_cases e : r.Load = i
    · rw [if_pos e]; simp [e]
    · rw [if_neg e, hI]; simp [e]
  unfold V_slices_Backward_int_int
  refine ⟨by omega, Each.inv (bkw st.Shelves) (fun j m => ∀ c, lk m c = optI (fnat (fun i => decide (st.Shelves.length - j ≤ i) && atP st c i) st.Shelves.length)) (fun c => ?_) (fun j x m hx hI Y hY => ?_) (fun m h => hp m (fun c => ?_))⟩
  · rw [Nat.sub_zero, fnat_end]; rfl
  · have hj : j < st.Shelves.length := by have := (List.getElem?_eq_some_iff.1 hx).1; rwa [bkw_len] at this
    have hg := bkw_get (xs := st.Shelves) (m := st.Shelves.length - (j + 1)) (by omega)
    rw [show st.Shelves.length - (st.Shelves.length - (j + 1) + 1) = j by omega, hx] at hg
    cases hg
    have e1 : st.Shelves.length - j = st.Shelves.length - (j + 1) + 1 := by omega
    have hcar : (lk cm ((st.Shelves.length - (j + 1) : Nat) : Int)).getD false = carB st ((st.Shelves.length - (j + 1) : Nat) : Int) := by rw [hcm, carB_any (by omega)]
    refine Jn.mk' ?_
    dsimp only
    rw [hcar]
    refine Ite.mk (fun h => hY _ (fun c => ?_)) (fun h => hY _ (fun c => ?_))
    · rw [lk_upd, fnat_step (by omega)]
      by_cases e : st.Shelves.getD (st.Shelves.length - (j + 1)) 0 = c
      · rw [if_pos e, if_pos (by unfold atP; simp only [Bool.and_eq_true, beq_iff_eq]; exact ⟨e, h⟩)]
        unfold optI; rw [if_pos (by omega)]
      · rw [if_neg e, if_neg (by unfold atP; simp only [Bool.and_eq_true, beq_iff_eq]; exact fun h => e h.1), hI, e1]
    · rw [fnat_step (by omega), if_neg (by unfold atP; simp only [Bool.and_eq_true]; exact fun h' => by rw [h] at h'; cases h'.2), hI, e1]
  · rw [h c, bkw_len, Nat.sub_self]; unfold atS; rw [fnat_zero]
theorem atS_bd (st : ApiState) (c : Int) : -1 ≤ atS st c ∧ atS st c < st.Shelves.length := by
  rcases fnat_cases (atP st c) st.Shelves.length with ⟨i, h1, h2, _⟩ | ⟨h, _⟩ <;> unfold atS <;> omega
theorem optI_isSome (x : Int) : (optI x).isSome = decide (0 ≤ x) := by
  unfold optI; by_cases h : 0 ≤ x <;> simp [h]
theorem S_rules_At (k : OkApiState st) (hl : st.Shelves.length ≤ 1000000) {c : Int} {post : Int → Prop} (hp : post (atS st c)) : V_rules_At s st c post := by
  unfold V_rules_At
  refine S_rules_standing k hl (fun m hm => ?_)
  have := atS_bd st c
  rw [hm, optI_isSome]
  refine Ite.mk (fun h => ?_) (fun h => ?_)
  · simp at h; unfold optI; rw [if_pos h]; exact hp
  · simp at h; rw [show (-1 : Int) = atS st c by omega]; exact hp
end
end Go.Taq
