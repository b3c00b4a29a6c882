/- The mathematics, several parts in one text. -/
import Derived.Test.YtenbhocpjlmimaaGreatNB
/- The mathematics, part NC: what may stand where (rules): cells, classes, who is carried, what stands at a cell, rooms. -/
set_option linter.unusedVariables false
set_option linter.unusedSimpArgs false
namespace Go.Taq
open Go

def stB (s : ApiSite) (c : Int) : Bool := isC s.Floor c && standK (kd s.Floor c)
def clsS (s : ApiSite) (i : Int) : ByteArray := if 0 ≤ i ∧ i < s.Shelves.length then (s.Shelves.getD i.toNat default).Class else ByteArray.empty
def nev (s : ApiSite) (a b : ByteArray) : Bool := apB s.Aparts a b
def carr (st : ApiState) (i : Int) : Int := if i < 0 then -1 else fidx (fun r : ApiRobot => r.Load == i) st.Robots
def carB (st : ApiState) (i : Int) : Bool := decide (0 ≤ carr st i)
theorem carB_any {st : ApiState} {i : Int} (h : 0 ≤ i) : carB st i = st.Robots.any fun r => r.Load == i := by
  unfold carB carr
  rw [if_neg (by omega)]
  have := fidx_any (p := fun r : ApiRobot => r.Load == i) (xs := st.Robots)
  rw [← this]
/-- an option of a number that is -1 if there is none -/
def optI (x : Int) : Option Int := if 0 ≤ x then some x else none
/-- the shelf that stands at a cell, or -1 -/
def atP (st : ApiState) (c : Int) (i : Nat) : Bool := (st.Shelves.getD i 0 == c) && !carB st i
def atS (st : ApiState) (c : Int) : Int := fnat (atP st c) st.Shelves.length
theorem fnat_step {p : Nat → Bool} {a n : Nat} (h : a < n) : fnat (fun i => decide (a ≤ i) && p i) n = if p a = true then (a : Int) else fnat (fun i => decide (a + 1 ≤ i) && p i) n := by
  by_cases hp : p a = true
  · rw [if_pos hp]
    exact fnat_some h (by simp [hp]) (fun j hj => by simp; intro h'; omega)
  · rw [if_neg hp]
    have : (fun i => decide (a ≤ i) && p i) = fun i => decide (a + 1 ≤ i) && p i := by
      funext i
      by_cases e : i = a
      · subst e; simp [hp]
      · have : (a ≤ i) = (a + 1 ≤ i) := by simp; omega
        simp only [this]
    rw [this]
theorem fnat_zero (p : Nat → Bool) (n : Nat) : fnat (fun i => decide (0 ≤ i) && p i) n = fnat p n := by simp
theorem fnat_end (p : Nat → Bool) (n : Nat) : fnat (fun i => decide (n ≤ i) && p i) n = -1 := fnat_none fun i hi => by simp; intro; omega

section
variable {s : ApiSite} {st : ApiState}
theorem S_rules_Stands {c : Int} {post : Bool → Prop} (hp : post (stB s c)) : V_rules_Stands s c post := by
  unfold V_rules_Stands V_rules_isCell
  refine Jn.mk (fun b => b = stB s c) (Jand2 (Ite.mk (fun h => ?_) (fun h => ?_))) (fun b hb => by rw [hb]; exact hp)
  · have hc : isC s.Floor c = true := h
    refine ⟨_, idx_kd hc, ?_⟩
    unfold stB standK; rw [hc]
    refine Ite.mk (fun h' => by simp [h']) (fun h' => by simp [h'])
  · have hc : isC s.Floor c = false := h
    unfold stB; rw [hc]; rfl
theorem S_rules_Class {i : Int} {post : ByteArray → Prop} (hp : post (clsS s i)) : V_rules_Class s i post := by
  unfold V_rules_Class
  refine Jor2 (Ite.mk (fun h => ?_) (fun h => ?_))
  · unfold clsS at hp; rw [if_neg (by simp at h; omega)] at hp; exact hp
  · have h' : 0 ≤ i ∧ i < s.Shelves.length := by simp at h; omega
    unfold clsS at hp; rw [if_pos h'] at hp
    refine ⟨s.Shelves.getD i.toNat default, ?_, hp⟩
    rw [idx_get h'.1 h'.2, List.getD_eq_getElem?_getD, List.getElem?_eq_getElem (by omega)]; rfl
theorem S_rules_classes (k : OkApiSite s) {post : List (ApiApart × Bool) → Prop} (hp : ∀ m : List (ApiApart × Bool), (∀ a b, (lk m ⟨a, b⟩).getD false = s.Aparts.any fun x => (seq x.A a && seq x.B b) || (seq x.A b && seq x.B a)) → post m) : V_rules_classes s post := by
  unfold V_rules_classes
  refine Jn.mk (fun m => ∀ a b, (lk m ⟨a, b⟩).getD false = s.Aparts.any fun x => (seq x.A a && seq x.B b) || (seq x.A b && seq x.B a))
    (V_loopc k.Aparts.1 (fun t : List (ApiApart × Bool) × Int => t.2) (fun n (t : List (ApiApart × Bool) × Int) => ∀ a b, (lk t.1 ⟨a, b⟩).getD false = (s.Aparts.take n).any fun x => (seq x.A a && seq x.B b) || (seq x.A b && seq x.B a)) rfl (fun a b => rfl) (fun n x t hx ht hI => ⟨by rw [ht], fun a b => ?_⟩) (fun t h => by rwa [List.take_length] at h)) (fun m h => hp m h)
  rw [take_succ hx, List.any_append, lk_upd, lk_upd]
  by_cases e1 : (⟨x.B, x.A⟩ : ApiApart) = ⟨a, b⟩
  · rw [if_pos e1]
    simp only [ApiApart.mk.injEq] at e1
    simp [e1.1, e1.2, seq_eq.2]
  · rw [if_neg e1]
    by_cases e2 : x = ⟨a, b⟩
    · rw [if_pos e2]; subst e2; simp [seq_eq.2]
    · rw [if_neg e2, hI]
      have h1 : (seq x.A a && seq x.B b) = false := by
        rw [Bool.eq_false_iff]; intro h; simp only [Bool.and_eq_true, seq_eq] at h; exact e2 (by cases x; simp at h; simp [h])
      have h2 : (seq x.A b && seq x.B a) = false := by
        rw [Bool.eq_false_iff]; intro h; simp only [Bool.and_eq_true, seq_eq] at h; exact e1 (by rw [h.1, h.2])
      simp [h1, h2]
theorem nev_lk {m : List (ApiApart × Bool)} (hm : ∀ a b, (lk m ⟨a, b⟩).getD false = s.Aparts.any fun x => (seq x.A a && seq x.B b) || (seq x.A b && seq x.B a)) {a b : ByteArray} (ha : nosh a = false) (hb : nosh b = false) : (lk m ⟨a, b⟩).getD false = nev s a b := by
  rw [hm]; unfold nev apB; rw [ha, hb]; rfl
theorem S_rules_Never (k : OkApiSite s) {a b : ByteArray} {post : Bool → Prop} (hp : post (nev s a b)) : V_rules_Never s a b post := by
  unfold V_rules_Never
  refine Jn.mk (fun r => r = nev s a b) (Ite.mk (fun h => ?_) (fun h => Ite.mk (fun h' => ?_) (fun h' => S_rules_classes k (fun m hm => nev_lk hm h h')))) (fun r hr => by rw [hr]; exact hp)
  · have : nosh a = true := h
    unfold nev apB; rw [this]; rfl
  · have : nosh b = true := h'
    unfold nev apB; rw [this]; simp
theorem S_rules_Carried (k : OkApiState st) {i : Int} {post : Int → Prop} (hp : post (carr st i)) : V_rules_Carried st i post := by
  unfold V_rules_Carried
  refine Ite.mk (fun h => ?_) (fun h => ?_)
  · unfold carr at hp; rw [if_pos (by simpa using h)] at hp; exact hp
  · unfold carr at hp; rw [if_neg (by simpa using h)] at hp
    unfold V_slices_IndexFunc_api_Robot_api_Robot__rules_Carried_1
    refine V_fidxc k.Robots.1 (fun r : ApiRobot => r.Load == i) (T := fun r post => V_rules_Carried_1 r i post) (fun r _ q hq => ?_) hp
    unfold V_rules_Carried_1; exact hq
theorem S_rules_standing (k : OkApiState st) (hl : st.Shelves.length ≤ 1000000) {post : List (Int × Int) → Prop} (hp : ∀ m : List (Int × Int), (∀ c, lk m c = optI (atS st c)) → post m) : V_rules_standing st post := by
  unfold V_rules_standing
  refine Jn.mk (fun m => ∀ i : Int, (lk m i).getD false = st.Robots.any fun r => r.Load == i)
    (V_loopc k.Robots.1 (fun t : List (Int × Bool) × Int => t.2) (fun n (t : List (Int × Bool) × Int) => ∀ i : Int, (lk t.1 i).getD false = (st.Robots.take n).any fun r => r.Load == i) rfl (fun i => rfl) (fun n r t hr ht hI => ⟨by rw [ht], fun i => ?_⟩) (fun t h => by rwa [List.take_length] at h)) (fun cm hcm => ?_)
  · rw [take_succ hr, List.any_append, lk_upd]
    by_cases e : r.Load = i
    · rw [if_pos e]; simp [e]
    · rw [if_neg e, hI]; simp [e]
  unfold V_slices_Backward_int_int
  refine ⟨by omega, Each.inv (bkw st.Shelves) (fun j m => ∀ c, lk m c = optI (fnat (fun i => decide (st.Shelves.length - j ≤ i) && atP st c i) st.Shelves.length)) (fun c => ?_) (fun j x m hx hI Y hY => ?_) (fun m h => hp m (fun c => ?_))⟩
  · rw [Nat.sub_zero, fnat_end]; rfl
  · have hj : j < st.Shelves.length := by have := (List.getElem?_eq_some_iff.1 hx).1; rwa [bkw_len] at this
    have hg := bkw_get (xs := st.Shelves) (m := st.Shelves.length - (j + 1)) (by omega)
    rw [show st.Shelves.length - (st.Shelves.length - (j + 1) + 1) = j by omega, hx] at hg
    cases hg
    have e1 : st.Shelves.length - j = st.Shelves.length - (j + 1) + 1 := by omega
    have hcar : (lk cm ((st.Shelves.length - (j + 1) : Nat) : Int)).getD false = carB st ((st.Shelves.length - (j + 1) : Nat) : Int) := by rw [hcm, carB_any (by omega)]
    refine Jn.mk' ?_
    dsimp only
    rw [hcar]
    refine Ite.mk (fun h => hY _ (fun c => ?_)) (fun h => hY _ (fun c => ?_))
    · rw [lk_upd, fnat_step (by omega)]
      by_cases e : st.Shelves.getD (st.Shelves.length - (j + 1)) 0 = c
      · rw [if_pos e, if_pos (by unfold atP; simp only [Bool.and_eq_true, beq_iff_eq]; exact ⟨e, h⟩)]
        unfold optI; rw [if_pos (by omega)]
      · rw [if_neg e, if_neg (by unfold atP; simp only [Bool.and_eq_true, beq_iff_eq]; exact fun h => e h.1), hI, e1]
    · rw [fnat_step (by omega), if_neg (by unfold atP; simp only [Bool.and_eq_true]; exact fun h' => by rw [h] at h'; cases h'.2), hI, e1]
  · rw [h c, bkw_len, Nat.sub_self]; unfold atS; rw [fnat_zero]
theorem atS_bd (st : ApiState) (c : Int) : -1 ≤ atS st c ∧ atS st c < st.Shelves.length := by
  rcases fnat_cases (atP st c) st.Shelves.length with ⟨i, h1, h2, _⟩ | ⟨h, _⟩ <;> unfold atS <;> omega
theorem optI_isSome (x : Int) : (optI x).isSome = decide (0 ≤ x) := by
  unfold optI; by_cases h : 0 ≤ x <;> simp [h]
theorem S_rules_At (k : OkApiState st) (hl : st.Shelves.length ≤ 1000000) {c : Int} {post : Int → Prop} (hp : post (atS st c)) : V_rules_At s st c post := by
  unfold V_rules_At
  refine S_rules_standing k hl (fun m hm => ?_)
  have := atS_bd st c
  rw [hm, optI_isSome]
  refine Ite.mk (fun h => ?_) (fun h => ?_)
  · simp at h; unfold optI; rw [if_pos h]; exact hp
  · simp at h; rw [show (-1 : Int) = atS st c by omega]; exact hp
end
end Go.Taq

/- The mathematics, part ND: what is near, which shelves disturb each other, dropping (rules). -/
set_option linter.unusedVariables false
set_option linter.unusedSimpArgs false
namespace Go.Taq
open Go

def nearB (f : ApiFloor) (a b : Int) : Bool := isC f b && ([0, 1, 2, 3] : List Int).any fun d => nbr f a d == b
theorem S_floor_Near {f : ApiFloor} (h : RF f) {a b : Int} {post : Bool → Prop} (hp : post (nearB f a b)) : V_floor_Near f a b post := by
  unfold V_floor_Near
  refine S_floor_is h (Ite.mk (fun hb => ?_) (fun hb => ?_))
  · simp only [Bool.not_eq_true'] at hb
    unfold nearB at hp; rw [hb] at hp; exact hp
  · simp only [Bool.not_eq_false'] at hb
    unfold nearB at hp; rw [hb] at hp
    exact V_anyc (xs := [0, 1, 2, 3]) (by simp [maxLen]) (fun d => nbr f a d == b) (T := fun x q => V_floor_beside f a x (fun r => q (r == b))) (fun x _ q hq => S_floor_beside h hq) hp
/-- the cells beside a cell -/
def besL (f : ApiFloor) (c : Int) : List Int := ([0, 1, 2, 3] : List Int).map (nbr f c) |>.filter fun x => !decide (x < 0)
theorem mem_besL {f : ApiFloor} (h : RF f) {c x : Int} : x ∈ besL f c ↔ nearB f c x = true := by
  unfold besL nearB
  rw [List.mem_filter, List.mem_map, Bool.and_eq_true, List.any_eq_true]
  constructor
  · rintro ⟨⟨d, hd, e⟩, h2⟩
    refine ⟨?_, d, hd, by simpa using e⟩
    rcases nbr_ok h c d with h3 | h3
    · rw [e] at h3; subst h3; simp at h2
    · rw [e] at h3; exact h3
  · rintro ⟨hx, d, hd, e⟩
    refine ⟨⟨d, hd, by simpa using e⟩, ?_⟩
    rw [isC_iff] at hx; simp; omega
section
variable {s : ApiSite} {st : ApiState}
theorem S_rules_beside (hf : RF s.Floor) {c : Int} (hc : isC s.Floor c = true) {post : List Int → Prop} (hp : post (besL s.Floor c)) : V_rules_beside s c post := by
  unfold V_rules_beside
  refine S_floor_At hf hc ?_
  have hb := p_bd hf hc
  have w := hf.W4; have hh := hf.H4; have hd := hf.D4
  dsimp only
  rw [w64_eq (x := pX s.Floor c + 1) (by omega) (by omega), w64_eq (x := pY s.Floor c + 1) (by omega) (by omega), w64_eq (x := pX s.Floor c - 1) (by omega) (by omega), w64_eq (x := pY s.Floor c - 1) (by omega) (by omega)]
  refine S_floor_Cell hf (S_floor_Cell hf (S_floor_Cell hf (S_floor_Cell hf ?_)))
  have n0 : cellF s.Floor (pX s.Floor c + 1) (pY s.Floor c) (pZ s.Floor c) = nbr s.Floor c 0 := by simp [nbr, hc]
  have n1 : cellF s.Floor (pX s.Floor c) (pY s.Floor c + 1) (pZ s.Floor c) = nbr s.Floor c 1 := by simp [nbr, hc]
  have n2 : cellF s.Floor (pX s.Floor c - 1) (pY s.Floor c) (pZ s.Floor c) = nbr s.Floor c 2 := by simp [nbr, hc]
  have n3 : cellF s.Floor (pX s.Floor c) (pY s.Floor c - 1) (pZ s.Floor c) = nbr s.Floor c 3 := by simp [nbr, hc]
  rw [n0, n1, n2, n3]
  unfold V_slices_DeleteFunc_int_int__o0_rules_beside_1 V_slices_IndexFunc_int_int__rules_beside_1
  have hm : ([nbr s.Floor c 0, nbr s.Floor c 1, nbr s.Floor c 2, nbr s.Floor c 3] : List Int).length ≤ maxLen := by simp [maxLen]
  refine V_fidxc hm (fun x => decide (x < 0)) (T := fun x q => V_rules_beside_1 x q) (fun x _ q hq => by unfold V_rules_beside_1; exact hq) ?_
  exact V_delrest hm 0 (fun x => decide (x < 0)) (T := fun x q => V_rules_beside_1 x q) (fun x _ q hq => by unfold V_rules_beside_1; exact hq) hp

/-- two shelves disturb each other -/
def badP (s : ApiSite) (st : ApiState) (a b : Nat) : Bool := nearB s.Floor (st.Shelves.getD a 0) (st.Shelves.getD b 0) && nev s (clsS s a) (clsS s b) && !carB st a && !carB st b
/-- the least one behind a shelf that it disturbs -/
def partner (s : ApiSite) (st : ApiState) (a : Nat) : Int := fnat (fun b => decide (a < b) && badP s st a b) st.Shelves.length
def apartS (s : ApiSite) (st : ApiState) : Int × Int × Bool :=
  let a := fnat (fun a => decide (0 ≤ partner s st a)) st.Shelves.length
  if a < 0 then (0, 0, false) else (a, partner s st a.toNat, true)
theorem nev_nosh {a b : ByteArray} (h : nev s a b = true) : nosh a = false ∧ nosh b = false := by
  unfold nev apB at h
  cases h1 : nosh a <;> cases h2 : nosh b <;> simp [h1, h2] at h ⊢

/-- the least of some places, looked at one after the other -/
theorem fnat_min {p q : Nat → Bool} {n : Nat} (h : ∀ i, i < n → p i = q i) : fnat p n = fnat q n := by
  rcases fnat_cases p n with ⟨i, hi, e, hp, hb⟩ | ⟨e, hb⟩
  · rw [e]; exact (fnat_some hi (by rw [← h i hi]; exact hp) (fun j hj => by rw [← h j (by omega)]; exact hb j hj)).symm
  · rw [e]; exact (fnat_none fun i hi => by rw [← h i hi]; exact hb i hi).symm

theorem S_rules_Apart (ks : OkApiSite s) (k : OkApiState st) (hf : RF s.Floor) (hl : st.Shelves.length ≤ 1000000) (hc : ∀ c, c ∈ st.Shelves → isC s.Floor c = true) {post : Int × Int × Bool → Prop} (hp : post (apartS s st)) : V_rules_Apart s st post := by
  unfold V_rules_Apart
  refine S_rules_classes ks (fun nm hnm => ?_)
  -- who stands at each cell
  have okS : ∀ (P : Nat → Bool), True := fun _ => trivial
  refine Jn.mk (fun m : List (Int × List Int) => ∀ c, (lk m c).getD [] = ((List.range st.Shelves.length).filter fun i => (st.Shelves.getD i 0 == c) && !nosh (clsS s i) && !carB st i).map fun (i : Nat) => (i : Int))
    (V_loopc k.Shelves.1 (fun t : List (Int × List Int) × Int => t.2) (fun n (t : List (Int × List Int) × Int) => ∀ c, (lk t.1 c).getD [] = ((List.range n).filter fun i => (st.Shelves.getD i 0 == c) && !nosh (clsS s i) && !carB st i).map fun (i : Nat) => (i : Int)) rfl (fun c => rfl) (fun n x t hx ht hI => ?_) (fun t h => h)) (fun m hm => ?_)
  · have hn := (List.getElem?_eq_some_iff.1 hx).1
    have hxg : st.Shelves.getD n 0 = x := by rw [List.getD_eq_getElem?_getD, hx]; rfl
    have hlen : ∀ c, ((lk t.1 c).getD []).length ≤ n := fun c => by rw [hI c, List.length_map]; exact Nat.le_trans (List.length_filter_le ..) (by simp)
    have step : ∀ c, ((List.range (n + 1)).filter fun i => (st.Shelves.getD i 0 == c) && !nosh (clsS s i) && !carB st i).map (fun (i : Nat) => (i : Int)) = (lk t.1 c).getD [] ++ if ((x == c) && !nosh (clsS s n) && !carB st n) = true then [(n : Int)] else [] := fun c => by
      rw [List.range_succ, List.filter_append, List.map_append, ← hI c]
      congr 1
      rw [← hxg]
      rw [List.filter_cons, List.filter_nil]
      cases hq : ((st.Shelves.getD n 0 == c) && !nosh (clsS s n) && !carB st n) <;> rfl
    rw [ht]
    refine Jn.mk (fun b => b = (!nosh (clsS s n) && !carB st n)) (S_rules_Class (Ite.mk (fun h => by rw [show nosh (clsS s n) = true from h]; rfl) (fun h => S_rules_Carried k (by rw [show nosh (clsS s n) = false from h]; unfold carB; by_cases h0 : 0 ≤ carr st n <;> simp [h0] <;> omega)))) (fun b hb => Jn.mk (fun m => ∀ c, (lk m c).getD [] = ((List.range (n + 1)).filter fun i => (st.Shelves.getD i 0 == c) && !nosh (clsS s i) && !carB st i).map fun (i : Nat) => (i : Int)) ?_ (fun m h => ⟨rfl, h⟩))
    refine Ite.mk (fun h => Jn.mk' ⟨fun y hy => ?_, fun hy => ?_⟩) (fun h c => ?_)
    · have hyl : y.length ≤ n := by have := hlen x; rw [hy] at this; exact this
      refine ⟨by simp; omega, fun c => ?_⟩
      rw [step, lk_upd]
      by_cases e : x = c
      · subst e; rw [if_pos rfl, hy]; rw [hb] at h; rw [if_pos (by simp only [Bool.and_eq_true] at h ⊢; exact ⟨⟨by simp, h.1⟩, h.2⟩)]; rfl
      · rw [if_neg e, if_neg (by simp [e])]; simp
    · refine ⟨by simp, fun c => ?_⟩
      rw [step, lk_upd, lk_upd]
      by_cases e : x = c
      · subst e; rw [if_pos rfl, hy]; rw [hb] at h; rw [if_pos (by simp only [Bool.and_eq_true] at h ⊢; exact ⟨⟨by simp, h.1⟩, h.2⟩)]; rfl
      · rw [if_neg e, if_neg e, if_neg (by simp [e])]; simp
    · rw [step, if_neg (by rw [hb] at h; intro h'; simp only [Bool.and_eq_true] at h'; rw [Bool.and_eq_false_iff] at h; rcases h with h | h <;> simp_all)]; simp
  -- the search
  refine Jn.mk (fun _ => ∀ a : Nat, a < st.Shelves.length → partner s st a = -1) (V_loopj (xs := st.Shelves) k.Shelves.1 (fun t => t) (fun n _ => ∀ a : Nat, a < n → partner s st a = -1) rfl (fun a h => by omega) (fun n x t hx ht hI => ?_) (fun t h => h)) (fun _ h => ?_)
  · have hn := (List.getElem?_eq_some_iff.1 hx).1
    have hxg : st.Shelves.getD n 0 = x := by rw [List.getD_eq_getElem?_getD, hx]; rfl
    rw [ht]
    refine Jn.mk (fun _ => partner s st n = -1) ⟨x, idx_of rfl hx, ?_⟩ (fun _ h => ⟨rfl, fun a ha => ?_⟩)
    · refine Jn.mk (fun b => b = (nosh (clsS s n) || carB st n)) (S_rules_Class (Ite.mk (fun h => by rw [show nosh (clsS s n) = true from h]; rfl) (fun h => S_rules_Carried k (by rw [show nosh (clsS s n) = false from h]; unfold carB; simp)))) (fun b hb => Ite.mk (fun h => ?_) (fun h => ?_))
      · refine fnat_none fun i hi => ?_
        rw [hb] at h
        cases hnv : nev s (clsS s n) (clsS s i) with
        | false => unfold badP; rw [hnv]; simp
        | true =>
          have := nev_nosh hnv
          rw [this.1] at h
          unfold badP; simp at h; simp [h]
      · rw [hb, Bool.or_eq_false_iff] at h
        have hxc := hc x (List.mem_of_getElem? hx)
        refine S_rules_beside hf hxc ?_
        -- the least one so far: among the cells beside that were looked at
        have hbm := fun y => mem_besL hf (c := x) (x := y)
        have hbl : (besL s.Floor x).length ≤ 4 := Nat.le_trans (List.length_filter_le ..) (by simp)
        refine Jn.mk (fun best => best = partner s st n)
          (V_loopj (xs := besL s.Floor x) (by unfold maxLen; omega) (fun t : Int × Int => t.2) (fun j (t : Int × Int) => t.1 = fnat (fun b => decide (n < b) && badP s st n b && ((besL s.Floor x).take j).contains (st.Shelves.getD b 0)) st.Shelves.length) rfl (by symm; exact fnat_none fun i hi => by simp) (fun j y t' hy ht' hJ => ?_) (fun t' h' => ?_)) (fun best hbest => ?_)
        · refine Jn.mk (fun r => r = fnat (fun b => decide (n < b) && badP s st n b && ((besL s.Floor x).take (j + 1)).contains (st.Shelves.getD b 0)) st.Shelves.length) ⟨y, by rw [ht']; exact idx_of rfl hy, ?_⟩ (fun r hr => ⟨by rw [ht'], hr⟩)
          have hat := hm y
          generalize hL : (lk m y).getD [] = L at hat
          have hLlen : L.length ≤ st.Shelves.length := by rw [hat, List.length_map]; exact Nat.le_trans (List.length_filter_le ..) (by simp)
          have hLm : ∀ z, z ∈ L ↔ ∃ i : Nat, i < st.Shelves.length ∧ z = (i : Int) ∧ st.Shelves.getD i 0 = y ∧ nosh (clsS s i) = false ∧ carB st i = false := fun z => by
            rw [hat, List.mem_map]
            constructor
            · rintro ⟨i, hi, rfl⟩
              rw [List.mem_filter] at hi
              simp at hi
              exact ⟨i, hi.1, rfl, hi.2.1.1, hi.2.1.2, hi.2.2⟩
            · rintro ⟨i, h1, rfl, h2, h3, h4⟩
              exact ⟨i, List.mem_filter.2 ⟨by simpa using h1, by rw [h2, h3, h4]; simp⟩, rfl⟩
          refine Jn.mk (fun r => r = fnat (fun b => decide (n < b) && badP s st n b && ((besL s.Floor x).take (j + 1)).contains (st.Shelves.getD b 0)) st.Shelves.length)
            (V_loopc (xs := L) (by unfold maxLen; omega) (fun t : Int × Int => t.2) (fun q (t : Int × Int) => t.1 = fnat (fun b => decide (n < b) && badP s st n b && (((besL s.Floor x).take j).contains (st.Shelves.getD b 0) || (L.take q).contains (b : Int))) st.Shelves.length) rfl (by simp [hJ]) (fun q z t'' hz ht'' hQ => ?_) (fun t'' h'' => ?_)) (fun r hr => hr)
          · obtain ⟨i, hi, rfl, hiy, hin, hic⟩ := (hLm z).1 (List.mem_of_getElem? hz)
            have hbad : badP s st n i = nev s (clsS s n) (clsS s i) := by
              unfold badP
              have hnr : nearB s.Floor (st.Shelves.getD n 0) (st.Shelves.getD i 0) = true := by
                rw [hxg, hiy, ← hbm]; exact List.mem_of_getElem? hy
              rw [hnr, h.2, hic]; simp
            have hstep : fnat (fun b => decide (n < b) && badP s st n b && (((besL s.Floor x).take j).contains (st.Shelves.getD b 0) || (L.take (q + 1)).contains (b : Int))) st.Shelves.length = if (decide (n < i) && badP s st n i) = true ∧ (t''.1 < 0 ∨ (i : Int) < t''.1) then (i : Int) else t''.1 := by
              rw [hQ]
              rcases fnat_cases (fun b => decide (n < b) && badP s st n b && (((besL s.Floor x).take j).contains (st.Shelves.getD b 0) || (L.take q).contains (b : Int))) st.Shelves.length with ⟨w, hw, e, hpw, hbw⟩ | ⟨e, hbw⟩
              · rw [e]
                by_cases hh : (decide (n < i) && badP s st n i) = true ∧ ((w : Int) < 0 ∨ (i : Int) < w)
                · rw [if_pos hh]
                  refine fnat_some hi (by rw [hh.1, take_succ hz]; simp) (fun b hb' => ?_)
                  have := hbw b (by omega)
                  rw [take_succ hz]
                  have hne : ((b : Int) == (i : Int)) = false := by simp; omega
                  simp only [List.contains_append, List.contains_cons, hne, List.contains_nil, Bool.or_false]
                  exact this
                · rw [if_neg hh]
                  refine fnat_some hw ?_ (fun b hb' => ?_)
                  · rw [take_succ hz]
                    simp only [List.contains_append] 
                    simp only [Bool.and_eq_true, Bool.or_eq_true] at hpw ⊢
                    exact ⟨hpw.1, hpw.2.imp id .inl⟩
                  · have hb'' := hbw b hb'
                    rw [take_succ hz]
                    by_cases e2 : b = i
                    · subst e2
                      have hz' : (decide (n < b) && badP s st n b) = false := by
                        rw [Bool.eq_false_iff]; intro h2; exact hh ⟨h2, .inr (by omega)⟩
                      simp only [hz', Bool.false_and]
                    · have hne : ((b : Int) == (i : Int)) = false := by simp; omega
                      simp only [List.contains_append, List.contains_cons, hne, List.contains_nil, Bool.or_false]
                      exact hb''
              · rw [e]
                by_cases hh : (decide (n < i) && badP s st n i) = true
                · rw [if_pos ⟨hh, .inl (by omega)⟩]
                  refine fnat_some hi (by rw [hh, take_succ hz]; simp) (fun b hb' => ?_)
                  have := hbw b (by omega)
                  rw [take_succ hz]
                  have hne : ((b : Int) == (i : Int)) = false := by simp; omega
                  simp only [List.contains_append, List.contains_cons, hne, List.contains_nil, Bool.or_false]
                  exact this
                · rw [if_neg (fun h2 => hh h2.1)]
                  refine fnat_none fun b hb' => ?_
                  have hb'' := hbw b hb'
                  rw [take_succ hz]
                  by_cases e2 : b = i
                  · subst e2
                    have hz' : (decide (n < b) && badP s st n b) = false := Bool.eq_false_iff.2 hh
                    simp only [hz', Bool.false_and]
                  · have hne : ((b : Int) == (i : Int)) = false := by simp; omega
                    simp only [List.contains_append, List.contains_cons, hne, List.contains_nil, Bool.or_false]
                    exact hb''
            have hnvv : (lk nm ⟨clsS s n, clsS s i⟩).getD false = badP s st n i := by rw [nev_lk hnm h.1 hin, hbad]
            refine Jn.mk (fun b => b = true ↔ (decide (n < i) && badP s st n i) = true ∧ (t''.1 < 0 ∨ (i : Int) < t''.1)) (Ite.mk (fun h1 => Ite.mk (fun h2 => ?_) (fun h2 => Ite.mk (fun h3 => ?_) (fun h3 => ?_))) (fun h1 => ?_)) (fun b hb => Jn.mk (fun r => r = fnat (fun b => decide (n < b) && badP s st n b && (((besL s.Floor x).take j).contains (st.Shelves.getD b 0) || (L.take (q + 1)).contains (b : Int))) st.Shelves.length) ?_ (fun r hr => ⟨by rw [ht''], hr⟩))
            · simp at h1 h2
              refine S_rules_Class (S_rules_Class ?_)
              rw [hnvv]; simp [h1, h2]
            · simp at h1 h2 h3
              refine S_rules_Class (S_rules_Class ?_)
              rw [hnvv]; simp [h1, h3]
            · simp at h1 h2 h3
              simp; intro _ _; omega
            · simp at h1
              simp; intro h4; omega
            · rw [hstep]
              refine Ite.mk (fun h1 => by rw [if_pos (hb.1 h1)]) (fun h1 => by rw [if_neg (fun h2 => by rw [hb.2 h2] at h1; cases h1)])
          · rw [h'']
            refine fnat_min fun b hb' => ?_
            rw [List.take_length, take_succ hy]
            cases hbd : badP s st n b with
            | false => simp
            | true =>
              have hbn : nosh (clsS s b) = false ∧ carB st b = false := by
                unfold badP at hbd
                simp only [Bool.and_eq_true, Bool.not_eq_true'] at hbd
                exact ⟨(nev_nosh hbd.1.1.2).2, hbd.2⟩
              have : L.contains (b : Int) = (st.Shelves.getD b 0 == y) := by
                rw [Bool.eq_iff_iff, List.contains_iff_mem, hLm, beq_iff_eq]
                constructor
                · rintro ⟨i, h1, h2, h3, _⟩
                  have : b = i := by omega
                  rw [this]; exact h3
                · intro h1; exact ⟨b, hb', rfl, h1, hbn⟩
              rw [this]
              simp only [List.contains_append, List.contains_cons, List.contains_nil, Bool.or_false]
        · rw [h', List.take_length]
          refine fnat_min fun b hb' => ?_
          cases hbd : badP s st n b with
          | false => simp
          | true =>
            have : (besL s.Floor x).contains (st.Shelves.getD b 0) = true := by
              rw [List.contains_iff_mem, hbm, ← hxg]
              unfold badP at hbd
              simp only [Bool.and_eq_true] at hbd
              exact hbd.1.1.1
            rw [this]; simp
        · rw [hbest]
          refine Ite.mk (fun h1 => ?_) (fun h1 => ?_)
          · have : apartS s st = ((n : Int), partner s st n, true) := by
              have hfn : fnat (fun a => decide (0 ≤ partner s st a)) st.Shelves.length = n := fnat_some hn (by simpa using h1) (fun a ha => by simp [hI a ha])
              unfold apartS
              simp only [hfn]
              rw [if_neg (by omega)]; rfl
            rw [this] at hp; exact hp
          · simp at h1
            rcases fnat_cases (fun b => decide (n < b) && badP s st n b) st.Shelves.length with ⟨w, hw, e, _⟩ | ⟨e, _⟩
            · unfold partner at h1; rw [e] at h1; omega
            · exact e
    · by_cases e : a = n
      · subst e; exact h
      · exact hI a (by omega)
  · have : apartS s st = (0, 0, false) := by
      have hfn : fnat (fun a => decide (0 ≤ partner s st a)) st.Shelves.length = -1 := fnat_none fun i hi => by simp [h i hi]
      unfold apartS; simp only [hfn]; rfl
    rw [this] at hp; exact hp
end
end Go.Taq

/- The mathematics, part NE: dropping; the rules' statements: bounds, examples. -/
set_option linter.unusedVariables false
set_option linter.unusedSimpArgs false
namespace Go.Taq
open Go

def dHit (st : ApiState) (shelf c : Int) (i : Nat) : Bool := !((i : Int) == shelf) && !carB st i && (st.Shelves.getD i 0 == c)
def dAp (s : ApiSite) (st : ApiState) (shelf c : Int) (i : Nat) : Bool := !((i : Int) == shelf) && !carB st i && nearB s.Floor (st.Shelves.getD i 0) c && nev s (clsS s shelf) (clsS s i)
def dropS (s : ApiSite) (st : ApiState) (shelf c : Int) : Int :=
  if shelf < 0 ∨ shelf ≥ st.Shelves.length then 4 else if stB s c = false then 13 else if (List.range st.Shelves.length).any (dHit st shelf c) = true then 13 else if (List.range st.Shelves.length).any (dAp s st shelf c) = true then 17 else 0
theorem any_range_succ (p : Nat → Bool) (n : Nat) : (List.range (n + 1)).any p = ((List.range n).any p || p n) := by rw [List.range_succ, List.any_append]; simp
theorem any_range_mem {p : Nat → Bool} {n i : Nat} (hi : i < n) (hp : p i = true) : (List.range n).any p = true := List.any_eq_true.2 ⟨i, by simpa using hi, hp⟩
section
variable {s : ApiSite} {st : ApiState}
theorem getD_of {l : List Int} {n : Nat} {x : Int} (h : l[n]? = some x) : l.getD n 0 = x := by rw [List.getD_eq_getElem?_getD, h]; rfl
theorem S_rules_Drop (ks : OkApiSite s) (k : OkApiState st) (hf : RF s.Floor) (hl : st.Shelves.length ≤ 1000000) {shelf c : Int} {post : Int → Prop} (hp : post (dropS s st shelf c)) : V_rules_Drop s st shelf c post := by
  unfold V_rules_Drop
  refine Jor2 (Ite.mk (fun h => ?_) (fun h => S_rules_Stands (Ite.mk (fun h2 => ?_) (fun h2 => ?_))))
  · unfold dropS at hp; rw [if_pos (by simp at h; omega)] at hp; exact hp
  · unfold dropS at hp; rw [if_neg (by simp at h; omega), if_pos (by simpa using h2)] at hp; exact hp
  · unfold dropS at hp; rw [if_neg (by simp at h; omega), if_neg (by simp at h2; simp [h2])] at hp
    refine Jn.mk (fun e => (List.range st.Shelves.length).any (dHit st shelf c) = false ∧ e = if (List.range st.Shelves.length).any (dAp s st shelf c) = true then 17 else 0)
      (V_loopj (xs := st.Shelves) k.Shelves.1 (fun t : Int × Int => t.2) (fun n (t : Int × Int) => (List.range n).any (dHit st shelf c) = false ∧ t.1 = if (List.range n).any (dAp s st shelf c) = true then 17 else 0) rfl ⟨rfl, rfl⟩ (fun n x t hx ht hI => ?_) (fun t h => h)) (fun e he => by rw [he.1] at hp; rw [he.2]; exact hp)
    have hn := (List.getElem?_eq_some_iff.1 hx).1
    have hxg := getD_of hx
    rw [ht]
    refine Jn.mk (fun e => (List.range (n + 1)).any (dHit st shelf c) = false ∧ e = if (List.range (n + 1)).any (dAp s st shelf c) = true then 17 else 0) ⟨x, idx_of rfl hx, ?_⟩ (fun e he => ⟨rfl, he⟩)
    rw [any_range_succ, any_range_succ, hI.1, hI.2]
    refine Jn.mk (fun b => (b = true → dHit st shelf c n = false ∧ dAp s st shelf c n = false) ∧ (b = false → ((n : Int) == shelf) = false ∧ carB st n = false ∧ (x ≠ c → nearB s.Floor x c = true))) ?_ (fun b hb => Ite.mk (fun h3 => ?_) (fun h3 => ?_))
    · refine Ite.mk (fun h3 => ⟨fun _ => ⟨by unfold dHit; rw [h3]; rfl, by unfold dAp; rw [h3]; rfl⟩, fun h => by cases h⟩) (fun h3 => Ite.mk (fun h4 => S_floor_Near hf (Ite.mk (fun h5 => S_rules_Carried k ⟨fun h6 => ?_, fun h6 => ?_⟩) (fun h5 => ⟨fun _ => ⟨?_, ?_⟩, fun h => by cases h⟩))) (fun h4 => S_rules_Carried k ⟨fun h6 => ?_, fun h6 => ?_⟩))
      · have : carB st n = true := by unfold carB; simpa using h6
        exact ⟨by unfold dHit; rw [this]; simp, by unfold dAp; rw [this]; simp⟩
      · have : carB st n = false := by unfold carB; simpa using h6
        exact ⟨h3, this, fun _ => h5⟩
      · unfold dHit; rw [hxg]; simp at h4; simp [h4]
      · unfold dAp; rw [hxg, h5]; simp
      · have : carB st n = true := by unfold carB; simpa using h6
        exact ⟨by unfold dHit; rw [this]; simp, by unfold dAp; rw [this]; simp⟩
      · have : carB st n = false := by unfold carB; simpa using h6
        exact ⟨h3, this, fun h => absurd (by simpa using h4) h⟩
    · rw [(hb.1 h3).1, (hb.1 h3).2]; exact ⟨by simp, by simp⟩
    · obtain ⟨g1, g2, g3⟩ := hb.2 h3
      refine Ite.mk (fun h4 => ?_) (fun h4 => S_rules_Class (S_rules_Class (S_rules_Never ks ?_)))
      · have : dHit st shelf c n = true := by unfold dHit; rw [g1, g2, hxg, h4]; rfl
        rw [any_range_mem hn this] at hp; exact hp
      · have e1 : dHit st shelf c n = false := by unfold dHit; rw [hxg, h4]; simp
        have e2 : dAp s st shelf c n = nev s (clsS s shelf) (clsS s n) := by unfold dAp; rw [g1, g2, hxg, g3 (by simpa using h4)]; rfl
        rw [e1, e2]
        refine Jn.mk (fun e => e = if ((List.range n).any (dAp s st shelf c) || nev s (clsS s shelf) (clsS s n)) = true then 17 else 0) (Ite.mk (fun h5 => by rw [h5]; simp) (fun h5 => by rw [h5]; simp)) (fun e he => ⟨by simp, he⟩)
end

/-- a right small site, and a state with as many shelves, at cells -/
structure FitS (s : ApiSite) (st : ApiState) : Prop where
  r : RSite s
  few : FewS s 60 20
  rob : st.Robots.length ≤ 20
  len : st.Shelves.length = s.Shelves.length
  cell : ∀ c, c ∈ st.Shelves → isC s.Floor c = true
theorem FitS.sl {s : ApiSite} {st : ApiState} (h : FitS s st) : st.Shelves.length ≤ 20 := by have := h.few.shelves; have := h.len; omega
/-! ## the examples -/
theorem ok_ml {α : Type} {X : α → Prop} {xs : List α} (h1 : xs.length ≤ 1000) (h2 : ∀ x, x ∈ xs → X x) : OkL X xs := ⟨Nat.le_trans h1 (by decide), h2⟩
theorem i64_of {x : Int} (h : -1000000 ≤ x ∧ x ≤ 1000000) : I64 x := by constructor <;> omega
end Go.Taq

/- The mathematics, part NF: the rules' statements: examples, RulesApart. -/
set_option linter.unusedVariables false
set_option linter.unusedSimpArgs false
namespace Go.Taq
open Go

theorem nev_comm {s : ApiSite} (a b : ByteArray) : nev s a b = nev s b a := by
  unfold nev apB
  have e : ∀ x : ApiApart, ((seq x.A a && seq x.B b) || (seq x.A b && seq x.B a)) = ((seq x.A b && seq x.B a) || (seq x.A a && seq x.B b)) := fun x => Bool.or_comm _ _
  simp only [e]
  rw [Bool.and_comm (!nosh a)]

theorem apartS_found {s : ApiSite} {st : ApiState} : (apartS s st).2.2 = decide (0 ≤ fnat (fun a => decide (0 ≤ partner s st a)) st.Shelves.length) := by
  unfold apartS
  simp only
  split <;> rename_i h <;> simp <;> omega
end Go.Taq
