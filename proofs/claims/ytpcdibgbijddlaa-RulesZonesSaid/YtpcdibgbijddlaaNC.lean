/- The mathematics, part NC: what may stand where (rules): cells, classes, who is carried, what stands at a cell, rooms. -/
import Derived.Test.YtpcdibgbijddlaaMS
import Derived.Test.YtpcdibgbijddlaaQA
set_option linter.unusedVariables false
set_option linter.unusedSimpArgs false
namespace Go.Taq
open Go

def stB (s : ApiSite) (c : Int) : Bool := isC s.Floor c && standK (kd s.Floor c)
def okU (f : ApiFloor) (k : Int) (n : Nat) : List Int := ((List.range n).filter fun j => f.Kind.getD j 0 == k).map fun (j : Nat) => (j : Int)
theorem okU_succ (f : ApiFloor) (k : Int) (n : Nat) : okU f k (n + 1) = okU f k n ++ if f.Kind.getD n 0 == k then [(n : Int)] else [] := by
  unfold okU
  rw [List.range_succ, List.filter_append, List.map_append]
  congr 1
  cases h : (f.Kind.getD n 0 == k)
  · have e : List.filter (fun j => f.Kind.getD j 0 == k) [n] = [] := by rw [List.filter_cons, h]; rfl
    rw [e]; rfl
  · have e : List.filter (fun j => f.Kind.getD j 0 == k) [n] = [n] := by rw [List.filter_cons, h]; rfl
    rw [e]; rfl
theorem okU_len (f : ApiFloor) (k : Int) (n : Nat) : (okU f k n).length ≤ n := by
  unfold okU; rw [List.length_map]; exact Nat.le_trans (List.length_filter_le ..) (by simp)
def clsS (s : ApiSite) (i : Int) : ByteArray := if 0 ≤ i ∧ i < s.Shelves.length then (s.Shelves.getD i.toNat default).Class else ByteArray.empty
def nev (s : ApiSite) (a b : ByteArray) : Bool := apB s.Aparts a b
def carr (st : ApiState) (i : Int) : Int := if i < 0 then -1 else fidx (fun r : ApiRobot => r.Load == i) st.Robots
def carB (st : ApiState) (i : Int) : Bool := decide (0 ≤ carr st i)
theorem carB_any {st : ApiState} {i : Int} (h : 0 ≤ i) : carB st i = st.Robots.any fun r => r.Load == i := by
  unfold carB carr
  rw [if_neg (by omega)]
  have := fidx_any (p := fun r : ApiRobot => r.Load == i) (xs := st.Robots)
  rw [← this]
/-- an option of a number that is -1 if there is none -/
def optI (x : Int) : Option Int := if 0 ≤ x then some x else none
/-- the shelf that stands at a cell, or -1 -/
def atP (st : ApiState) (c : Int) (i : Nat) : Bool := (st.Shelves.getD i 0 == c) && !carB st i
def atS (st : ApiState) (c : Int) : Int := fnat (atP st c) st.Shelves.length
def roomP (s : ApiSite) (st : ApiState) (c : Int) : Bool := stB s c && decide (atS st c < 0)
def roomS (s : ApiSite) (st : ApiState) (z : Int) : Int := if z < 0 ∨ z ≥ s.Zones.length then 0 else ((s.Zones.getD z.toNat default).Cells.countP (roomP s st) : Nat) - (s.Zones.getD z.toNat default).Keep
theorem fnat_step {p : Nat → Bool} {a n : Nat} (h : a < n) : fnat (fun i => decide (a ≤ i) && p i) n = if p a = true then (a : Int) else fnat (fun i => decide (a + 1 ≤ i) && p i) n := by
  by_cases hp : p a = true
  · rw [if_pos hp]
    exact fnat_some h (by simp [hp]) (fun j hj => by simp; intro h'; omega)
  · rw [if_neg hp]
    have : (fun i => decide (a ≤ i) && p i) = fun i => decide (a + 1 ≤ i) && p i := by
      funext i
      by_cases e : i = a
      · subst e; simp [hp]
      · have : (a ≤ i) = (a + 1 ≤ i) := by simp; omega
        simp only [this]
    rw [this]
theorem fnat_zero (p : Nat → Bool) (n : Nat) : fnat (fun i => decide (0 ≤ i) && p i) n = fnat p n := by simp
theorem fnat_end (p : Nat → Bool) (n : Nat) : fnat (fun i => decide (n ≤ i) && p i) n = -1 := fnat_none fun i hi => by simp; intro; omega

section
variable {s : ApiSite} {st : ApiState}
theorem S_rules_Stands {c : Int} {post : Bool → Prop} (hp : post (stB s c)) : V_rules_Stands s c post := by
  unfold V_rules_Stands V_rules_isCell
  refine Jn.mk (fun b => b = stB s c) (Jand2 (Ite.mk (fun h => ?_) (fun h => ?_))) (fun b hb => by rw [hb]; exact hp)
  · have hc : isC s.Floor c = true := h
    refine ⟨_, idx_kd hc, ?_⟩
    unfold stB standK; rw [hc]
    refine Ite.mk (fun h' => by simp [h']) (fun h' => by simp [h'])
  · have hc : isC s.Floor c = false := h
    unfold stB; rw [hc]; rfl
theorem kd_get {f : ApiFloor} {n : Nat} {x : Int} (h : f.Kind[n]? = some x) : f.Kind.getD n 0 = x := by rw [List.getD_eq_getElem?_getD, h]; rfl
theorem S_rules_OfKind (hf : RF s.Floor) {k : Int} {post : List Int → Prop} (hp : post (okU s.Floor k s.Floor.Kind.length)) : V_rules_OfKind s k post := by
  unfold V_rules_OfKind
  have hl := hf.len.1
  refine Jn.mk (fun l => l = okU s.Floor k s.Floor.Kind.length) (V_loopc (by unfold maxLen; omega) (fun t : List Int × Int => t.2) (fun n (t : List Int × Int) => t.1 = okU s.Floor k n) rfl rfl (fun n x t hx ht hI => ?_) (fun t h => h)) (fun l h => by rw [h]; exact hp)
  have hn := (List.getElem?_eq_some_iff.1 hx).1
  refine Jn.mk (fun l => l = okU s.Floor k (n + 1)) ?_ (fun l h => ⟨by rw [ht], h⟩)
  have hol := okU_len s.Floor k n
  rw [okU_succ, kd_get hx, hI]
  refine Ite.mk (fun h => ⟨by simp; omega, by rw [if_pos h, ht]⟩) (fun h => by rw [if_neg (by simp [h])]; simp)
theorem S_rules_Class {i : Int} {post : ByteArray → Prop} (hp : post (clsS s i)) : V_rules_Class s i post := by
  unfold V_rules_Class
  refine Jor2 (Ite.mk (fun h => ?_) (fun h => ?_))
  · unfold clsS at hp; rw [if_neg (by simp at h; omega)] at hp; exact hp
  · have h' : 0 ≤ i ∧ i < s.Shelves.length := by simp at h; omega
    unfold clsS at hp; rw [if_pos h'] at hp
    refine ⟨s.Shelves.getD i.toNat default, ?_, hp⟩
    rw [idx_get h'.1 h'.2, List.getD_eq_getElem?_getD, List.getElem?_eq_getElem (by omega)]; rfl
theorem S_rules_classes (k : OkApiSite s) {post : List (ApiApart × Bool) → Prop} (hp : ∀ m : List (ApiApart × Bool), (∀ a b, (lk m ⟨a, b⟩).getD false = s.Aparts.any fun x => (seq x.A a && seq x.B b) || (seq x.A b && seq x.B a)) → post m) : V_rules_classes s post := by
  unfold V_rules_classes
  refine Jn.mk (fun m => ∀ a b, (lk m ⟨a, b⟩).getD false = s.Aparts.any fun x => (seq x.A a && seq x.B b) || (seq x.A b && seq x.B a))
    (V_loopc k.Aparts.1 (fun t : List (ApiApart × Bool) × Int => t.2) (fun n (t : List (ApiApart × Bool) × Int) => ∀ a b, (lk t.1 ⟨a, b⟩).getD false = (s.Aparts.take n).any fun x => (seq x.A a && seq x.B b) || (seq x.A b && seq x.B a)) rfl (fun a b => rfl) (fun n x t hx ht hI => ⟨by rw [ht], fun a b => ?_⟩) (fun t h => by rwa [List.take_length] at h)) (fun m h => hp m h)
  rw [take_succ hx, List.any_append, lk_upd, lk_upd]
  by_cases e1 : (⟨x.B, x.A⟩ : ApiApart) = ⟨a, b⟩
  · rw [if_pos e1]
    simp only [ApiApart.mk.injEq] at e1
    simp [e1.1, e1.2, seq_eq.2]
  · rw [if_neg e1]
    by_cases e2 : x = ⟨a, b⟩
    · rw [if_pos e2]; subst e2; simp [seq_eq.2]
    · rw [if_neg e2, hI]
      have h1 : (seq x.A a && seq x.B b) = false := by
        rw [Bool.eq_false_iff]; intro h; simp only [Bool.and_eq_true, seq_eq] at h; exact e2 (by cases x; simp at h; simp [h])
      have h2 : (seq x.A b && seq x.B a) = false := by
        rw [Bool.eq_false_iff]; intro h; simp only [Bool.and_eq_true, seq_eq] at h; exact e1 (by rw [h.1, h.2])
      simp [h1, h2]
theorem nev_lk {m : List (ApiApart × Bool)} (hm : ∀ a b, (lk m ⟨a, b⟩).getD false = s.Aparts.any fun x => (seq x.A a && seq x.B b) || (seq x.A b && seq x.B a)) {a b : ByteArray} (ha : nosh a = false) (hb : nosh b = false) : (lk m ⟨a, b⟩).getD false = nev s a b := by
  rw [hm]; unfold nev apB; rw [ha, hb]; rfl
theorem S_rules_Never (k : OkApiSite s) {a b : ByteArray} {post : Bool → Prop} (hp : post (nev s a b)) : V_rules_Never s a b post := by
  unfold V_rules_Never
  refine Jn.mk (fun r => r = nev s a b) (Ite.mk (fun h => ?_) (fun h => Ite.mk (fun h' => ?_) (fun h' => S_rules_classes k (fun m hm => nev_lk hm h h')))) (fun r hr => by rw [hr]; exact hp)
  · have : nosh a = true := h
    unfold nev apB; rw [this]; rfl
  · have : nosh b = true := h'
    unfold nev apB; rw [this]; simp
theorem S_rules_Carried (k : OkApiState st) {i : Int} {post : Int → Prop} (hp : post (carr st i)) : V_rules_Carried st i post := by
  unfold V_rules_Carried
  refine Ite.mk (fun h => ?_) (fun h => ?_)
  · unfold carr at hp; rw [if_pos (by simpa using h)] at hp; exact hp
  · unfold carr at hp; rw [if_neg (by simpa using h)] at hp
    unfold V_slices_IndexFunc_api_Robot_api_Robot__rules_Carried_1
    refine V_fidxc k.Robots.1 (fun r : ApiRobot => r.Load == i) (T := fun r post => V_rules_Carried_1 r i post) (fun r _ q hq => ?_) hp
    unfold V_rules_Carried_1; exact hq
theorem S_rules_standing (k : OkApiState st) (hl : st.Shelves.length ≤ 1000000) {post : List (Int × Int) → Prop} (hp : ∀ m : List (Int × Int), (∀ c, lk m c = optI (atS st c)) → post m) : V_rules_standing st post := by
  unfold V_rules_standing
  refine Jn.mk (fun m => ∀ i : Int, (lk m i).getD false = st.Robots.any fun r => r.Load == i)
    (V_loopc k.Robots.1 (fun t : List (Int × Bool) × Int => t.2) (fun n (t : List (Int × Bool) × Int) => ∀ i : Int, (lk t.1 i).getD false = (st.Robots.take n).any fun r => r.Load == i) rfl (fun i => rfl) (fun n r t hr ht hI => ⟨by rw [ht], fun i => ?_⟩) (fun t h => by rwa [List.take_length] at h)) (fun cm hcm => ?_)
  · rw [take_succ hr, List.any_append, lk_upd]
    by_cases e : r.Load = i
    · rw [if_pos e]; simp [e]
    · rw [if_neg e, hI]; simp [e]
  unfold V_slices_Backward_int_int
  refine ⟨by omega, Each.inv (bkw st.Shelves) (fun j m => ∀ c, lk m c = optI (fnat (fun i => decide (st.Shelves.length - j ≤ i) && atP st c i) st.Shelves.length)) (fun c => ?_) (fun j x m hx hI Y hY => ?_) (fun m h => hp m (fun c => ?_))⟩
  · rw [Nat.sub_zero, fnat_end]; rfl
  · have hj : j < st.Shelves.length := by have := (List.getElem?_eq_some_iff.1 hx).1; rwa [bkw_len] at this
    have hg := bkw_get (xs := st.Shelves) (m := st.Shelves.length - (j + 1)) (by omega)
    rw [show st.Shelves.length - (st.Shelves.length - (j + 1) + 1) = j by omega, hx] at hg
    cases hg
    have e1 : st.Shelves.length - j = st.Shelves.length - (j + 1) + 1 := by omega
    have hcar : (lk cm ((st.Shelves.length - (j + 1) : Nat) : Int)).getD false = carB st ((st.Shelves.length - (j + 1) : Nat) : Int) := by rw [hcm, carB_any (by omega)]
    refine Jn.mk' ?_
    dsimp only
    rw [hcar]
    refine Ite.mk (fun h => hY _ (fun c => ?_)) (fun h => hY _ (fun c => ?_))
    · rw [lk_upd, fnat_step (by omega)]
      by_cases e : st.Shelves.getD (st.Shelves.length - (j + 1)) 0 = c
      · rw [if_pos e, if_pos (by unfold atP; simp only [Bool.and_eq_true, beq_iff_eq]; exact ⟨e, h⟩)]
        unfold optI; rw [if_pos (by omega)]
      · rw [if_neg e, if_neg (by unfold atP; simp only [Bool.and_eq_true, beq_iff_eq]; exact fun h => e h.1), hI, e1]
    · rw [fnat_step (by omega), if_neg (by unfold atP; simp only [Bool.and_eq_true]; exact fun h' => by rw [h] at h'; cases h'.2), hI, e1]
  · rw [h c, bkw_len, Nat.sub_self]; unfold atS; rw [fnat_zero]
theorem optI_isSome (x : Int) : (optI x).isSome = decide (0 ≤ x) := by
  unfold optI; by_cases h : 0 ≤ x <;> simp [h]
theorem countP_le (p : Int → Bool) (l : List Int) (i : Nat) : (l.take i).countP p ≤ i := Nat.le_trans (List.countP_le_length ..) (by simp; omega)
theorem countP_take' {p : Int → Bool} {l : List Int} {i : Nat} {c : Int} (h : l[i]? = some c) : (l.take (i + 1)).countP p = (l.take i).countP p + if p c = true then 1 else 0 := by
  rw [take_succ h, List.countP_append, List.countP_singleton]
theorem S_rules_Room (ks : OkApiSite s) (k : OkApiState st) (hl : st.Shelves.length ≤ 1000000) (hz : ∀ z, z ∈ s.Zones → 0 ≤ z.Keep ∧ z.Cells.length ≤ 1000000) {z : Int} {post : Int → Prop} (hp : post (roomS s st z)) : V_rules_Room s st z post := by
  unfold V_rules_Room
  refine Jor2 (Ite.mk (fun h => ?_) (fun h => ?_))
  · unfold roomS at hp; rw [if_pos (by simp at h; omega)] at hp; exact hp
  · have h' : 0 ≤ z ∧ z < s.Zones.length := by simp at h; omega
    unfold roomS at hp; rw [if_neg (by omega)] at hp
    have hzz : s.Zones.getD z.toNat default = s.Zones[z.toNat]'(by omega) := by rw [List.getD_eq_getElem?_getD, List.getElem?_eq_getElem (by omega)]; rfl
    have hmem : s.Zones.getD z.toNat default ∈ s.Zones := by rw [hzz]; exact List.getElem_mem _
    refine ⟨s.Zones.getD z.toNat default, by rw [idx_get h'.1 h'.2, hzz], ?_⟩
    revert hp
    obtain ⟨b1, b2⟩ := hz _ hmem
    have b3 := (ks.Zones.2 _ hmem).Keep
    have b4 := (ks.Zones.2 _ hmem).Cells.1
    generalize s.Zones.getD z.toNat default = y at *
    intro hp
    refine S_rules_standing k hl (fun m hm => ?_)
    have b3' : y.Keep ≤ 9223372036854775807 := by have := b3.2; omega
    refine Jn.mk (fun n => n = (y.Cells.countP (roomP s st) : Nat) - y.Keep) (V_loopc b4 (fun t : Int × Int => t.2) (fun n (t : Int × Int) => t.1 = ((y.Cells.take n).countP (roomP s st) : Nat) - y.Keep) rfl (by show w64 (0 - y.Keep) = _; rw [w64_eq (by omega) (by omega)]; simp) (fun n c t hc ht hI => ?_) (fun t h => by rwa [List.take_length] at h)) (fun n h => by rw [h]; exact hp)
    have hle := countP_le (roomP s st) y.Cells n
    have hn := (List.getElem?_eq_some_iff.1 hc).1
    rw [hm, optI_isSome]
    refine Jn.mk (fun b => b = roomP s st c) (Ite.mk (fun h => ?_) (fun h => S_rules_Stands ?_)) (fun b hb => Jn.mk (fun n' => n' = ((y.Cells.take (n + 1)).countP (roomP s st) : Nat) - y.Keep) ?_ (fun n' hn' => ⟨by rw [ht], hn'⟩))
    · simp at h; unfold roomP; simp; intro; omega
    · simp at h; unfold roomP; simp [h]
    · rw [countP_take' hc]
      subst hb
      refine Ite.mk (fun h => ?_) (fun h => ?_)
      · rw [hI, h, w64_eq (by omega) (by omega)]; simp; omega
      · rw [hI, h]; simp
end
end Go.Taq
