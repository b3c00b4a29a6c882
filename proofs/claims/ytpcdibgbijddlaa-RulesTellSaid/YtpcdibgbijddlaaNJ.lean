/- The mathematics, part NJ: the reference of the rules; RulesTell. -/
import Derived.Test.YtpcdibgbijddlaaNG
import Derived.Test.YtpcdibgbijddlaaNV
set_option linter.unusedVariables false
set_option linter.unusedSimpArgs false
namespace Go.Taq
open Go
section
variable {s : ApiSite} {st : ApiState}
theorem S_ref12_Stands (hf : RF s.Floor) {c : Int} {post : Bool → Prop} (hp : post (stB s c)) : V_taquinref12_Stands s c post := by
  unfold V_taquinref12_Stands
  refine S_ref07_Is hf (Ite.mk (fun h => ?_) (fun h => Jn.ex _ (idx_kd (by simpa using h)) (Jor2 ?_)))
  · simp at h; unfold stB at hp; rw [h] at hp; exact hp
  · simp at h; unfold stB at hp; rw [h] at hp; exact hp
theorem S_ref12_OfKind (hf : RF s.Floor) {k : Int} {post : List Int → Prop} (hp : post (okU s.Floor k s.Floor.Kind.length)) : V_taquinref12_OfKind s k post := by
  have := S_rules_OfKind (s := s) hf (k := k) (post := post) hp
  unfold V_rules_OfKind at this
  unfold V_taquinref12_OfKind
  exact this
theorem S_ref12_Class {i : Int} {post : ByteArray → Prop} (hp : post (clsS s i)) : V_taquinref12_Class s i post := by
  have := S_rules_Class (s := s) (i := i) (post := post) hp
  unfold V_rules_Class at this
  unfold V_taquinref12_Class
  exact this
theorem S_ref12_Never (ks : OkApiSite s) {a b : ByteArray} {post : Bool → Prop} (hp : post (nev s a b)) : V_taquinref12_Never s a b post := by
  unfold V_taquinref12_Never
  refine Jn.mk (fun _ => nev s a b = false) (Loop.mk (fun t : Int => ∃ n : Nat, t = (n : Int) ∧ n ≤ s.Aparts.length ∧ (!nosh a && !nosh b && (s.Aparts.take n).any fun x => (seq x.A a && seq x.B b) || (seq x.A b && seq x.B a)) = false) (fun t => s.Aparts.length - t.toNat) ⟨0, rfl, by omega, by simp⟩ ?_) (fun _ h => by rw [h] at hp; exact hp)
  rintro t ⟨n, rfl, hn, hI⟩
  refine Jn.mk (fun r => r = (decide ((n : Int) < (s.Aparts.length : Int)) && (!nosh a && !nosh b))) (Ite.mk (fun h => Ite.mk (fun h1 => ?_) (fun h1 => ?_)) (fun h => ?_)) (fun r hr => ?_)
  · rw [h]; show false = (true && (!(seq a ByteArray.empty) && _)); rw [h1]; rfl
  · rw [h]; show (!(seq b ByteArray.empty)) = (true && (!(seq a ByteArray.empty) && !(seq b ByteArray.empty))); rw [h1]; rfl
  · rw [h]; rfl
  subst hr
  refine Ite.mk (fun h => ?_) (fun h => ?_)
  · simp only [Bool.and_eq_true, decide_eq_true_eq, Bool.not_eq_true'] at h
    have hlt : n < s.Aparts.length := by omega
    have hx : s.Aparts[n]? = some (s.Aparts[n]'hlt) := List.getElem?_eq_getElem hlt
    generalize s.Aparts[n]'hlt = x at hx
    have ha : nosh a = false := h.2.1
    have hb : nosh b = false := h.2.2
    refine ⟨x, idx_of rfl hx, Jn.mk (fun r => r = ((seq x.A a && seq x.B b) || (seq x.A b && seq x.B a))) ?_ (fun r hr => Ite.mk (fun h1 => ?_) (fun h1 => ?_))⟩
    · refine Ite.mk (fun h1 => Ite.mk (fun h2 => by rw [h1, h2]; rfl) (fun h2 => Ite.mk (fun h3 => by rw [h1, h2, h3]; simp) (fun h3 => by rw [h1, h2, h3]; simp))) (fun h1 => Ite.mk (fun h3 => by rw [h1, h3]; simp) (fun h3 => by rw [h1, h3]; simp))
    · rw [hr] at h1
      have : nev s a b = true := by
        unfold nev apB; rw [ha, hb]
        simp only [Bool.not_false, Bool.true_and]
        exact List.any_eq_true.2 ⟨x, List.mem_of_getElem? hx, h1⟩
      rw [this] at hp; exact hp
    · rw [w64_nat hlt ks.Aparts.1]
      refine ⟨⟨n + 1, rfl, by omega, ?_⟩, by omega⟩
      rw [take_succ hx, List.any_append, ha, hb]
      rw [ha, hb] at hI
      simp only [Bool.not_false, Bool.true_and] at hI ⊢
      rw [hI]; rw [hr] at h1; simp only [List.any_cons, List.any_nil, Bool.or_false, Bool.false_or]; exact h1
  · show nev s a b = false
    unfold nev apB
    cases ha : nosh a with
    | true => simp
    | false =>
      cases hb : nosh b with
      | true => simp
      | false =>
        have ha' : seq a ByteArray.empty = false := ha
        have hb' : seq b ByteArray.empty = false := hb
        rw [ha, hb] at h
        simp at h
        have : n = s.Aparts.length := by omega
        rw [ha, hb, this, List.take_length] at hI
        exact hI
theorem S_ref12_Carried (k : OkApiState st) {i : Int} {post : Int → Prop} (hp : post (carr st i)) : V_taquinref12_Carried st i post := by
  unfold V_taquinref12_Carried
  refine Jn.mk (fun _ => carr st i = -1) (Loop.mk (fun t : Int => ∃ n : Nat, t = (n : Int) ∧ n ≤ st.Robots.length ∧ ∀ (j : Nat) r, j < n → st.Robots[j]? = some r → (r.Load == i) = false) (fun t => st.Robots.length - t.toNat) ⟨0, rfl, by omega, fun j r h => by omega⟩ ?_) (fun _ h => by rw [h] at hp; exact hp)
  rintro t ⟨n, rfl, hn, hI⟩
  refine Jand2 (Ite.mk (fun h => ?_) (fun h => ?_))
  · simp only [Bool.and_eq_true, decide_eq_true_eq] at h
    have hlt : n < st.Robots.length := by omega
    have hx : st.Robots[n]? = some (st.Robots[n]'hlt) := List.getElem?_eq_getElem hlt
    generalize st.Robots[n]'hlt = r at hx
    refine ⟨r, idx_of rfl hx, Ite.mk (fun h1 => ?_) (fun h1 => ?_)⟩
    · have : carr st i = n := by
        unfold carr; rw [if_neg (by omega)]
        rcases fidx_cases (fun r : ApiRobot => r.Load == i) st.Robots with ⟨j, y, hy, e, hpj, hb⟩ | ⟨e, hb⟩
        · have h2 : ¬ n < j := fun h2 => by have := hb n r h2 hx; rw [h1] at this; cases this
          have h3 : ¬ j < n := fun h3 => by have := hI j y h3 hy; rw [hpj] at this; cases this
          rw [e]; omega
        · have := hb r (List.mem_of_getElem? hx); rw [h1] at this; cases this
      rw [this] at hp; exact hp
    · rw [w64_nat hlt k.Robots.1]
      refine ⟨⟨n + 1, rfl, by omega, fun j y hj hy => ?_⟩, by omega⟩
      by_cases e : j = n
      · subst e; rw [hx] at hy; cases hy; exact h1
      · exact hI j y (by omega) hy
  · show carr st i = -1
    unfold carr
    split
    · rfl
    · have : n = st.Robots.length := by simp at h; omega
      subst this
      rcases fidx_cases (fun r : ApiRobot => r.Load == i) st.Robots with ⟨j, y, hy, e, hpj, hb⟩ | ⟨e, hb⟩
      · have := hI j y (List.getElem?_eq_some_iff.1 hy).1 hy; rw [hpj] at this; cases this
      · exact e
theorem S_ref12_Standing (ks : OkApiSite s) (k : OkApiState st) (hf : RF s.Floor) (hl : st.Shelves.length ≤ 1000000) (hc : ∀ c, c ∈ st.Shelves → isC s.Floor c = true) {post : List Int → Prop} (hp : ∀ l : List Int, (∀ c, isC s.Floor c = true → idx l c = some (atS st c)) → post l) : V_taquinref12_Standing s st post := by
  unfold V_taquinref12_Standing
  have hk := hf.len.1
  have hkm : s.Floor.Kind.length ≤ maxLen := by unfold maxLen; omega
  refine ⟨by omega, Jn.mk (fun l : List Int => l.length = s.Floor.Kind.length ∧ ∀ j : Nat, j < s.Floor.Kind.length → l[j]? = some (-1)) (Loop.mk (fun t : List Int × Int => ∃ n : Nat, t.2 = (n : Int) ∧ n ≤ s.Floor.Kind.length ∧ t.1.length = s.Floor.Kind.length ∧ ∀ j : Nat, j < n → t.1[j]? = some (-1)) (fun t => s.Floor.Kind.length - t.2.toNat) ⟨0, rfl, by omega, by simp, fun j h => by omega⟩ ?_) (fun l0 hl0 => ⟨by omega, ?_⟩)⟩
  · rintro ⟨l, ti⟩ ⟨n, rfl, hn, hll, hI⟩
    simp only at hll hI
    dsimp only
    refine Ite.mk (fun h => ?_) (fun h => ?_)
    · simp [hll] at h
      refine ⟨_, idx_of rfl (List.getElem?_eq_getElem (by omega : n < l.length)), ⟨n + 1, w64_nat h hkm, by omega, by simp [hll], fun j hj => ?_⟩, ?_⟩
      · rw [show ((n : Nat) : Int).toNat = n by omega]
        by_cases e : j = n
        · subst e; rw [List.getElem?_set_self (by omega)]
        · rw [List.getElem?_set_ne (by omega)]; exact hI j (by omega)
      · rw [w64_nat h hkm]
        have e1 : ((n + 1 : Nat) : Int).toNat = n + 1 := by omega
        have e2 : ((n : Nat) : Int).toNat = n := by omega
        rw [e1, e2]; omega
    · simp [hll] at h
      exact ⟨hll, fun j hj => hI j (by omega)⟩
  · refine Jn.mk (fun l : List Bool => l.length = st.Shelves.length ∧ ∀ i : Nat, i < st.Shelves.length → l[i]? = some (carB st i))
      (V_loopc k.Robots.1 (fun t : List Bool × Int => t.2) (fun n (t : List Bool × Int) => t.1.length = st.Shelves.length ∧ ∀ i : Nat, i < st.Shelves.length → t.1[i]? = some ((st.Robots.take n).any fun r => r.Load == (i : Int))) rfl ⟨by simp, fun i hi => by simp [List.getElem?_replicate]; omega⟩ (fun n r t hr ht hI => ?_) (fun t h => ⟨h.1, fun i hi => by rw [h.2 i hi, List.take_length, carB_any (by omega)]⟩)) (fun cl hcl => ?_)
    · refine Jn.mk (fun b => b = (decide (r.Load ≥ 0) && decide (r.Load < (t.1.length : Int)))) (Ite.mk (fun h => by rw [h]; rfl) (fun h => by rw [h]; rfl)) (fun b hb => Jn.mk (fun l : List Bool => l.length = st.Shelves.length ∧ ∀ i : Nat, i < st.Shelves.length → l[i]? = some ((st.Robots.take (n + 1)).any fun r => r.Load == (i : Int))) (Ite.mk (fun h => ?_) (fun h => ?_)) (fun l hl => ⟨by rw [ht], hl⟩))
      · rw [hb] at h; simp at h
        refine ⟨_, idx_get h.1 h.2, by simp [hI.1], fun i hi => ?_⟩
        rw [take_succ hr, List.any_append]
        by_cases e : i = r.Load.toNat
        · subst e; rw [List.getElem?_set_self (by rw [hI.1]; exact hi)]
          have : ((r.Load.toNat : Nat) : Int) = r.Load := by omega
          simp [this]
        · rw [List.getElem?_set_ne (by omega), hI.2 i hi]
          have : (r.Load == (i : Int)) = false := by simp; omega
          simp [this]
      · rw [hb] at h; simp at h
        refine ⟨hI.1, fun i hi => ?_⟩
        rw [take_succ hr, List.any_append, hI.2 i hi]
        have : (r.Load == (i : Int)) = false := by
          cases e : r.Load == (i : Int) with
          | false => rfl
          | true => have e' : r.Load = (i : Int) := by simpa using e
                    have := h (by omega); have := hI.1; omega
        simp [this]
    · refine Jn.mk (fun l : List Int => ∀ c, isC s.Floor c = true → idx l c = some (atS st c))
        (Loop.mk (fun t : List Int × Int => ∃ j : Nat, j ≤ st.Shelves.length ∧ t.2 = (st.Shelves.length : Int) - j - 1 ∧ t.1.length = s.Floor.Kind.length ∧ ∀ q : Nat, q < s.Floor.Kind.length → t.1[q]? = some (fnat (fun i => decide (st.Shelves.length - j ≤ i) && atP st q i) st.Shelves.length)) (fun t => (t.2 + 1).toNat) ⟨0, by omega, by rw [w64_eq (by omega) (by omega)]; omega, hl0.1, fun q hq => by rw [hl0.2 q hq, Nat.sub_zero, fnat_end]⟩ ?_) (fun l hl' => hp l hl')
      rintro ⟨l, ti⟩ ⟨j, hj, rfl, hll, hI⟩
      simp only at hll hI
      dsimp only
      refine Ite.mk (fun h => ?_) (fun h => ?_)
      · simp at h
        have hjl : j < st.Shelves.length := by omega
        have hi : (st.Shelves.length : Int) - j - 1 = ((st.Shelves.length - (j + 1) : Nat) : Int) := by omega
        have hx : st.Shelves[st.Shelves.length - (j + 1)]? = some (st.Shelves[st.Shelves.length - (j + 1)]'(by omega)) := List.getElem?_eq_getElem _
        generalize st.Shelves[st.Shelves.length - (j + 1)]'(by omega) = x at hx
        have hxc := hc x (List.mem_of_getElem? hx)
        have hxb := isC_iff.1 hxc
        have e1 : st.Shelves.length - j = st.Shelves.length - (j + 1) + 1 := by omega
        rw [hi]
        have hw : w64 (((st.Shelves.length - (j + 1) : Nat) : Int) - 1) = (st.Shelves.length : Int) - ((j + 1 : Nat) : Int) - 1 := by rw [w64_eq (by omega) (by omega)]; omega
        refine Jn.mk (fun b => b = !carB st ((st.Shelves.length - (j + 1) : Nat) : Int)) ⟨_, idx_of rfl (hcl.2 _ (by omega)), Ite.mk (fun h1 => by rw [h1]; rfl) (fun h1 => ⟨x, idx_of rfl hx, S_ref07_Is hf (by rw [hxc, h1]; rfl)⟩)⟩ (fun b hb => Jn.mk (fun l : List Int => l.length = s.Floor.Kind.length ∧ ∀ q : Nat, q < s.Floor.Kind.length → l[q]? = some (fnat (fun i => decide (st.Shelves.length - (j + 1) ≤ i) && atP st q i) st.Shelves.length)) (Ite.mk (fun h1 => ?_) (fun h1 => ?_)) (fun l hl' => ⟨⟨j + 1, by omega, hw, hl'.1, hl'.2⟩, by rw [hw]; omega⟩))
        · rw [hb] at h1
          refine ⟨x, idx_of rfl hx, _, idx_get hxb.1 (by omega), by simp [hll], fun q hq => ?_⟩
          rw [fnat_step (by omega)]
          by_cases e : q = x.toNat
          · subst e
            rw [List.getElem?_set_self (by omega), if_pos (by unfold atP; rw [getD_of hx]; simp only [Bool.and_eq_true]; exact ⟨by simp; omega, h1⟩)]
          · rw [List.getElem?_set_ne (by omega), hI q hq, e1, if_neg (by unfold atP; rw [getD_of hx]; simp; intro h2; omega)]
        · rw [hb] at h1
          refine ⟨hll, fun q hq => ?_⟩
          rw [fnat_step (by omega), hI q hq, e1, if_neg (by unfold atP; simp only [Bool.and_eq_true]; exact fun h2 => by rw [h1] at h2; cases h2.2)]
      · simp at h
        have : j = st.Shelves.length := by omega
        subst this
        intro c hcc
        have hb := isC_iff.1 hcc
        have := hI c.toNat (by omega)
        rw [Nat.sub_self, fnat_zero] at this
        rw [idx_of (n := c.toNat) (by omega) this]
        have e : ((c.toNat : Nat) : Int) = c := by omega
        rw [e]; rfl
theorem S_ref12_At (ks : OkApiSite s) (k : OkApiState st) (hf : RF s.Floor) (hl : st.Shelves.length ≤ 1000000) (hc : ∀ c, c ∈ st.Shelves → isC s.Floor c = true) {c : Int} {post : Int → Prop} (hp : post (atS st c)) : V_taquinref12_At s st c post := by
  unfold V_taquinref12_At
  refine S_ref07_Is hf (Ite.mk (fun h => ?_) (fun h => S_ref12_Standing ks k hf hl hc (fun l hl' => ⟨_, hl' c (by simpa using h), hp⟩)))
  simp at h
  have : atS st c = -1 := fnat_none fun i hi => by
    unfold atP
    have := hc _ (mem_getD hi)
    have e : (st.Shelves.getD i 0 == c) = false := by
      cases e : st.Shelves.getD i 0 == c with
      | false => rfl
      | true => have e' : st.Shelves.getD i 0 = c := by simpa using e
                rw [e', h] at this; cases this
    rw [e]; rfl
  rw [this] at hp; exact hp
theorem S_ref12_Room (ks : OkApiSite s) (k : OkApiState st) (hf : RF s.Floor) (hl : st.Shelves.length ≤ 1000000) (hc : ∀ c, c ∈ st.Shelves → isC s.Floor c = true) (hz : ∀ z, z ∈ s.Zones → 0 ≤ z.Keep ∧ z.Cells.length ≤ 1000000) {z : Int} {post : Int → Prop} (hp : post (roomS s st z)) : V_taquinref12_Room s st z post := by
  unfold V_taquinref12_Room
  refine Jor2 (Ite.mk (fun h => ?_) (fun h => ?_))
  · unfold roomS at hp; rw [if_pos (by simp at h; omega)] at hp; exact hp
  · have h' : 0 ≤ z ∧ z < s.Zones.length := by simp at h; omega
    unfold roomS at hp; rw [if_neg (by omega)] at hp
    have hzz : s.Zones.getD z.toNat default = s.Zones[z.toNat]'(by omega) := by rw [List.getD_eq_getElem?_getD, List.getElem?_eq_getElem (by omega)]; rfl
    have hmem : s.Zones.getD z.toNat default ∈ s.Zones := by rw [hzz]; exact List.getElem_mem _
    have hidx : idx s.Zones z = some (s.Zones.getD z.toNat default) := by rw [idx_get h'.1 h'.2, hzz]
    refine S_ref12_Standing ks k hf hl hc (fun l hl' => ⟨_, hidx, ?_⟩)
    revert hp
    obtain ⟨b1, b2⟩ := hz _ hmem
    have b3 := (ks.Zones.2 _ hmem).Keep
    have b4 := (ks.Zones.2 _ hmem).Cells.1
    generalize s.Zones.getD z.toNat default = y at *
    intro hp
    have b3' : y.Keep ≤ 9223372036854775807 := b3.2
    refine Jn.mk (fun n => n = (y.Cells.countP (roomP s st) : Nat) - y.Keep) (Loop.mk (fun t : Int × Int => ∃ m : Nat, t.2 = (m : Int) ∧ m ≤ y.Cells.length ∧ t.1 = ((y.Cells.take m).countP (roomP s st) : Nat) - y.Keep) (fun t => y.Cells.length - t.2.toNat) ⟨0, rfl, by omega, by show w64 (0 - y.Keep) = _; rw [w64_eq (by omega) (by omega)]; simp⟩ ?_) (fun n h => by rw [h]; exact hp)
    rintro ⟨q, ti⟩ ⟨m, rfl, hm, hq⟩
    simp only at hq
    refine ⟨y, hidx, Ite.mk (fun h => ?_) (fun h => ?_)⟩
    · simp at h
      have hx : y.Cells[m]? = some (y.Cells[m]'h) := List.getElem?_eq_getElem h
      generalize y.Cells[m]'h = c at hx
      have hcl := countP_le (roomP s st) y.Cells m
      refine ⟨c, idx_of rfl hx, Jn.mk (fun b => b = roomP s st c) (S_ref12_Stands hf (Ite.mk (fun h1 => ⟨atS st c, hl' c ?_, ?_⟩) (fun h1 => ?_))) (fun b hb => Jn.mk (fun r => r = ((y.Cells.take (m + 1)).countP (roomP s st) : Nat) - y.Keep) ?_ (fun r hr => ⟨⟨m + 1, w64_nat h b4, by omega, hr⟩, ?_⟩))⟩
      · unfold stB at h1; rw [Bool.and_eq_true] at h1; exact h1.1
      · unfold roomP; rw [h1]; rfl
      · unfold roomP; rw [h1]; rfl
      · rw [countP_take' hx]
        subst hb
        refine Ite.mk (fun h2 => ?_) (fun h2 => ?_)
        · rw [hq, h2, w64_eq (by omega) (by omega)]; simp; omega
        · rw [hq, h2]; simp
      · rw [w64_nat h b4]
        have e1 : ((m + 1 : Nat) : Int).toNat = m + 1 := by omega
        have e2 : ((m : Nat) : Int).toNat = m := by omega
        rw [e1, e2]; omega
    · simp at h
      have : m = y.Cells.length := by omega
      subst this
      show q = _
      rw [hq, List.take_length]
theorem S_ref12_Keeps (ks : OkApiSite s) (k : OkApiState st) (hf : RF s.Floor) (hl : st.Shelves.length ≤ 1000000) (hc : ∀ c, c ∈ st.Shelves → isC s.Floor c = true) (hz : ∀ z, z ∈ s.Zones → 0 ≤ z.Keep ∧ z.Cells.length ≤ 1000000) {post : Int → Prop} (hp : post (keepS s st)) : V_taquinref12_Keeps s st post := by
  unfold V_taquinref12_Keeps
  refine Jn.mk (fun _ => keepS s st = -1) (V_loopj (xs := s.Zones) ks.Zones.1 (fun t => t) (fun n _ => ∀ i : Nat, i < n → ¬ roomS s st i < 0) rfl (fun i h => by omega) (fun n z t hz' ht hI => ?_) (fun t h => ?_)) (fun _ h => by rw [h] at hp; exact hp)
  · rw [ht]
    refine S_ref12_Room ks k hf hl hc hz (Ite.mk (fun h => ?_) (fun h => ⟨rfl, fun i hi => ?_⟩))
    · have hn := (List.getElem?_eq_some_iff.1 hz').1
      have : keepS s st = n := fnat_some hn h (fun j hj => by simpa using hI j hj)
      rw [this] at hp; exact hp
    · by_cases e : i = n
      · subst e; simpa using h
      · exact hI i (by omega)
  · exact fnat_none fun i hi => by simpa using h i hi
theorem S_ref12_Apart (ks : OkApiSite s) (k : OkApiState st) (hf : RF s.Floor) {post : Int × Int × Bool → Prop} (hp : post (apartS s st)) : V_taquinref12_Apart s st post := by
  unfold V_taquinref12_Apart
  refine Jn.mk (fun _ => ∀ a : Nat, a < st.Shelves.length → partner s st a = -1) (V_loopj (xs := st.Shelves) k.Shelves.1 (fun t => t) (fun n _ => ∀ a : Nat, a < n → partner s st a = -1) rfl (fun a h => by omega) (fun n x t hx ht hI => ?_) (fun t h => h)) (fun _ h => ?_)
  · have hn := (List.getElem?_eq_some_iff.1 hx).1
    rw [ht]
    refine Jn.mk (fun _ => partner s st n = -1) (Jn.mk (fun _ => partner s st n = -1) (Loop.mk (fun t : Int => ∃ m : Nat, t = (m : Int) ∧ n < m ∧ m ≤ st.Shelves.length ∧ ∀ b : Nat, b < m → (decide (n < b) && badP s st n b) = false) (fun t => st.Shelves.length - t.toNat) ⟨n + 1, w64_nat hn k.Shelves.1, by omega, by omega, fun b hb => by simp; intro; omega⟩ ?_) (fun _ h => h)) (fun _ h => ⟨rfl, fun a ha => ?_⟩)
    · rintro t' ⟨m, rfl, h1, h2, hJ⟩
      refine Ite.mk (fun h3 => ?_) (fun h3 => ?_)
      · have hm : m < st.Shelves.length := by simp at h3; exact h3
        have hy : st.Shelves[m]? = some (st.Shelves[m]'hm) := List.getElem?_eq_getElem hm
        generalize st.Shelves[m]'hm = y at hy
        refine Jn.mk (fun b => b = badP s st n m) ⟨x, idx_of rfl hx, y, idx_of rfl hy, S_ref07_Near hf (Ite.mk (fun g1 => S_ref12_Class (S_ref12_Class (S_ref12_Never ks (Ite.mk (fun g2 => S_ref12_Carried k (Ite.mk (fun g3 => S_ref12_Carried k ?_) (fun g3 => ?_))) (fun g2 => ?_))))) (fun g1 => ?_))⟩ (fun b hb => Ite.mk (fun g1 => ?_) (fun g1 => ?_))
        · unfold badP carB; rw [getD_of hx, getD_of hy, g1, g2]
          simp at g3
          have e1 : decide (0 ≤ carr st (n : Int)) = false := by simp; omega
          rw [e1]
          by_cases h0 : 0 ≤ carr st (m : Int) <;> simp [h0] <;> omega
        · unfold badP carB
          have e1 : decide (0 ≤ carr st (n : Int)) = true := by simp at g3; simp; omega
          rw [e1]; simp
        · unfold badP; rw [g2]; simp
        · unfold badP; rw [getD_of hx, getD_of hy, g1]; simp
        · rw [hb] at g1
          have hpn : partner s st n = m := fnat_some hm (by simp [h1, g1]) (fun j hj => hJ j hj)
          have : apartS s st = ((n : Int), (m : Int), true) := by
            have hfn : fnat (fun a => decide (0 ≤ partner s st a)) st.Shelves.length = n := fnat_some hn (by rw [hpn]; simp) (fun a ha => by simp [hI a ha])
            unfold apartS
            simp only [hfn]
            rw [if_neg (by omega), show ((n : Nat) : Int).toNat = n by omega, hpn]
          rw [this] at hp; exact hp
        · rw [w64_nat hm k.Shelves.1]
          refine ⟨⟨m + 1, rfl, by omega, by omega, fun b' hb' => ?_⟩, by omega⟩
          by_cases e : b' = m
          · subst e; rw [← hb, g1]; simp
          · exact hJ b' (by omega)
      · have : m = st.Shelves.length := by simp at h3; omega
        subst this
        exact fnat_none hJ
    · by_cases e : a = n
      · subst e; exact h
      · exact hI a (by omega)
  · have : apartS s st = (0, 0, false) := by
      have hfn : fnat (fun a => decide (0 ≤ partner s st a)) st.Shelves.length = -1 := fnat_none fun i hi => by simp [h i hi]
      unfold apartS; simp only [hfn]; rfl
    rw [this] at hp; exact hp
theorem S_ref12_Drop (ks : OkApiSite s) (k : OkApiState st) (hf : RF s.Floor) (hl : st.Shelves.length ≤ 1000000) {shelf c : Int} {post : Int → Prop} (hp : post (dropS s st shelf c)) : V_taquinref12_Drop s st shelf c post := by
  unfold V_taquinref12_Drop
  refine Jor2 (Ite.mk (fun h => ?_) (fun h => S_ref12_Stands hf (Ite.mk (fun h2 => ?_) (fun h2 => ?_))))
  · unfold dropS at hp; rw [if_pos (by simp at h; omega)] at hp; exact hp
  · unfold dropS at hp; rw [if_neg (by simp at h; omega), if_pos (by simpa using h2)] at hp; exact hp
  · unfold dropS at hp; rw [if_neg (by simp at h; omega), if_neg (by simp at h2; simp [h2])] at hp
    refine Jn.mk (fun e => (List.range st.Shelves.length).any (dHit st shelf c) = false ∧ e = if (List.range st.Shelves.length).any (dAp s st shelf c) = true then 17 else 0)
      (V_loopj (xs := st.Shelves) k.Shelves.1 (fun t : Int × Int => t.2) (fun n (t : Int × Int) => (List.range n).any (dHit st shelf c) = false ∧ t.1 = if (List.range n).any (dAp s st shelf c) = true then 17 else 0) rfl ⟨rfl, rfl⟩ (fun n x t hx ht hI => ?_) (fun t h => h)) (fun e he => by rw [he.1] at hp; rw [he.2]; exact hp)
    have hn := (List.getElem?_eq_some_iff.1 hx).1
    have hxg := getD_of hx
    rw [ht]
    refine Jn.mk (fun e => (List.range (n + 1)).any (dHit st shelf c) = false ∧ e = if (List.range (n + 1)).any (dAp s st shelf c) = true then 17 else 0) ?_ (fun e he => ⟨rfl, he⟩)
    rw [any_range_succ, any_range_succ, hI.1, hI.2]
    refine Jn.mk (fun b => (b = true → dHit st shelf c n = false ∧ dAp s st shelf c n = false) ∧ (b = false → ((n : Int) == shelf) = false ∧ carB st n = false)) (Ite.mk (fun h3 => ⟨fun _ => ⟨by unfold dHit; rw [h3]; rfl, by unfold dAp; rw [h3]; rfl⟩, fun h => by cases h⟩) (fun h3 => S_ref12_Carried k ⟨fun h6 => ?_, fun h6 => ?_⟩)) (fun b hb => Ite.mk (fun h3 => ?_) (fun h3 => ?_))
    · have : carB st n = true := by unfold carB; simpa using h6
      exact ⟨by unfold dHit; rw [this]; simp, by unfold dAp; rw [this]; simp⟩
    · have : carB st n = false := by unfold carB; simpa using h6
      exact ⟨h3, this⟩
    · rw [(hb.1 h3).1, (hb.1 h3).2]; exact ⟨by simp, by simp⟩
    · obtain ⟨g1, g2⟩ := hb.2 h3
      refine ⟨x, idx_of rfl hx, Ite.mk (fun h4 => ?_) (fun h4 => ?_)⟩
      · have : dHit st shelf c n = true := by unfold dHit; rw [g1, g2, hxg, h4]; rfl
        rw [any_range_mem hn this] at hp; exact hp
      · have e1 : dHit st shelf c n = false := by unfold dHit; rw [hxg, h4]; simp
        have e2 : dAp s st shelf c n = (nearB s.Floor x c && nev s (clsS s shelf) (clsS s n)) := by unfold dAp; rw [g1, g2, hxg]; rfl
        rw [e1, e2]
        refine Jn.mk (fun b => b = (nearB s.Floor x c && nev s (clsS s shelf) (clsS s n))) (S_ref07_Near hf (Ite.mk (fun h5 => S_ref12_Class (S_ref12_Class (S_ref12_Never ks (by rw [h5]; rfl)))) (fun h5 => by rw [h5]; rfl))) (fun b hb => ?_)
        rw [← hb]
        refine Jn.mk (fun e => e = if ((List.range n).any (dAp s st shelf c) || b) = true then 17 else 0) (Ite.mk (fun h5 => by rw [h5]; simp) (fun h5 => by rw [h5]; simp)) (fun e he => ⟨by simp, he⟩)
end
theorem S_ref07_Same' {a b : List Int} (hm : a.length ≤ maxLen) {post : Bool → Prop} (hp : a = b → post true) (hab : a = b) : V_taquinref07_Same a b post := by
  subst hab
  unfold V_taquinref07_Same
  refine Ite.f (by simp) ?_
  refine Jn.mk (fun _ => True) (V_loopc hm (fun t => t) (fun _ _ => True) rfl trivial (fun n x t hx ht _ => ⟨x, by rw [ht]; exact idx_of rfl hx, Ite.f (by simp) ⟨by rw [ht], trivial⟩⟩) (fun _ _ => trivial)) (fun _ _ => hp rfl)
theorem Said_taquinlaw12_RulesTell (s : ApiSite) (ks : OkApiSite s) (st : ApiState) (k : OkApiState st) (c : Int) (k2 : I64 c) (n : Int) (k3 : I64 n) (a : ByteArray) (k4 : OkS a) (b : ByteArray) (k5 : OkS b) : V_taquinlaw12_RulesTell s st c n a b (fun y => y = true) := by
  unfold V_taquinlaw12_RulesTell
  refine S_law12_small (Jn.mk (fun b => b = false → FitS s st) (S_law12_fits ks k (Ite.f rfl (fun h => by cases h)) (fun hf => Ite.t rfl (Ite.mk (fun _ h => by cases h) (fun h1 h2 => hf)))) (fun bb hb => Ite.mk (fun _ => rfl) (fun hb' => ?_)))
  have hf := hb hb'
  have hsl := hf.sl
  have hfl := hf.r.fl
  have hrs := hf.r.rs
  have hk := hfl.len.1
  have hol := okU_len s.Floor n s.Floor.Kind.length
  have tt : ∀ {A B : Prop} {x : Int}, A → Ite (x == x) A B := fun h => Ite.t (beq_self_eq_true _) h
  have tb : ∀ {A B : Prop} {x : Bool}, A → Ite (x == x) A B := fun h => Ite.t (beq_self_eq_true _) h
  have bi : ∀ {x : Int}, (x == x) = true := beq_self_eq_true _
  have bb' : ∀ {x : Bool}, (x == x) = true := beq_self_eq_true _
  refine Jn.mk (fun b => b = true) ?_ (fun one h1 => ?_)
  · refine S_rules_ZoneOf ks hrs (S_ref12_ZoneOf ks hf.r (tt ?_))
    refine S_rules_Speed ks hrs (S_ref12_Speed ks hf.r (tt ?_))
    refine S_rules_Open ks hrs (S_ref12_Open ks hf.r (tb ?_))
    exact S_rules_Stands (S_ref12_Stands hfl bb')
  refine Jn.mk (fun b => b = true) ?_ (fun two h2 => ?_)
  · refine S_rules_OfKind hfl (S_ref12_OfKind hfl (S_ref07_Same' (by unfold maxLen; omega) (fun _ => Ite.t rfl ?_) rfl))
    refine S_rules_Class (S_ref12_Class (Ite.t (seq_eq.2 rfl) ?_))
    refine S_rules_Never ks (S_ref12_Never ks (tb ?_))
    exact S_rules_Carried k (S_ref12_Carried k bi)
  refine Jn.mk (fun b => b = true) ?_ (fun three h3 => ?_)
  · refine S_rules_At k (by omega) (S_ref12_At ks k hfl (by omega) hf.cell (tt ?_))
    refine S_rules_Room ks k (by omega) hf.zn (S_ref12_Room ks k hfl (by omega) hf.cell hf.zn (tt ?_))
    refine S_rules_Keeps ks k (by omega) hf.zn (S_ref12_Keeps ks k hfl (by omega) hf.cell hf.zn (tt ?_))
    exact S_rules_Drop ks k hfl (by omega) (S_ref12_Drop ks k hfl (by omega) bi)
  refine S_rules_Apart ks k hfl (by omega) hf.cell (S_ref12_Apart ks k hfl (Jn.mk' ?_))
  exact Ite.t rfl (Ite.t h1 (Ite.t h2 (Ite.t h3 (Ite.t (by simp) (Ite.t (by simp) (by simp))))))
end Go.Taq
