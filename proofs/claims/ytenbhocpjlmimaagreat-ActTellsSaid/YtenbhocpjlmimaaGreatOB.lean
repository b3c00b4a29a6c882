/- The mathematics, several parts in one text. -/
import Derived.Test.YtenbhocpjlmimaaGreatNV
import Derived.Test.YtenbhocpjlmimaaGreatQA
/- The mathematics, part NJ: the reference of the rules; RulesTell. -/
set_option linter.unusedVariables false
set_option linter.unusedSimpArgs false
namespace Go.Taq
open Go
section
variable {s : ApiSite} {st : ApiState}
theorem S_ref12_Stands (hf : RF s.Floor) {c : Int} {post : Bool → Prop} (hp : post (stB s c)) : V_taquinref12_Stands s c post := by
  unfold V_taquinref12_Stands
  refine S_ref07_Is hf (Ite.mk (fun h => ?_) (fun h => Jn.ex _ (idx_kd (by simpa using h)) (Jor2 ?_)))
  · simp at h; unfold stB at hp; rw [h] at hp; exact hp
  · simp at h; unfold stB at hp; rw [h] at hp; exact hp
theorem S_ref12_Class {i : Int} {post : ByteArray → Prop} (hp : post (clsS s i)) : V_taquinref12_Class s i post := by
  have := S_rules_Class (s := s) (i := i) (post := post) hp
  unfold V_rules_Class at this
  unfold V_taquinref12_Class
  exact this
theorem S_ref12_Never (ks : OkApiSite s) {a b : ByteArray} {post : Bool → Prop} (hp : post (nev s a b)) : V_taquinref12_Never s a b post := by
  unfold V_taquinref12_Never
  refine Jn.mk (fun _ => nev s a b = false) (Loop.mk (fun t : Int => ∃ n : Nat, t = (n : Int) ∧ n ≤ s.Aparts.length ∧ (!nosh a && !nosh b && (s.Aparts.take n).any fun x => (seq x.A a && seq x.B b) || (seq x.A b && seq x.B a)) = false) (fun t => s.Aparts.length - t.toNat) ⟨0, rfl, by omega, by simp⟩ ?_) (fun _ h => by rw [h] at hp; exact hp)
  rintro t ⟨n, rfl, hn, hI⟩
  refine Jn.mk (fun r => r = (decide ((n : Int) < (s.Aparts.length : Int)) && (!nosh a && !nosh b))) (Ite.mk (fun h => Ite.mk (fun h1 => ?_) (fun h1 => ?_)) (fun h => ?_)) (fun r hr => ?_)
  · rw [h]; show false = (true && (!(seq a ByteArray.empty) && _)); rw [h1]; rfl
  · rw [h]; show (!(seq b ByteArray.empty)) = (true && (!(seq a ByteArray.empty) && !(seq b ByteArray.empty))); rw [h1]; rfl
  · rw [h]; rfl
  subst hr
  refine Ite.mk (fun h => ?_) (fun h => ?_)
  · simp only [Bool.and_eq_true, decide_eq_true_eq, Bool.not_eq_true'] at h
    have hlt : n < s.Aparts.length := by omega
    have hx : s.Aparts[n]? = some (s.Aparts[n]'hlt) := List.getElem?_eq_getElem hlt
    generalize s.Aparts[n]'hlt = x at hx
    have ha : nosh a = false := h.2.1
    have hb : nosh b = false := h.2.2
    refine ⟨x, idx_of rfl hx, Jn.mk (fun r => r = ((seq x.A a && seq x.B b) || (seq x.A b && seq x.B a))) ?_ (fun r hr => Ite.mk (fun h1 => ?_) (fun h1 => ?_))⟩
    · refine Ite.mk (fun h1 => Ite.mk (fun h2 => by rw [h1, h2]; rfl) (fun h2 => Ite.mk (fun h3 => by rw [h1, h2, h3]; simp) (fun h3 => by rw [h1, h2, h3]; simp))) (fun h1 => Ite.mk (fun h3 => by rw [h1, h3]; simp) (fun h3 => by rw [h1, h3]; simp))
    · rw [hr] at h1
      have : nev s a b = true := by
        unfold nev apB; rw [ha, hb]
        simp only [Bool.not_false, Bool.true_and]
        exact List.any_eq_true.2 ⟨x, List.mem_of_getElem? hx, h1⟩
      rw [this] at hp; exact hp
    · rw [w64_nat hlt ks.Aparts.1]
      refine ⟨⟨n + 1, rfl, by omega, ?_⟩, by omega⟩
      rw [take_succ hx, List.any_append, ha, hb]
      rw [ha, hb] at hI
      simp only [Bool.not_false, Bool.true_and] at hI ⊢
      rw [hI]; rw [hr] at h1; simp only [List.any_cons, List.any_nil, Bool.or_false, Bool.false_or]; exact h1
  · show nev s a b = false
    unfold nev apB
    cases ha : nosh a with
    | true => simp
    | false =>
      cases hb : nosh b with
      | true => simp
      | false =>
        have ha' : seq a ByteArray.empty = false := ha
        have hb' : seq b ByteArray.empty = false := hb
        rw [ha, hb] at h
        simp at h
        have : n = s.Aparts.length := by omega
        rw [ha, hb, this, List.take_length] at hI
        exact hI
theorem S_ref12_Carried (k : OkApiState st) {i : Int} {post : Int → Prop} (hp : post (carr st i)) : V_taquinref12_Carried st i post := by
  unfold V_taquinref12_Carried
  refine Jn.mk (fun _ => carr st i = -1) (Loop.mk (fun t : Int => ∃ n : Nat, t = (n : Int) ∧ n ≤ st.Robots.length ∧ ∀ (j : Nat) r, j < n → st.Robots[j]? = some r → (r.Load == i) = false) (fun t => st.Robots.length - t.toNat) ⟨0, rfl, by omega, fun j r h => by omega⟩ ?_) (fun _ h => by rw [h] at hp; exact hp)
  rintro t ⟨n, rfl, hn, hI⟩
  refine Jand2 (Ite.mk (fun h => ?_) (fun h => ?_))
  · simp only [Bool.and_eq_true, decide_eq_true_eq] at h
    have hlt : n < st.Robots.length := by omega
    have hx : st.Robots[n]? = some (st.Robots[n]'hlt) := List.getElem?_eq_getElem hlt
    generalize st.Robots[n]'hlt = r at hx
    refine ⟨r, idx_of rfl hx, Ite.mk (fun h1 => ?_) (fun h1 => ?_)⟩
    · have : carr st i = n := by
        unfold carr; rw [if_neg (by omega)]
        rcases fidx_cases (fun r : ApiRobot => r.Load == i) st.Robots with ⟨j, y, hy, e, hpj, hb⟩ | ⟨e, hb⟩
        · have h2 : ¬ n < j := fun h2 => by have := hb n r h2 hx; rw [h1] at this; cases this
          have h3 : ¬ j < n := fun h3 => by have := hI j y h3 hy; rw [hpj] at this; cases this
          rw [e]; omega
        · have := hb r (List.mem_of_getElem? hx); rw [h1] at this; cases this
      rw [this] at hp; exact hp
    · rw [w64_nat hlt k.Robots.1]
      refine ⟨⟨n + 1, rfl, by omega, fun j y hj hy => ?_⟩, by omega⟩
      by_cases e : j = n
      · subst e; rw [hx] at hy; cases hy; exact h1
      · exact hI j y (by omega) hy
  · show carr st i = -1
    unfold carr
    split
    · rfl
    · have : n = st.Robots.length := by simp at h; omega
      subst this
      rcases fidx_cases (fun r : ApiRobot => r.Load == i) st.Robots with ⟨j, y, hy, e, hpj, hb⟩ | ⟨e, hb⟩
      · have := hI j y (List.getElem?_eq_some_iff.1 hy).1 hy; rw [hpj] at this; cases this
      · exact e
theorem S_ref12_Standing (ks : OkApiSite s) (k : OkApiState st) (hf : RF s.Floor) (hl : st.Shelves.length ≤ 1000000) (hc : ∀ c, c ∈ st.Shelves → isC s.Floor c = true) {post : List Int → Prop} (hp : ∀ l : List Int, (∀ c, isC s.Floor c = true → idx l c = some (atS st c)) → post l) : V_taquinref12_Standing s st post := by
  unfold V_taquinref12_Standing
  have hk := hf.len.1
  have hkm : s.Floor.Kind.length ≤ maxLen := by unfold maxLen; omega
  refine ⟨by omega, Jn.mk (fun l : List Int => l.length = s.Floor.Kind.length ∧ ∀ j : Nat, j < s.Floor.Kind.length → l[j]? = some (-1)) (Loop.mk (fun t : List Int × Int => ∃ n : Nat, t.2 = (n : Int) ∧ n ≤ s.Floor.Kind.length ∧ t.1.length = s.Floor.Kind.length ∧ ∀ j : Nat, j < n → t.1[j]? = some (-1)) (fun t => s.Floor.Kind.length - t.2.toNat) ⟨0, rfl, by omega, by simp, fun j h => by omega⟩ ?_) (fun l0 hl0 => ⟨by omega, ?_⟩)⟩
  · rintro ⟨l, ti⟩ ⟨n, rfl, hn, hll, hI⟩
    simp only at hll hI
    dsimp only
    refine Ite.mk (fun h => ?_) (fun h => ?_)
    · simp [hll] at h
      refine ⟨_, idx_of rfl (List.getElem?_eq_getElem (by omega : n < l.length)), ⟨n + 1, w64_nat h hkm, by omega, by simp [hll], fun j hj => ?_⟩, ?_⟩
      · rw [show ((n : Nat) : Int).toNat = n by omega]
        by_cases e : j = n
        · subst e; rw [List.getElem?_set_self (by omega)]
        · rw [List.getElem?_set_ne (by omega)]; exact hI j (by omega)
      · rw [w64_nat h hkm]
        have e1 : ((n + 1 : Nat) : Int).toNat = n + 1 := by omega
        have e2 : ((n : Nat) : Int).toNat = n := by omega
        rw [e1, e2]; omega
    · simp [hll] at h
      exact ⟨hll, fun j hj => hI j (by omega)⟩
  · refine Jn.mk (fun l : List Bool => l.length = st.Shelves.length ∧ ∀ i : Nat, i < st.Shelves.length → l[i]? = some (carB st i))
      (V_loopc k.Robots.1 (fun t : List Bool × Int => t.2) (fun n (t : List Bool × Int) => t.1.length = st.Shelves.length ∧ ∀ i : Nat, i < st.Shelves.length → t.1[i]? = some ((st.Robots.take n).any fun r => r.Load == (i : Int))) rfl ⟨by simp, fun i hi => by simp [List.getElem?_replicate]; omega⟩ (fun n r t hr ht hI => ?_) (fun t h => ⟨h.1, fun i hi => by rw [h.2 i hi, List.take_length, carB_any (by omega)]⟩)) (fun cl hcl => ?_)
    · refine Jn.mk (fun b => b = (decide (r.Load ≥ 0) && decide (r.Load < (t.1.length : Int)))) (Ite.mk (fun h => by rw [h]; rfl) (fun h => by rw [h]; rfl)) (fun b hb => Jn.mk (fun l : List Bool => l.length = st.Shelves.length ∧ ∀ i : Nat, i < st.Shelves.length → l[i]? = some ((st.Robots.take (n + 1)).any fun r => r.Load == (i : Int))) (Ite.mk (fun h => ?_) (fun h => ?_)) (fun l hl => ⟨by rw [ht], hl⟩))
      · rw [hb] at h; simp at h
        refine ⟨_, idx_get h.1 h.2, by simp [hI.1], fun i hi => ?_⟩
        rw [take_succ hr, List.any_append]
        by_cases e : i = r.Load.toNat
        · subst e; rw [List.getElem?_set_self (by rw [hI.1]; exact hi)]
          have : ((r.Load.toNat : Nat) : Int) = r.Load := by omega
          simp [this]
        · rw [List.getElem?_set_ne (by omega), hI.2 i hi]
          have : (r.Load == (i : Int)) = false := by simp; omega
          simp [this]
      · rw [hb] at h; simp at h
        refine ⟨hI.1, fun i hi => ?_⟩
        rw [take_succ hr, List.any_append, hI.2 i hi]
        have : (r.Load == (i : Int)) = false := by
          cases e : r.Load == (i : Int) with
          | false => rfl
          | true => have e' : r.Load = (i : Int) := by simpa using e
                    have := h (by omega); have := hI.1; omega
        simp [this]
    · refine Jn.mk (fun l : List Int => ∀ c, isC s.Floor c = true → idx l c = some (atS st c))
        (Loop.mk (fun t : List Int × Int => ∃ j : Nat, j ≤ st.Shelves.length ∧ t.2 = (st.Shelves.length : Int) - j - 1 ∧ t.1.length = s.Floor.Kind.length ∧ ∀ q : Nat, q < s.Floor.Kind.length → t.1[q]? = some (fnat (fun i => decide (st.Shelves.length - j ≤ i) && atP st q i) st.Shelves.length)) (fun t => (t.2 + 1).toNat) ⟨0, by omega, by rw [w64_eq (by omega) (by omega)]; omega, hl0.1, fun q hq => by rw [hl0.2 q hq, Nat.sub_zero, fnat_end]⟩ ?_) (fun l hl' => hp l hl')
      rintro ⟨l, ti⟩ ⟨j, hj, rfl, hll, hI⟩
      simp only at hll hI
      dsimp only
      refine Ite.mk (fun h => ?_) (fun h => ?_)
      · simp at h
        have hjl : j < st.Shelves.length := by omega
        have hi : (st.Shelves.length : Int) - j - 1 = ((st.Shelves.length - (j + 1) : Nat) : Int) := by omega
        have hx : st.Shelves[st.Shelves.length - (j + 1)]? = some (st.Shelves[st.Shelves.length - (j + 1)]'(by omega)) := List.getElem?_eq_getElem _
        generalize st.Shelves[st.Shelves.length - (j + 1)]'(by omega) = x at hx
        have hxc := hc x (List.mem_of_getElem? hx)
        have hxb := isC_iff.1 hxc
        have e1 : st.Shelves.length - j = st.Shelves.length - (j + 1) + 1 := by omega
        rw [hi]
        have hw : w64 (((st.Shelves.length - (j + 1) : Nat) : Int) - 1) = (st.Shelves.length : Int) - ((j + 1 : Nat) : Int) - 1 := by rw [w64_eq (by omega) (by omega)]; omega
        refine Jn.mk (fun b => b = !carB st ((st.Shelves.length - (j + 1) : Nat) : Int)) ⟨_, idx_of rfl (hcl.2 _ (by omega)), Ite.mk (fun h1 => by rw [h1]; rfl) (fun h1 => ⟨x, idx_of rfl hx, S_ref07_Is hf (by rw [hxc, h1]; rfl)⟩)⟩ (fun b hb => Jn.mk (fun l : List Int => l.length = s.Floor.Kind.length ∧ ∀ q : Nat, q < s.Floor.Kind.length → l[q]? = some (fnat (fun i => decide (st.Shelves.length - (j + 1) ≤ i) && atP st q i) st.Shelves.length)) (Ite.mk (fun h1 => ?_) (fun h1 => ?_)) (fun l hl' => ⟨⟨j + 1, by omega, hw, hl'.1, hl'.2⟩, by rw [hw]; omega⟩))
        · rw [hb] at h1
          refine ⟨x, idx_of rfl hx, _, idx_get hxb.1 (by omega), by simp [hll], fun q hq => ?_⟩
          rw [fnat_step (by omega)]
          by_cases e : q = x.toNat
          · subst e
            rw [List.getElem?_set_self (by omega), if_pos (by unfold atP; rw [getD_of hx]; simp only [Bool.and_eq_true]; exact ⟨by simp; omega, h1⟩)]
          · rw [List.getElem?_set_ne (by omega), hI q hq, e1, if_neg (by unfold atP; rw [getD_of hx]; simp; intro h2; omega)]
        · rw [hb] at h1
          refine ⟨hll, fun q hq => ?_⟩
          rw [fnat_step (by omega), hI q hq, e1, if_neg (by unfold atP; simp only [Bool.and_eq_true]; exact fun h2 => by rw [h1] at h2; cases h2.2)]
      · simp at h
        have : j = st.Shelves.length := by omega
        subst this
        intro c hcc
        have hb := isC_iff.1 hcc
        have := hI c.toNat (by omega)
        rw [Nat.sub_self, fnat_zero] at this
        rw [idx_of (n := c.toNat) (by omega) this]
        have e : ((c.toNat : Nat) : Int) = c := by omega
        rw [e]; rfl
theorem S_ref12_At (ks : OkApiSite s) (k : OkApiState st) (hf : RF s.Floor) (hl : st.Shelves.length ≤ 1000000) (hc : ∀ c, c ∈ st.Shelves → isC s.Floor c = true) {c : Int} {post : Int → Prop} (hp : post (atS st c)) : V_taquinref12_At s st c post := by
  unfold V_taquinref12_At
  refine S_ref07_Is hf (Ite.mk (fun h => ?_) (fun h => S_ref12_Standing ks k hf hl hc (fun l hl' => ⟨_, hl' c (by simpa using h), hp⟩)))
  simp at h
  have : atS st c = -1 := fnat_none fun i hi => by
    unfold atP
    have := hc _ (mem_getD hi)
    have e : (st.Shelves.getD i 0 == c) = false := by
      cases e : st.Shelves.getD i 0 == c with
      | false => rfl
      | true => have e' : st.Shelves.getD i 0 = c := by simpa using e
                rw [e', h] at this; cases this
    rw [e]; rfl
  rw [this] at hp; exact hp
theorem S_ref12_Drop (ks : OkApiSite s) (k : OkApiState st) (hf : RF s.Floor) (hl : st.Shelves.length ≤ 1000000) {shelf c : Int} {post : Int → Prop} (hp : post (dropS s st shelf c)) : V_taquinref12_Drop s st shelf c post := by
  unfold V_taquinref12_Drop
  refine Jor2 (Ite.mk (fun h => ?_) (fun h => S_ref12_Stands hf (Ite.mk (fun h2 => ?_) (fun h2 => ?_))))
  · unfold dropS at hp; rw [if_pos (by simp at h; omega)] at hp; exact hp
  · unfold dropS at hp; rw [if_neg (by simp at h; omega), if_pos (by simpa using h2)] at hp; exact hp
  · unfold dropS at hp; rw [if_neg (by simp at h; omega), if_neg (by simp at h2; simp [h2])] at hp
    refine Jn.mk (fun e => (List.range st.Shelves.length).any (dHit st shelf c) = false ∧ e = if (List.range st.Shelves.length).any (dAp s st shelf c) = true then 17 else 0)
      (V_loopj (xs := st.Shelves) k.Shelves.1 (fun t : Int × Int => t.2) (fun n (t : Int × Int) => (List.range n).any (dHit st shelf c) = false ∧ t.1 = if (List.range n).any (dAp s st shelf c) = true then 17 else 0) rfl ⟨rfl, rfl⟩ (fun n x t hx ht hI => ?_) (fun t h => h)) (fun e he => by rw [he.1] at hp; rw [he.2]; exact hp)
    have hn := (List.getElem?_eq_some_iff.1 hx).1
    have hxg := getD_of hx
    rw [ht]
    refine Jn.mk (fun e => (List.range (n + 1)).any (dHit st shelf c) = false ∧ e = if (List.range (n + 1)).any (dAp s st shelf c) = true then 17 else 0) ?_ (fun e he => ⟨rfl, he⟩)
    rw [any_range_succ, any_range_succ, hI.1, hI.2]
    refine Jn.mk (fun b => (b = true → dHit st shelf c n = false ∧ dAp s st shelf c n = false) ∧ (b = false → ((n : Int) == shelf) = false ∧ carB st n = false)) (Ite.mk (fun h3 => ⟨fun _ => ⟨by unfold dHit; rw [h3]; rfl, by unfold dAp; rw [h3]; rfl⟩, fun h => by cases h⟩) (fun h3 => S_ref12_Carried k ⟨fun h6 => ?_, fun h6 => ?_⟩)) (fun b hb => Ite.mk (fun h3 => ?_) (fun h3 => ?_))
    · have : carB st n = true := by unfold carB; simpa using h6
      exact ⟨by unfold dHit; rw [this]; simp, by unfold dAp; rw [this]; simp⟩
    · have : carB st n = false := by unfold carB; simpa using h6
      exact ⟨h3, this⟩
    · rw [(hb.1 h3).1, (hb.1 h3).2]; exact ⟨by simp, by simp⟩
    · obtain ⟨g1, g2⟩ := hb.2 h3
      refine ⟨x, idx_of rfl hx, Ite.mk (fun h4 => ?_) (fun h4 => ?_)⟩
      · have : dHit st shelf c n = true := by unfold dHit; rw [g1, g2, hxg, h4]; rfl
        rw [any_range_mem hn this] at hp; exact hp
      · have e1 : dHit st shelf c n = false := by unfold dHit; rw [hxg, h4]; simp
        have e2 : dAp s st shelf c n = (nearB s.Floor x c && nev s (clsS s shelf) (clsS s n)) := by unfold dAp; rw [g1, g2, hxg]; rfl
        rw [e1, e2]
        refine Jn.mk (fun b => b = (nearB s.Floor x c && nev s (clsS s shelf) (clsS s n))) (S_ref07_Near hf (Ite.mk (fun h5 => S_ref12_Class (S_ref12_Class (S_ref12_Never ks (by rw [h5]; rfl)))) (fun h5 => by rw [h5]; rfl))) (fun b hb => ?_)
        rw [← hb]
        refine Jn.mk (fun e => e = if ((List.range n).any (dAp s st shelf c) || b) = true then 17 else 0) (Ite.mk (fun h5 => by rw [h5]; simp) (fun h5 => by rw [h5]; simp)) (fun e he => ⟨by simp, he⟩)
end
theorem S_ref07_Same' {a b : List Int} (hm : a.length ≤ maxLen) {post : Bool → Prop} (hp : a = b → post true) (hab : a = b) : V_taquinref07_Same a b post := by
  subst hab
  unfold V_taquinref07_Same
  refine Ite.f (by simp) ?_
  refine Jn.mk (fun _ => True) (V_loopc hm (fun t => t) (fun _ _ => True) rfl trivial (fun n x t hx ht _ => ⟨x, by rw [ht]; exact idx_of rfl hx, Ite.f (by simp) ⟨by rw [ht], trivial⟩⟩) (fun _ _ => trivial)) (fun _ _ => hp rfl)
end Go.Taq

/- The mathematics, part NW: a step in the floor's reference. -/
set_option linter.unusedVariables false
namespace Go.Taq
open Go

theorem S_ref07_Next {f : ApiFloor} (h : RF f) {c d : Int} (hd : -1 ≤ d ∧ d < 1000) {post : Int × Bool → Prop} (hp : post (nx f c d)) : V_taquinref07_Next f c d post := by
  unfold V_taquinref07_Next
  refine S_ref07_Beside h ?_
  have hn := nx_ok h (c := c) (d := d)
  have hb := nbr_ok h c d
  unfold nx at hp
  refine Ite.mk (fun h1 => ?_) (fun h1 => ?_)
  · simp at h1; rw [if_pos (.inl h1)] at hp; exact hp
  · simp at h1
    have hc : isC f c = true := by
      cases hc : isC f c
      · exact absurd (by rw [nbr, if_pos hc]; omega) (Int.not_lt.2 h1)
      · rfl
    have hnb : isC f (nbr f c d) = true := by rcases hb with e | e; (exact absurd h1 (by omega)); exact e
    have hd6 : 0 ≤ d ∧ d < 6 := by
      unfold nbr at h1
      rw [if_neg (by simp [hc])] at h1
      repeat' split at h1
      all_goals omega
    have hw : IntKind.wrap .u64 d = d := by simp [IntKind.wrap, IntKind.signed, IntKind.bits]; omega
    rw [hw]
    refine Jn.eq (decide (kd f c = 0 ∨ kd f (nbr f c d) = 0 ∨ band .i64 (shrI .i64 (ot f c) d) 1 = 0)) ⟨_, idx_kd hc, Ite.mk (fun h2 => ?_) (fun h2 => ⟨_, idx_kd hnb, Ite.mk (fun h3 => ?_) (fun h3 => ⟨_, idx_ot h hc, hd6.1, ?_⟩)⟩)⟩ (Ite.mk (fun h2 => ?_) (fun h2 => ?_))
    · simp at h2; simp [h2]
    · simp at h3; simp [h3]
    · simp at h2 h3; simp only [h2, h3, false_or]; rfl
    · simp only [decide_eq_true_eq] at h2
      rw [if_pos (.inr h2)] at hp; exact hp
    · simp only [decide_eq_false_iff_not] at h2
      rw [if_neg (by simp only [not_or] at h2 ⊢; exact ⟨by omega, h2⟩)] at hp
      refine Jn.eq (decide (4 ≤ d ∧ (kd f c ≠ 6 ∨ kd f (nbr f c d) ≠ 6))) (Ite.mk (fun h3 => ⟨_, idx_kd hc, Ite.mk (fun h4 => ?_) (fun h4 => ⟨_, idx_kd hnb, ?_⟩)⟩) (fun h3 => ?_)) (Ite.mk (fun h3 => ?_) (fun h3 => ?_))
      · simp at h3 h4; simp [h3, h4]
      · simp at h3 h4; simp only [h3, h4]
        by_cases e : kd f (nbr f c d) = 6 <;> simp [e]
      · simp at h3; simp; omega
      · simp only [decide_eq_true_eq] at h3
        rw [if_pos h3] at hp; exact hp
      · simp only [decide_eq_false_iff_not] at h3
        rw [if_neg h3] at hp; exact hp
end Go.Taq

/- The mathematics, part OA: batteries, and the slots of a state. -/
set_option linter.unusedVariables false
set_option linter.unusedSimpArgs false
namespace Go.Taq
open Go

/-- the base of an action's cost -/
def bas (a : Int) (l : Bool) : Int :=
  if a = 0 ∨ a = 8 then 1 else if a = 7 then 3 else if a < 1 ∨ a ≥ 7 then 0 else (if a = 5 then 5 else if a = 6 then 1 else 2) + if l = true then 2 else 0
def agT (t : Int) : Int := if t < 0 then 0 else if t > 20000 then 20 else t / 1000
def cst (t a : Int) (l : Bool) : Int := (bas a l * (10 + agT t) + 9) / 10
def aft (t ch a : Int) (l : Bool) : Int × Int :=
  if ch < 0 ∨ ch > 1000000 ∨ a < 0 ∨ a ≥ 10 then (ch, 1) else if a = 9 then (if ch > 999980 then 1000000 else ch + 20, 0) else if ch < cst t a l then (ch, 16) else (ch - cst t a l, 0)
theorem bas_bd (a : Int) (l : Bool) : bas a l = 0 ∨ bas a l = 1 ∨ bas a l = 2 ∨ bas a l = 3 ∨ bas a l = 4 ∨ bas a l = 5 ∨ bas a l = 7 := by
  unfold bas
  cases l <;> simp <;> split <;> (try split) <;> (try split) <;> (try split) <;> (try split) <;> omega
theorem agT_bd (t : Int) : 0 ≤ agT t ∧ agT t ≤ 20 := by unfold agT; split <;> (try split) <;> omega
theorem prod_bd (a t : Int) (l : Bool) : 0 ≤ bas a l * (10 + agT t) ∧ bas a l * (10 + agT t) ≤ 210 := by
  have h := agT_bd t
  rcases bas_bd a l with e | e | e | e | e | e | e <;> rw [e] <;> omega
theorem cst_bd (t a : Int) (l : Bool) : 0 ≤ cst t a l ∧ cst t a l ≤ 21 := by have := prod_bd a t l; unfold cst; omega
theorem act10 {a : Int} (h0 : 0 ≤ a) (h9 : a < 10) : a = 0 ∨ a = 1 ∨ a = 2 ∨ a = 3 ∨ a = 4 ∨ a = 5 ∨ a = 6 ∨ a = 7 ∨ a = 8 ∨ a = 9 := by omega
theorem S_battery_Base {a : Int} (h0 : 0 ≤ a) (h9 : a < 10) {l : Bool} {post : Int → Prop} (hp : post (bas a l)) : V_battery_Base a l post := by
  unfold V_battery_Base
  rcases act10 h0 h9 with rfl | rfl | rfl | rfl | rfl | rfl | rfl | rfl | rfl | rfl <;> cases l <;> repeat (first | exact hp | refine Jn.mk' ?_ | refine Ite.t (by decide) ?_ | refine Ite.f (by decide) ?_)
theorem age_eq (t : Int) : w64 ((imin (imax t 0) 20000).tdiv 1000) = agT t := by
  have e : (imin (imax t 0) 20000).tdiv 1000 = agT t := by
    unfold imin imax agT
    rw [Int.tdiv_eq_ediv_of_nonneg (by repeat' split <;> omega)]
    repeat' split <;> omega
  rw [e]; have := agT_bd t; exact w64_eq (by omega) (by omega)
theorem S_battery_Cost {t a : Int} (h0 : 0 ≤ a) (h9 : a < 10) {l : Bool} {post : Int → Prop} (hp : post (cst t a l)) : V_battery_Cost t a l post := by
  unfold V_battery_Cost
  refine S_battery_Base h0 h9 ?_
  have hb := prod_bd a t l
  have ha := agT_bd t
  rw [age_eq, w64_eq (x := 10 + agT t) (by omega) (by omega), w64_eq (x := bas a l * (10 + agT t)) (by omega) (by omega), w64_eq (x := bas a l * (10 + agT t) + 9) (by omega) (by omega), Int.tdiv_eq_ediv_of_nonneg (by omega)]
  have hc := cst_bd t a l
  unfold cst at hc hp
  rw [w64_eq (by omega) (by omega)]
  exact hp
theorem S_battery_Spend {ch c : Int} (hc : 0 ≤ c ∧ c ≤ 100) {post : Int × Int → Prop} (hp : post (if ch < 0 ∨ ch > 1000000 then (ch, 1) else if ch < c then (ch, 16) else (ch - c, 0))) : V_battery_Spend ch c post := by
  unfold V_battery_Spend V_battery_isCharge
  refine Jn.mk (fun b => b = decide (ch < 0 ∨ ch > 1000000)) (Jand2 (Ite.mk (fun h => ?_) (fun h => ?_))) (fun b hb => ?_)
  · simp at h; rw [decide_eq_false (by omega : ¬ c < 0)]; simp; omega
  · simp at h; simp; omega
  · subst hb
    refine Ite.mk (fun h => ?_) (fun h => Ite.mk (fun h1 => ?_) (fun h1 => ?_))
    · rw [if_pos (by simpa using h)] at hp; exact hp
    · rw [if_neg (by simpa using h), if_pos (by simpa using h1)] at hp; exact hp
    · rw [if_neg (by simpa using h), if_neg (by simpa using h1)] at hp
      simp at h h1
      rw [w64_eq (by omega) (by omega)]; exact hp
theorem S_battery_After {t ch a : Int} {l : Bool} {post : Int × Int → Prop} (hp : post (aft t ch a l)) : V_battery_After t ch a l post := by
  unfold V_battery_After V_battery_isCharge
  refine Jn.mk (fun b => b = decide (ch < 0 ∨ ch > 1000000 ∨ a < 0 ∨ a ≥ 10)) (Jand2 (Ite.mk (fun h => Ite.mk (fun h1 => ?_) (fun h1 => ?_)) (fun h => ?_))) (fun b hb => ?_)
  · simp at h h1; simp; omega
  · simp at h h1; show decide (a ≥ 10) = decide (ch < 0 ∨ ch > 1000000 ∨ a < 0 ∨ a ≥ 10); rw [Bool.eq_iff_iff]; simp; omega
  · simp at h; simp; omega
  · subst hb
    unfold aft at hp
    refine Ite.mk (fun h => ?_) (fun h => Ite.mk (fun h1 => ?_) (fun h1 => ?_))
    · rw [if_pos (by simpa using h)] at hp; exact hp
    · simp at h1; rw [if_neg (by simpa using h), if_pos h1] at hp
      simp at h
      rw [w64_eq (x := ch + 20) (by omega) (by omega)]
      have e : imin (ch + 20) 1000000 = if ch > 999980 then 1000000 else ch + 20 := by unfold imin; repeat' split <;> omega
      rw [e]; exact hp
    · simp at h1; rw [if_neg (by simpa using h), if_neg h1] at hp
      simp at h
      refine S_battery_Cost (by omega) (by omega) (S_battery_Spend (by have := cst_bd t a l; omega) ?_)
      rw [if_neg (by omega)]
      split
      · rw [if_pos (by assumption)] at hp; exact hp
      · rw [if_neg (by assumption)] at hp; exact hp
theorem S_ref13_Base {a : Int} {l : Bool} {post : Int → Prop} (hp : post (bas a l)) : V_taquinref13_Base a l post := by
  unfold V_taquinref13_Base
  by_cases h : 0 ≤ a ∧ a < 10
  · rcases act10 h.1 h.2 with rfl | rfl | rfl | rfl | rfl | rfl | rfl | rfl | rfl | rfl <;> cases l <;> repeat (first | exact hp | refine Jn.mk' ?_ | refine Ite.t (by decide) ?_ | refine Ite.f (by decide) ?_)
  · unfold bas at hp
    rw [if_neg (by omega), if_neg (by omega), if_pos (by omega)] at hp
    refine Jor2 (Ite.f (by simp; omega) (Ite.f (by simp; omega) (Jor2 (Ite.t (by simp; omega) hp))))
theorem S_ref13_Age {t : Int} {post : Int → Prop} (hp : post (agT t)) : V_taquinref13_Age t post := by
  unfold V_taquinref13_Age; unfold agT at hp
  refine Ite.mk (fun h => ?_) (fun h => Ite.mk (fun h1 => ?_) (fun h1 => ?_)) <;> simp at h
  · rw [if_pos h] at hp; exact hp
  · simp at h1; rw [if_neg (by omega), if_pos h1] at hp; exact hp
  · simp at h1; rw [if_neg (by omega), if_neg (by omega)] at hp
    rw [Int.tdiv_eq_ediv_of_nonneg h, w64_eq (by omega) (by omega)]; exact hp
theorem S_ref13_Cost {t a : Int} {l : Bool} {post : Int → Prop} (hp : post (cst t a l)) : V_taquinref13_Cost t a l post := by
  unfold V_taquinref13_Cost
  refine S_ref13_Base (S_ref13_Age ?_)
  have hb := prod_bd a t l
  have ha := agT_bd t
  have hc := cst_bd t a l
  unfold cst at hp hc
  rw [w64_eq (x := 10 + agT t) (by omega) (by omega), w64_eq (x := bas a l * (10 + agT t)) (by omega) (by omega), Int.tdiv_eq_ediv_of_nonneg (by omega), Int.tmod_eq_emod_of_nonneg (by omega)]
  generalize bas a l * (10 + agT t) = x at *
  rw [w64_eq (x := x / 10) (by omega) (by omega)]
  refine Ite.mk (fun h => ?_) (fun h => ?_) <;> simp at h
  · rw [w64_eq (by omega) (by omega)]
    have : (x + 9) / 10 = x / 10 + 1 := by omega
    rw [← this]; exact hp
  · have : (x + 9) / 10 = x / 10 := by omega
    rw [← this]; exact hp
theorem S_ref13_After {t ch a : Int} {l : Bool} {post : Int × Int → Prop} (hp : post (aft t ch a l)) : V_taquinref13_After t ch a l post := by
  unfold V_taquinref13_After V_taquinref13_Act
  refine Jn.mk (fun b => b = decide (ch < 0 ∨ ch > 1000000 ∨ a < 0 ∨ a ≥ 10)) (Ite.mk (fun h => ?_) (fun h => Ite.mk (fun h1 => ?_) (fun h1 => Jand2 ?_))) (fun b hb => ?_)
  · simp at h; simp; omega
  · simp at h h1; simp; omega
  · simp at h h1; show (!(decide (a ≥ 0) && decide (a < 10))) = decide (ch < 0 ∨ ch > 1000000 ∨ a < 0 ∨ a ≥ 10); rw [Bool.eq_iff_iff]; simp; omega
  · subst hb
    unfold aft at hp
    refine Ite.mk (fun h => ?_) (fun h => Ite.mk (fun h1 => ?_) (fun h1 => ?_))
    · rw [if_pos (by simpa using h)] at hp; exact hp
    · simp at h1; rw [if_neg (by simpa using h), if_pos h1] at hp
      simp at h
      refine Ite.mk (fun h2 => ?_) (fun h2 => ?_) <;> simp at h2
      · rw [if_pos (by omega)] at hp; exact hp
      · rw [if_neg (by omega)] at hp; rw [w64_eq (by omega) (by omega)]; exact hp
    · simp at h1; rw [if_neg (by simpa using h), if_neg h1] at hp
      simp at h
      have hc := cst_bd t a l
      refine S_ref13_Cost ?_
      unfold V_taquinref13_Spend
      refine Jor3 (Ite.f (by simp; omega) (Ite.mk (fun h2 => ?_) (fun h2 => ?_))) <;> simp at h2
      · rw [if_pos (by omega)] at hp; exact hp
      · rw [if_neg (by omega)] at hp; rw [w64_eq (by omega) (by omega)]; exact hp
end Go.Taq

/- The mathematics, part OB: the slots of a state, in both; who carries. -/
set_option linter.unusedVariables false
set_option linter.unusedSimpArgs false
namespace Go.Taq
open Go

def low (c : Int) : Int := w64 (2 * c)
def high (c : Int) : Int := w64 (w64 (2 * c) + 1)
def slR (r : ApiRobot) : List Int := if 0 ≤ r.Load then [low r.Cell, high r.Cell] else [low r.Cell]
def slS (st : ApiState) (i : Nat) : List Int := if carB st i = true then [] else [high (st.Shelves.getD i 0)]
def slP (c : Int) : List Int := [low c, high c]
def allS (st : ApiState) : List Int := (List.range st.Robots.length).flatMap (fun i => slR (st.Robots.getD i default)) ++ (List.range st.Shelves.length).flatMap (slS st) ++ (List.range st.People.length).flatMap (fun i => slP (st.People.getD i 0))
structure Sz (st : ApiState) : Prop where
  sh : st.Shelves.length ≤ 1000
  rb : st.Robots.length ≤ 1000
  pp : st.People.length ≤ 1000
  dd : st.Dead.length ≤ 1000
  sk : st.Stuck.length ≤ 1000
theorem flat_len {n : Nat} {f : Nat → List Int} (h : ∀ i, i < n → (f i).length ≤ 2) : ((List.range n).flatMap f).length ≤ 2 * n := by
  induction n with
  | zero => simp
  | succ n ih => rw [List.range_succ, List.flatMap_append, List.length_append]; have := ih (fun i hi => h i (by omega)); have := h n (by omega); simp only [List.flatMap_cons, List.flatMap_nil, List.append_nil]; omega
theorem V_app {n : Nat} (hn : n ≤ 1000) {f : Nat → List Int} (hf : ∀ i, i < n → (f i).length ≤ 2) {T : Int → (List Int → Prop) → Prop} (hT : ∀ i : Nat, i < n → ∀ {q : List Int → Prop}, q (f i) → T (i : Int) q) {l0 : List Int} (hl : l0.length ≤ 1000000) {K : List Int → Prop} (hK : K (l0 ++ (List.range n).flatMap f)) :
    Jn (fun (J : List Int → Prop) => Loop (fun (s : List Int × Int) Y => Ite (decide (s.2 < (n : Int))) (T s.2 (fun x => (s.1.length + x.length ≤ 1099511627776) ∧ Y (s.1 ++ x, w64 (s.2 + 1)))) (J s.1)) (l0, 0)) (fun x => K x) := by
  refine Jn.mk (fun x => x = l0 ++ (List.range n).flatMap f) (V_upto n (fun t : List Int × Int => t.2) (fun i t => t.1 = l0 ++ (List.range i).flatMap f) (by unfold maxLen; omega) rfl (by simp) (fun i t hi h1 h2 => ?_) (fun t h => h)) (fun x hx => hx ▸ hK)
  rw [h1]
  refine hT i hi ⟨?_, rfl, ?_⟩
  · have := hf i hi
    have h3 := flat_len (n := i) (f := f) (fun j hj => hf j (by omega))
    rw [h2, List.length_append]; omega
  · show t.1 ++ f i = _
    rw [h2, List.range_succ, List.flatMap_append, List.append_assoc]; simp
section
variable {st : ApiState}
theorem S_body_at {r : ApiRobot} {post : List Int → Prop} (hp : post (slR r)) : V_body_at r r.Cell post := by
  unfold V_body_at V_body_Low V_body_High
  unfold slR low high at hp
  refine Ite.mk (fun h => ?_) (fun h => ?_) <;> simp at h
  · rw [if_pos h] at hp; exact hp
  · rw [if_neg (by omega)] at hp; exact hp
theorem S_ref14_At {r : ApiRobot} {post : List Int → Prop} (hp : post (slR r)) : V_taquinref14_At r r.Cell post := by
  unfold V_taquinref14_At
  unfold slR low high at hp
  refine Ite.mk (fun h => ?_) (fun h => ?_) <;> simp at h
  · rw [if_neg (by omega)] at hp; exact hp
  · rw [if_pos h] at hp; exact hp
theorem getD_r {i : Nat} {r : ApiRobot} (h : st.Robots[i]? = some r) : st.Robots.getD i default = r := by rw [List.getD_eq_getElem?_getD, h]; rfl
theorem getD_i {l : List Int} {n : Nat} {x : Int} (h : l[n]? = some x) : l.getD n 0 = x := by rw [List.getD_eq_getElem?_getD, h]; rfl
theorem S_body_Robot {i : Nat} (hi : i < st.Robots.length) {post : List Int → Prop} (hp : post (slR (st.Robots.getD i default))) : V_body_Robot st i post := by
  have hx := List.getElem?_eq_getElem hi
  rw [getD_r hx] at hp
  unfold V_body_Robot
  exact Jor2 (Ite.f (by simp; omega) ⟨_, idx_of rfl hx, S_body_at hp⟩)
theorem S_ref14_Robot {i : Nat} (hi : i < st.Robots.length) {post : List Int → Prop} (hp : post (slR (st.Robots.getD i default))) : V_taquinref14_Robot st i post := by
  have hx := List.getElem?_eq_getElem hi
  rw [getD_r hx] at hp
  unfold V_taquinref14_Robot
  exact Jor2 (Ite.f (by simp; omega) ⟨_, idx_of rfl hx, S_ref14_At hp⟩)
theorem S_body_Carrier (hz : Sz st) {i : Int} {post : Int → Prop} (hp : post (carr st i)) : V_body_Carrier st i post := by
  unfold V_body_Carrier V_slices_IndexFunc_api_Robot_api_Robot__body_Carrier_1
  unfold carr at hp
  refine Ite.mk (fun h => ?_) (fun h => ?_) <;> simp at h
  · rw [if_pos h] at hp; exact hp
  · rw [if_neg (by omega)] at hp
    exact V_fidxc (by have := hz.rb; unfold maxLen; omega) (fun r : ApiRobot => r.Load == i) (T := fun x q => V_body_Carrier_1 x i q) (fun x _ q hq => by unfold V_body_Carrier_1; exact hq) hp
theorem S_ref14_Carrier (k : OkApiState st) {i : Int} {post : Int → Prop} (hp : post (carr st i)) : V_taquinref14_Carrier st i post := by
  have := S_ref12_Carried k (i := i) (post := post) hp
  unfold V_taquinref12_Carried at this
  unfold V_taquinref14_Carrier
  exact this
theorem S_body_Shelf (hz : Sz st) {i : Nat} (hi : i < st.Shelves.length) {post : List Int → Prop} (hp : post (slS st i)) : V_body_Shelf st i post := by
  have hx := List.getElem?_eq_getElem hi
  unfold slS carB high at hp
  rw [getD_i hx] at hp
  unfold V_body_Shelf
  refine Jn.mk' (Ite.f (by simp) (Ite.f (by simp; omega) (S_body_Carrier hz ?_)))
  refine Ite.mk (fun h => ?_) (fun h => ?_)
  · rw [if_pos (by simpa using h)] at hp; exact hp
  · rw [if_neg (by simpa using h)] at hp; exact ⟨_, idx_of rfl hx, by unfold V_body_High; exact hp⟩
theorem S_ref14_Shelf (k : OkApiState st) {i : Nat} (hi : i < st.Shelves.length) {post : List Int → Prop} (hp : post (slS st i)) : V_taquinref14_Shelf st i post := by
  have hx := List.getElem?_eq_getElem hi
  unfold slS carB high at hp
  rw [getD_i hx] at hp
  unfold V_taquinref14_Shelf
  refine Jn.mk' (Ite.f (by simp) (Ite.f (by simp; omega) (S_ref14_Carrier k ?_)))
  refine Ite.mk (fun h => ?_) (fun h => ?_)
  · rw [if_pos (by simpa using h)] at hp; exact hp
  · rw [if_neg (by simpa using h)] at hp; exact ⟨_, idx_of rfl hx, hp⟩
theorem S_body_Person {i : Nat} (hi : i < st.People.length) {post : List Int → Prop} (hp : post (slP (st.People.getD i 0))) : V_body_Person st i post := by
  have hx := List.getElem?_eq_getElem hi
  rw [getD_i hx] at hp
  unfold V_body_Person V_body_Low V_body_High
  exact Jor2 (Ite.f (by simp; omega) ⟨_, idx_of rfl hx, hp⟩)
theorem S_ref14_Person {i : Nat} (hi : i < st.People.length) {post : List Int → Prop} (hp : post (slP (st.People.getD i 0))) : V_taquinref14_Person st i post := by
  have hx := List.getElem?_eq_getElem hi
  rw [getD_i hx] at hp
  unfold V_taquinref14_Person
  exact Jor2 (Ite.f (by simp; omega) ⟨_, idx_of rfl hx, hp⟩)
theorem slR_len (r : ApiRobot) : (slR r).length ≤ 2 := by unfold slR; split <;> simp
theorem slS_len (i : Nat) : (slS st i).length ≤ 2 := by unfold slS; split <;> simp
theorem allS_len (hz : Sz st) : (allS st).length ≤ 6000 := by
  have h1 := flat_len (n := st.Robots.length) (f := fun i => slR (st.Robots.getD i default)) (fun i _ => slR_len _)
  have h2 := flat_len (n := st.Shelves.length) (f := slS st) (fun i _ => slS_len i)
  have h3 := flat_len (n := st.People.length) (f := fun i => slP (st.People.getD i 0)) (fun i _ => by simp [slP])
  have := hz.sh; have := hz.rb; have := hz.pp
  unfold allS; rw [List.length_append, List.length_append]; omega
theorem S_body_all (hz : Sz st) {post : List Int → Prop} (hp : post (allS st)) : V_body_all st post := by
  have h1 := flat_len (n := st.Robots.length) (f := fun i => slR (st.Robots.getD i default)) (fun i _ => slR_len _)
  have h2 := flat_len (n := st.Shelves.length) (f := slS st) (fun i _ => slS_len i)
  have q1 := hz.sh; have q2 := hz.rb; have q3 := hz.pp
  unfold V_body_all
  refine V_app q2 (f := fun i => slR (st.Robots.getD i default)) (fun i _ => slR_len _) (T := fun i q => V_body_Robot st i q) (fun i hi q hq => S_body_Robot hi hq) (by simp) ?_
  refine V_app q1 (f := slS st) (fun i _ => slS_len i) (T := fun i q => V_body_Shelf st i q) (fun i hi q hq => S_body_Shelf hz hi hq) (by rw [List.nil_append]; omega) ?_
  refine V_app q3 (f := fun i => slP (st.People.getD i 0)) (fun i _ => by simp [slP]) (T := fun i q => V_body_Person st i q) (fun i hi q hq => S_body_Person hi hq) (by rw [List.length_append]; simp only [List.nil_append]; omega) ?_
  exact hp
theorem S_body_All (hz : Sz st) {post : List Int → Prop} (hp : ∀ l, List.Perm l (allS st) → post l) : V_body_All st post := by
  unfold V_body_All V_slices_Sort_int_int__o0
  exact S_body_all hz ⟨by have := allS_len hz; omega, hp _ (List.mergeSort_perm _ _)⟩
/-- a number put into an ascending list -/
def putA : List Int → Int → List Int
  | [], n => [n]
  | x :: xs, n => if x > n then n :: x :: xs else x :: putA xs n
theorem putA_perm (l : List Int) (n : Int) : List.Perm (putA l n) (l ++ [n]) := by
  induction l with
  | nil => exact .refl _
  | cons x xs ih =>
    unfold putA
    split
    · exact List.perm_append_comm (l₁ := [n]) (l₂ := x :: xs)
    · exact .cons _ ih
theorem putA_low {l : List Int} {n : Int} (h : ∀ x, x ∈ l → ¬ x > n) : putA l n = l ++ [n] := by
  induction l with
  | nil => rfl
  | cons x xs ih => rw [putA, if_neg (h x (by simp)), ih (fun y hy => h y (by simp [hy]))]; rfl
theorem putA_at {l r : List Int} {n x : Int} (h : ∀ y, y ∈ l → ¬ y > n) (hx : x > n) : putA (l ++ x :: r) n = l ++ n :: x :: r := by
  induction l with
  | nil => rw [List.nil_append, putA, if_pos hx]; rfl
  | cons y ys ih => rw [List.cons_append, putA, if_neg (h y (by simp)), ih (fun z hz => h z (by simp [hz]))]; rfl
theorem S_ref14_with {l : List Int} (hl : l.length ≤ 10000) {n : Int} {post : List Int → Prop} (hp : post (putA l n)) : V_taquinref14_with l n post := by
  unfold V_taquinref14_with
  refine Jn.mk (fun t : List Int × Bool => (t.2 = false ∧ t.1 = l ∧ ∀ y, y ∈ l → ¬ y > n) ∨ (t.2 = true ∧ t.1 = putA l n))
    (V_loopj (xs := l) (by unfold maxLen; omega) (fun t : List Int × Bool × Int => t.2.2) (fun i t => (t.2.1 = false ∧ t.1 = l.take i ∧ ∀ y, y ∈ l.take i → ¬ y > n) ∨ (t.2.1 = true ∧ t.1 ++ l.drop i = putA l n ∧ t.1.length = i + 1)) rfl (.inl ⟨rfl, by simp, by simp⟩) (fun i x t hx ht hI => ?_) (fun t h => ?_)) (fun t ht => ?_)
  · have hlt : i < l.length := (List.getElem?_eq_some_iff.1 hx).1
    have hdr : l.drop i = x :: l.drop (i + 1) := by
      rw [List.drop_eq_getElem_cons hlt]; congr 1; exact (List.getElem?_eq_some_iff.1 hx).2
    rcases hI with ⟨h1, h2, h3⟩ | ⟨h1, h2, h3⟩
    · refine Jn.mk (fun b => b = decide (x > n)) (Ite.f h1 ⟨x, idx_of ht hx, rfl⟩) (fun b hb => ?_)
      subst hb
      refine Jn.mk (fun u : List Int × Bool => u = if x > n then (t.1 ++ [n], true) else (t.1, t.2.1)) (Ite.mk (fun hc => ?_) (fun hc => ?_)) (fun u hu => ?_)
      · simp only [decide_eq_true_eq] at hc
        exact ⟨by rw [h2]; simp; omega, by rw [if_pos hc]⟩
      · simp only [decide_eq_false_iff_not] at hc; rw [if_neg hc]
      · refine ⟨x, idx_of ht hx, ?_, ?_, ?_⟩
        · subst hu; split <;> simp [h2] <;> omega
        · show w64 (t.2.2 + 1) = _; rw [ht]
        · subst hu
          by_cases hc : x > n
          · right
            rw [if_pos hc]
            refine ⟨rfl, ?_, ?_⟩
            · show ((t.1 ++ [n]) ++ [x]) ++ l.drop (i + 1) = putA l n
              have e : l = l.take i ++ x :: l.drop (i + 1) := by rw [← hdr, List.take_append_drop]
              have := putA_at (l := l.take i) (r := l.drop (i + 1)) h3 hc
              rw [← e] at this
              rw [this, h2]; simp
            · show ((t.1 ++ [n]) ++ [x]).length = i + 1 + 1
              rw [h2]; simp; omega
          · left
            rw [if_neg hc]
            refine ⟨h1, ?_, ?_⟩
            · show t.1 ++ [x] = _; rw [h2, take_succ hx]
            · rw [take_succ hx]; intro y hy
              rcases List.mem_append.1 hy with hy | hy
              · exact h3 y hy
              · simp at hy; subst hy; exact hc
    · refine Jn.mk (fun b => b = false) (Ite.t h1 rfl) (fun b hb => ?_)
      subst hb
      refine Jn.mk (fun u : List Int × Bool => u = (t.1, t.2.1)) (Ite.f rfl rfl) (fun u hu => ?_)
      subst hu
      refine ⟨x, idx_of ht hx, by simp; omega, by show w64 (t.2.2 + 1) = _; rw [ht], .inr ⟨h1, ?_, ?_⟩⟩
      · show (t.1 ++ [x]) ++ l.drop (i + 1) = _
        rw [← h2, hdr]; simp
      · show (t.1 ++ [x]).length = _; simp; omega
  · rcases h with ⟨h1, h2, h3⟩ | ⟨h1, h2, h3⟩
    · exact .inl ⟨h1, by rw [h2, List.take_length], by rw [List.take_length] at h3; exact h3⟩
    · exact .inr ⟨h1, by rw [List.drop_length, List.append_nil] at h2; exact h2⟩
  · rcases ht with ⟨h1, h2, h3⟩ | ⟨h1, h2⟩
    · refine Jn.mk (fun u => u = putA l n) (Ite.t (by rw [h1]; rfl) ⟨by rw [h2]; simp; omega, by rw [h2, putA_low h3]⟩) (fun u hu => hu ▸ hp)
    · refine Jn.mk (fun u => u = putA l n) (Ite.f (by rw [h1]; rfl) h2) (fun u hu => hu ▸ hp)
theorem S_ref14_Sorted {l : List Int} (hl : l.length ≤ 10000) {post : List Int → Prop} (hp : ∀ l', List.Perm l' l → post l') : V_taquinref14_Sorted l post := by
  unfold V_taquinref14_Sorted
  refine Jn.mk (fun u => List.Perm u l) (V_loopc (xs := l) (by unfold maxLen; omega) (fun t : List Int × Int => t.2) (fun i t => List.Perm t.1 (l.take i)) rfl (.refl _) (fun i x t hx ht hI => ?_) (fun t h => by rw [List.take_length] at h; exact h)) (fun u hu => hp u hu)
  have hlt : i < l.length := (List.getElem?_eq_some_iff.1 hx).1
  refine S_ref14_with (by rw [hI.length_eq, List.length_take]; omega) ⟨by show w64 (t.2 + 1) = _; rw [ht], ?_⟩
  show List.Perm (putA t.1 x) _
  rw [take_succ hx]
  exact (putA_perm _ _).trans (hI.append_right _)
theorem S_ref14_All (hz : Sz st) (k : OkApiState st) {post : List Int → Prop} (hp : ∀ l, List.Perm l (allS st) → post l) : V_taquinref14_All st post := by
  have h1 := flat_len (n := st.Robots.length) (f := fun i => slR (st.Robots.getD i default)) (fun i _ => slR_len _)
  have h2 := flat_len (n := st.Shelves.length) (f := slS st) (fun i _ => slS_len i)
  have q1 := hz.sh; have q2 := hz.rb; have q3 := hz.pp
  have q4 := allS_len hz
  unfold V_taquinref14_All
  refine V_app q2 (f := fun i => slR (st.Robots.getD i default)) (fun i _ => slR_len _) (T := fun i q => V_taquinref14_Robot st i q) (fun i hi q hq => S_ref14_Robot hi hq) (by simp) ?_
  refine V_app q1 (f := slS st) (fun i _ => slS_len i) (T := fun i q => V_taquinref14_Shelf st i q) (fun i hi q hq => S_ref14_Shelf k hi hq) (by rw [List.nil_append]; omega) ?_
  refine V_app q3 (f := fun i => slP (st.People.getD i 0)) (fun i _ => by simp [slP]) (T := fun i q => V_taquinref14_Person st i q) (fun i hi q hq => S_ref14_Person hi hq) (by rw [List.length_append]; simp only [List.nil_append]; omega) ?_
  exact S_ref14_Sorted (l := allS st) (by omega) hp
theorem perm_contains {l m : List Int} (h : List.Perm l m) (x : Int) : l.contains x = m.contains x := by
  rw [Bool.eq_iff_iff]; simp [h.mem_iff]
end
end Go.Taq
