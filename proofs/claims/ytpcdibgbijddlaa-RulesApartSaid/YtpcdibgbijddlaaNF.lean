/- The mathematics, part NF: the rules' statements: examples, RulesApart. -/
import Derived.Test.YtpcdibgbijddlaaNE
set_option linter.unusedVariables false
set_option linter.unusedSimpArgs false
namespace Go.Taq
open Go

theorem e12n : nev e12S (clsS e12S 1) (clsS e12S 0) = true := by rw [e12nev]; decide
theorem e12drop : dropS e12S e12T 1 1 = 17 := by
  unfold dropS
  rw [if_neg (by decide), if_neg (by decide), if_neg (by decide), if_pos]
  refine any_range_mem (i := 0) (by decide) ?_
  unfold dAp
  rw [show clsS e12S ((0 : Nat) : Int) = clsS e12S 0 from rfl, e12n]
  decide
theorem e12ap : (apartS e12S e12T).2.2 = false := by
  have h : ∀ a, partner e12S e12T a = -1 := fun a => fnat_none fun b hb => by
    unfold badP
    have hb' : b = 0 ∨ b = 1 := by have : b < 2 := hb; omega
    rcases hb' with rfl | rfl
    · simp
    · by_cases h0 : a < 1
      · obtain rfl : a = 0 := by omega
        have : nearB e12S.Floor (e12T.Shelves.getD 0 0) (e12T.Shelves.getD 1 0) = false := by decide
        rw [this]; simp
      · simp [h0]
  unfold apartS
  rw [fnat_none (fun i _ => by simp [h i])]
  rfl
theorem S_law12_small {post : Bool → Prop} (hp : post true) : V_taquinlaw12_small post := by
  unfold V_taquinlaw12_small V_taquinlaw12_sample
  refine S_rules_Apart (s := e12S) (st := e12T) e12Ok e12OkT e12RF (by decide) (fun c hc => ?_) (Jn.mk' (S_rules_Speed (s := e12S) e12Ok e12RS (Ite.t (by decide) (S_rules_Speed (s := e12S) e12Ok e12RS (Ite.t (by decide) (S_rules_Open (s := e12S) e12Ok e12RS (Ite.f (by decide) (S_rules_Open (s := e12S) e12Ok e12RS (Ite.t (by decide)
    (S_rules_Room (s := e12S) (st := e12T) e12Ok e12OkT (by decide) (fun z hz => ?_) (Ite.t (by decide) (S_rules_Drop (s := e12S) (st := e12T) e12Ok e12OkT e12RF (by decide) (Ite.t (by rw [e12drop]; decide) ?_)))))))))))))
  · have : c = 0 ∨ c = 2 := by simpa [e12T] using hc
    rcases this with rfl | rfl <;> decide
  · simp only [e12S, List.mem_singleton] at hz; subst hz; decide
  · show post (!(apartS e12S e12T).2.2)
    rw [e12ap]; exact hp

theorem nev_comm {s : ApiSite} (a b : ByteArray) : nev s a b = nev s b a := by
  unfold nev apB
  have e : ∀ x : ApiApart, ((seq x.A a && seq x.B b) || (seq x.A b && seq x.B a)) = ((seq x.A b && seq x.B a) || (seq x.A a && seq x.B b)) := fun x => Bool.or_comm _ _
  simp only [e]
  rw [Bool.and_comm (!nosh a)]

theorem apartS_found {s : ApiSite} {st : ApiState} : (apartS s st).2.2 = decide (0 ≤ fnat (fun a => decide (0 ≤ partner s st a)) st.Shelves.length) := by
  unfold apartS
  simp only
  split <;> rename_i h <;> simp <;> omega
theorem carr_lift {st : ApiState} {l : List ApiRobot} (hl : ∀ (i : Nat), i < st.Shelves.length → ∃ r, r ∈ l ∧ r.Load = (i : Int)) : ∀ i : Nat, i < st.Shelves.length → carB { st with Robots := l } i = true := fun i hi => by
  rw [carB_any (by omega)]
  obtain ⟨r, h1, h2⟩ := hl i hi
  exact List.any_eq_true.2 ⟨r, h1, by simp [h2]⟩
theorem Said_taquinlaw12_RulesApart (s : ApiSite) (ks : OkApiSite s) (st : ApiState) (k : OkApiState st) : V_taquinlaw12_RulesApart s st (fun y => y = true) := by
  unfold V_taquinlaw12_RulesApart
  refine S_law12_small (S_law12_fits ks k (Ite.t rfl rfl) (fun hf => Ite.f rfl ?_))
  have hsl := hf.sl
  refine S_rules_Apart ks k hf.r.fl (by omega) hf.cell ?_
  -- the pairs
  have hA : (apartS s st).2.2 = decide (0 ≤ fnat (fun a => decide (0 ≤ partner s st a)) st.Shelves.length) := apartS_found
  have hAB : 0 ≤ fnat (fun a => decide (0 ≤ partner s st a)) st.Shelves.length → (apartS s st).1 = fnat (fun a => decide (0 ≤ partner s st a)) st.Shelves.length ∧ (apartS s st).2.1 = partner s st (fnat (fun a => decide (0 ≤ partner s st a)) st.Shelves.length).toNat := fun h => by
    unfold apartS; simp only; rw [if_neg (by omega)]; exact ⟨rfl, rfl⟩
  generalize hFa : fnat (fun a => decide (0 ≤ partner s st a)) st.Shelves.length = A at *
  refine Jn.mk (fun b => b = decide (0 ≤ A))
    (V_loopj (xs := st.Shelves) k.Shelves.1 (fun t : Bool × Int => t.2) (fun n (t : Bool × Int) => t.1 = decide (0 ≤ A ∧ A < n)) rfl (by symm; simp) (fun n x t hx ht hI => ?_) (fun t h => ?_)) (fun found hfound => ?_)
  · have hn := (List.getElem?_eq_some_iff.1 hx).1
    rw [ht, hI, show w64 ((n : Int) + 1) = ((n + 1 : Nat) : Int) from w64_nat hn k.Shelves.1]
    refine Jn.mk (fun b => b = decide (0 ≤ A ∧ A < ((n + 1 : Nat) : Int))) (Jn.mk (fun b => b = decide (0 ≤ A ∧ A < ((n + 1 : Nat) : Int)))
      (Loop.mk (fun t : Bool × Int => ∃ m : Nat, t.2 = (m : Int) ∧ n < m ∧ m ≤ st.Shelves.length ∧ t.1 = (decide (0 ≤ A ∧ A < (n : Int)) || (decide (0 ≤ partner s st n) && decide (partner s st n < m)))) (fun t => st.Shelves.length - t.2.toNat) ⟨n + 1, rfl, by omega, by omega, ?_⟩ ?_) (fun b hb => hb)) (fun b hb => ⟨rfl, hb⟩)
    · have : ¬ (0 ≤ partner s st n ∧ partner s st n < ((n + 1 : Nat) : Int)) := fun h => by
        rcases fnat_cases (fun b => decide (n < b) && badP s st n b) st.Shelves.length with ⟨w, hw, e, hp, _⟩ | ⟨e, _⟩
        · unfold partner at h; rw [e] at h; simp at hp; omega
        · unfold partner at h; rw [e] at h; omega
      have e2 : (decide (0 ≤ partner s st n) && decide (partner s st n < ((n + 1 : Nat) : Int))) = false := by rw [← Bool.decide_and]; exact decide_eq_false this
      show decide _ = _
      rw [e2, Bool.or_false]
    · rintro ⟨tb, ti⟩ ⟨m, hm1, hm2, hm3, hm4⟩
      simp only at hm1 hm4
      subst hm1
      dsimp only
      refine Ite.mk (fun hlt => ?_) (fun hge => ?_)
      · simp at hlt
        refine S_rules_Class (S_rules_Class (S_rules_Never ks (S_rules_Class (S_rules_Class (S_rules_Never ks (Ite.f (by rw [nev_comm]; simp) ?_))))))
        have hy : st.Shelves[m]? = some (st.Shelves[m]'hlt) := List.getElem?_eq_getElem hlt
        refine Jn.mk (fun b => b = badP s st n m) (Ite.mk (fun h1 => ⟨x, idx_of rfl hx, _, idx_of rfl hy, S_ref07_Near hf.r.fl (Ite.mk (fun h2 => S_rules_Carried k (Ite.mk (fun h3 => S_rules_Carried k ?_) (fun h3 => ?_))) (fun h2 => ?_))⟩) (fun h1 => ?_)) (fun b hb => ?_)
        · unfold badP; rw [getD_of hx, getD_of hy, h2, h1]; unfold carB
          simp at h3
          have e1 : decide (0 ≤ carr st (n : Int)) = false := by simp; omega
          rw [e1]
          by_cases h0 : 0 ≤ carr st (m : Int) <;> simp [h0] <;> omega
        · unfold badP carB
          have e1 : decide (0 ≤ carr st (n : Int)) = true := by simp at h3; simp; omega
          rw [e1]; simp
        · unfold badP; rw [getD_of hx, getD_of hy, h2]; simp
        · unfold badP; rw [h1]; simp
        · have hnew : decide (0 ≤ A ∧ A < (n : Int)) = false → b = true → (decide (0 ≤ partner s st n) && decide (partner s st n < (m : Int))) = false → A = n ∧ partner s st n = m := fun g1 g2 g3 => by
            rw [hb] at g2
            have hpn : partner s st n = m := by
              refine fnat_some hlt (by simp [hm2, g2]) (fun j hj => ?_)
              rcases fnat_cases (fun b => decide (n < b) && badP s st n b) st.Shelves.length with ⟨w, hw, e, hp, hbw⟩ | ⟨e, hbw⟩
              · have e' : partner s st n = w := e
                rw [e'] at g3
                have : ¬ w < m := fun h => by simp at g3; omega
                exact hbw j (by omega)
              · exact hbw j (by omega)
            refine ⟨?_, hpn⟩
            rw [← hFa]
            refine fnat_some hn (by rw [hpn]; simp) (fun j hj => ?_)
            rcases fnat_cases (fun a => decide (0 ≤ partner s st a)) st.Shelves.length with ⟨w, hw, e, hp, hbw⟩ | ⟨e, hbw⟩
            · have : ¬ w < n := fun h => by rw [hFa] at e; rw [e] at g1; simp at g1; omega
              exact hbw j (by omega)
            · exact hbw j (by omega)
          have hstep : (decide (0 ≤ A ∧ A < (n : Int)) || (decide (0 ≤ partner s st n) && decide (partner s st n < ((m + 1 : Nat) : Int)))) = (tb || b) := by
            rw [hm4]
            cases g1 : decide (0 ≤ A ∧ A < (n : Int)) with
            | true => rfl
            | false =>
              cases g3 : (decide (0 ≤ partner s st n) && decide (partner s st n < (m : Int))) with
              | true => simp at g3 ⊢; exact ⟨g3.1, by omega⟩
              | false =>
                cases g2 : b with
                | true => rw [(hnew g1 g2 g3).2]; simp; omega
                | false =>
                  simp
                  intro h0
                  simp at g3
                  have h1 := g3 h0
                  rcases fnat_cases (fun b => decide (n < b) && badP s st n b) st.Shelves.length with ⟨w, hw, e, hp, hbw⟩ | ⟨e, hbw⟩
                  · have e' : partner s st n = w := e
                    rw [e'] at h1 ⊢
                    have : w ≠ m := fun h => by subst h; rw [hb] at g2; simp [g2] at hp
                    omega
                  · have e' : partner s st n = -1 := e
                    rw [e'] at h0; omega
          refine Jn.mk (fun r => r = (tb || b)) (Ite.mk (fun h1 => ?_) (fun h1 => by rw [h1]; simp)) (fun r hr => ⟨⟨m + 1, w64_nat hlt k.Shelves.1, by omega, by omega, by rw [hr, ← hstep]⟩, ?_⟩)
          · refine Jn.mk (fun q => q = false) (Ite.mk (fun h2 => rfl) (fun h2 => ?_)) (fun q hq => Ite.f hq (by rw [h1]; simp))
            rw [hm4] at h2
            simp only [Bool.or_eq_false_iff] at h2
            obtain ⟨q1, q2⟩ := hnew h2.1 h1 h2.2
            have hA0 : 0 ≤ A := by omega
            obtain ⟨p1, p2⟩ := hAB hA0
            have e3 : (apartS s st).2.1 = (m : Int) := by rw [p2, q1]; exact q2
            refine Ite.t (by rw [hA]; simpa using hA0) (Ite.f (by rw [p1, q1]; simp) (by rw [e3]; simp))
          · rw [w64_nat hlt k.Shelves.1]; have e1 : ((m + 1 : Nat) : Int).toNat = m + 1 := by omega
            have e2 : ((m : Nat) : Int).toNat = m := by omega
            rw [e1, e2]; omega
      · simp at hge
        obtain rfl : m = st.Shelves.length := by omega
        show _ = _
        rw [hm4]
        have hpl : partner s st n < st.Shelves.length := by
          rcases fnat_cases (fun b => decide (n < b) && badP s st n b) st.Shelves.length with ⟨w, hw, e, _⟩ | ⟨e, _⟩ <;> (have e' := e; unfold partner; rw [e']; omega)
        have e1 : decide (partner s st n < (st.Shelves.length : Int)) = true := by simpa using hpl
        rw [e1, Bool.and_true]
        cases g1 : decide (0 ≤ A ∧ A < (n : Int)) with
        | true => simp at g1; symm; simp; omega
        | false =>
          rw [Bool.false_or]
          rw [Bool.eq_iff_iff, decide_eq_true_eq, decide_eq_true_eq]
          simp at g1
          rcases fnat_cases (fun a => decide (0 ≤ partner s st a)) st.Shelves.length with ⟨w, hw, e, hp, hbw⟩ | ⟨e, hbw⟩
          · rw [hFa] at e; subst e
            have := g1 (by omega)
            constructor
            · intro h0
              have : ¬ n < w := fun h => by have := hbw n h; simp at this; omega
              omega
            · rintro ⟨_, h2⟩
              obtain rfl : w = n := by omega
              simpa using hp
          · rw [hFa] at e; subst e
            constructor
            · intro h0; have := hbw n hn; simp at this; omega
            · rintro ⟨h1, _⟩; omega
  · show t.1 = _
    rw [h]
    have : A < st.Shelves.length := by
      rcases fnat_cases (fun a => decide (0 ≤ partner s st a)) st.Shelves.length with ⟨w, hw, e, _⟩ | ⟨e, _⟩ <;> rw [hFa] at e <;> omega
    rw [Bool.eq_iff_iff, decide_eq_true_eq, decide_eq_true_eq]; omega
  · -- all shelves lifted
    refine Jn.mk (fun l : List ApiRobot => l.length = st.Shelves.length ∧ (∀ (i : Nat), i < st.Shelves.length → ∃ r, r ∈ l ∧ r.Load = (i : Int)) ∧ ∀ r, r ∈ l → OkApiRobot r ∧ 0 ≤ r.Load ∧ r.Load < st.Shelves.length)
      (V_loopj (xs := st.Shelves) k.Shelves.1 (fun t : List ApiRobot × Int => t.2) (fun n (t : List ApiRobot × Int) => t.1.length = n ∧ (∀ (i : Nat), i < n → ∃ r, r ∈ t.1 ∧ r.Load = (i : Int)) ∧ ∀ r, r ∈ t.1 → OkApiRobot r ∧ 0 ≤ r.Load ∧ r.Load < st.Shelves.length) rfl ⟨rfl, fun i h => by omega, fun r h => by simp at h⟩ (fun n x t hx ht hI => ?_) (fun t h => h)) (fun l hl => ?_)
    · have hn := (List.getElem?_eq_some_iff.1 hx).1
      refine ⟨by rw [hI.1]; simp; omega, by show _ = _; dsimp only; rw [ht], by simp [hI.1], fun i hi => ?_, fun r hr => ?_⟩
      · by_cases e : i = n
        · subst e; exact ⟨_, List.mem_append_right _ (List.mem_singleton.2 rfl), ht⟩
        · obtain ⟨r, h1, h2⟩ := hI.2.1 i (by omega)
          exact ⟨r, List.mem_append_left _ h1, h2⟩
      · rcases List.mem_append.1 hr with hr | hr
        · exact hI.2.2 r hr
        · simp at hr; subst hr
          refine ⟨⟨i64_of (x := 0) (by decide), i64_of ?_, i64_of (x := 0) (by decide), i64_of (x := 0) (by decide), i64_of (x := 0) (by decide), trivial⟩, ?_, ?_⟩
          · show -1000000 ≤ t.2 ∧ t.2 ≤ 1000000; omega
          · show 0 ≤ t.2; omega
          · show t.2 < _; omega
    · have kl : OkApiState { st with Robots := l } := ⟨k.Tick, k.Shelves, ⟨by rw [hl.1]; exact k.Shelves.1, fun r hr => (hl.2.2 r hr).1⟩, k.People, k.Dead, k.Stuck⟩
      have hlc := carr_lift hl.2.1
      refine S_rules_Apart (st := { st with Robots := l }) ks kl hf.r.fl (by show st.Shelves.length ≤ _; omega) hf.cell ?_
      have hnone : (apartS s { st with Robots := l }).2.2 = false := by
        rw [apartS_found]
        have : ∀ a : Nat, a < st.Shelves.length → partner s { st with Robots := l } a = -1 := fun a ha => fnat_none fun b hb => by
          unfold badP; rw [hlc a ha]; simp
        have e : fnat (fun a => decide (0 ≤ partner s { st with Robots := l } a)) st.Shelves.length = -1 := fnat_none fun i hi => by rw [this i hi]; decide
        show decide (0 ≤ fnat (fun a => decide (0 ≤ partner s { st with Robots := l } a)) st.Shelves.length) = false
        rw [e]; decide
      refine Jn.mk' (Ite.t rfl (Ite.t (by rw [hA, hfound]; simp) (Ite.f hnone (S_rules_Carried kl ?_))))
      have : carr { st with Robots := l } (st.Shelves.length : Int) = -1 := by
        unfold carr
        rw [if_neg (by omega)]
        rcases fidx_cases (fun r : ApiRobot => r.Load == (st.Shelves.length : Int)) l with ⟨i, r, hr, e, hp, _⟩ | ⟨e, _⟩
        · have := (hl.2.2 r (List.mem_of_getElem? hr)).2.2
          simp at hp; omega
        · exact e
      rw [this]; decide
end Go.Taq
