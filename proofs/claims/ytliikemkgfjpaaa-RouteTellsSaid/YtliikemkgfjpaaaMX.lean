/- The mathematics, part X: the reference of the route finds the least of the fastest walks, too. -/
import Derived.Test.YtliikemkgfjpaaaMW
set_option linter.unusedVariables false
namespace Go.Taq
open Go
section
variable {s : ApiSite} {a b tick : Int} {taken : List ApiTaken} {avoid : List Int}
theorem S_ref23_Find (k : OkApiSite s) (h : RSite s) (hav : avoid.length ≤ maxLen) (hl : taken.length ≤ maxLen) {most : Int} {post : List Int × Int → Prop}
    (h1 : (rightR s a b tick = false ∨ most < 0) → post ([], 1)) (h2 : rightR s a b tick = true → most > 300 → post ([], 27))
    (h3 : rightR s a b tick = true → 0 ≤ most → most ≤ 300 → (∀ v, GoodW s a b tick taken avoid v → most < v.length) → post ([], 14))
    (h4 : rightR s a b tick = true → 0 ≤ most → most ≤ 300 → ∀ r, GoodW s a b tick taken avoid r → (r.length : Int) ≤ most → (∀ v, GoodW s a b tick taken avoid v → r.length ≤ v.length ∧ (v.length = r.length → v = r ∨ LexLt r v)) → post (r, 0)) :
    V_taquinref23_Find s a b tick taken avoid most post := by
  unfold V_taquinref23_Find
  refine Jn.eq (!rightR s a b tick || decide (most < 0)) (S_ref23_right h.fl (Ite.mk (fun e => by rw [e]; rfl) (fun e => by rw [e]; rfl))) (Ite.mk (fun e => ?_) (fun e => Ite.mk (fun e2 => ?_) (fun e2 => ?_)))
  · simp only [Bool.or_eq_true, Bool.not_eq_true', decide_eq_true_eq] at e; exact h1 e
  · simp only [Bool.or_eq_false_iff, Bool.not_eq_false', decide_eq_false_iff_not] at e
    simp only [decide_eq_true_eq] at e2
    exact h2 e.1 e2
  · simp only [Bool.or_eq_false_iff, Bool.not_eq_false', decide_eq_false_iff_not] at e
    simp only [decide_eq_false_iff_not] at e2
    obtain ⟨hr, e⟩ := e
    have hr' := hr
    simp only [rightR, Bool.and_eq_true, decide_eq_true_eq] at hr'
    have ht : 0 ≤ tick ∧ tick ≤ 20000 := hr'.2
    have ha : isC s.Floor a = true := hr'.1.1.1
    have hRS := h.rs
    refine S_ref23_slowest k (S_ref07_Size h.fl ?_)
    have hW := slowF_bd hRS
    have hn := h.fl.len.1
    have aC := isC_iff.1 ha
    have restR : ∀ {i : Nat} {q : Int × Int}, Rch s a tick taken avoid i q → isC s.Floor q.1 = true ∧ 0 ≤ q.2 ∧ q.2 < slowF s := fun hq => Rch.rest hRS ha hq
    have stepW : ∀ {t : Int} {q p : Int × Int} {act : Int}, (isC s.Floor q.1 = true ∧ 0 ≤ q.2 ∧ q.2 < slowF s) → stepF s taken avoid t q act = (p, 0) → isC s.Floor p.1 = true ∧ 0 ≤ p.2 ∧ p.2 < slowF s := fun hq he => step_rest hRS hq he
    generalize slowF s = W at hW restR stepW ⊢
    have hW2 : 1 ≤ W ∧ W ≤ 100 := ⟨hW.1, hW.2.1⟩
    obtain ⟨sz1, sz2, sz3, sz4⟩ := size_bd hn hW2
    simp only [sz1, sz4]
    generalize hNe : s.Floor.Kind.length * W.toNat = N at sz4 ⊢
    have hNi : ((s.Floor.Kind.length : Int) * W) = (N : Int) := by omega
    rw [hNi] at sz2 sz3 ⊢
    have decB : ∀ {i : Nat}, i < N → isC s.Floor (dec W i).1 = true ∧ 0 ≤ (dec W i).2 ∧ (dec W i).2 < W ∧ w64 ((i : Int).tdiv W) = (dec W i).1 ∧ (i : Int).tmod W = (dec W i).2 := fun {i} hi => by
      obtain ⟨d1, d2, d3, d4, d5, d6⟩ := dec_bd hn hW2 (i := i) (by rw [hNe]; exact hi)
      exact ⟨isC_iff.2 ⟨d1, d2⟩, d3, d4, d5, d6⟩
    have plB : ∀ {c r : Int}, isC s.Floor c = true → 0 ≤ r ∧ r < W → w64 (w64 (c * W) + r) = c * W + r ∧ 0 ≤ c * W + r ∧ (c * W + r).toNat < N := fun {c r} hc hr => by
      obtain ⟨d1, d2, d3, d4, d5⟩ := place_bd hn hW2 (isC_iff.1 hc) hr
      exact ⟨d1, d3, by rw [← hNe]; exact d5⟩
    have plDec : ∀ {c r : Int}, isC s.Floor c = true → 0 ≤ r ∧ r < W → dec W (c * W + r).toNat = (c, r) := fun {c r} hc hr =>
      (dec_of hW2.1 (isC_iff.1 hc).1 hr).1 (by have := (plB hc hr).2.1; omega)
    have toDec : ∀ {q : Int × Int}, (isC s.Floor q.1 = true ∧ 0 ≤ q.2 ∧ q.2 < W) → ∃ m : Nat, m < N ∧ dec W m = q := fun {q} hq =>
      ⟨_, (plB (r := q.2) hq.1 hq.2).2.2, plDec hq.1 hq.2⟩
    have hNm : N ≤ maxLen := by simp [maxLen]; omega
    have hold : ∀ {c : Int} {i : Nat} {post : Bool → Prop}, i ≤ 302 → post (heldT taken c (tick + i)) → V_taquinref23_Taken taken c (w64 (tick + (i : Int))) post := fun {c i post} hi hp => by
      rw [w64_eq (by omega) (by omega)]; exact S_ref23_Taken hl hp
    refine ⟨⟨sz2, by omega⟩, ?_⟩
    obtain ⟨p1, p2, p3⟩ := plB (r := 0) ha (by omega)
    have p0 : w64 (a * W) = a * W := by
      have := (place_bd (r := 0) hn hW2 aC (by omega)).2.1; exact this
    have pN : (a * W).toNat < N := by simpa using p3
    have pge : 0 ≤ a * W := by simpa using p2
    rw [p0]
    refine ⟨_, idx_get pge (by simp; omega), ?_⟩
    refine Jn.mk (fun t => ∃ L : Nat, t.2 = (L : Int) ∧ (L : Int) ≤ most ∧ t.1.length = L + 2 ∧ (∀ (j : Nat) m, t.1[j]? = some m → IsArr N W m (Rch s a tick taken avoid j)) ∧ (∃ q, Rch s a tick taken avoid L q ∧ Goal b tick taken L q) ∧ (∀ (j : Nat) q, j < L → Rch s a tick taken avoid j q → ¬ Goal b tick taken j q))
      (Loop.inv (most.toNat + 1) (fun i (t : List (List Bool) × Int × Int) => t.2.2 = (i : Int) ∧ (∀ (j : Nat) m, t.1[j]? = some m → IsArr N W m (Rch s a tick taken avoid j)) ∧ ((t.2.1 = -1 ∧ (i : Int) ≤ most ∧ t.1.length = i + 1 ∧ (∀ (j : Nat) q, j < i → Rch s a tick taken avoid j q → ¬ Goal b tick taken j q)) ∨
        ∃ L : Nat, t.2.1 = (L : Int) ∧ i = L + 1 ∧ (L : Int) ≤ most ∧ t.1.length = L + 2 ∧ (∃ q, Rch s a tick taken avoid L q ∧ Goal b tick taken L q) ∧ (∀ (j : Nat) q, j < L → Rch s a tick taken avoid j q → ¬ Goal b tick taken j q)))
        ⟨rfl, fun j m hj => ?_, .inl ⟨rfl, by simp; omega, rfl, fun j q hj => by omega⟩⟩ (fun i t hi hI => ?_) (fun t hI => ?_)) ?_
    · have : j = 0 := by have := (List.getElem?_eq_some_iff.1 hj).1; simp at this; omega
      subst this
      simp only [List.getElem?_cons_zero, Option.some.injEq] at hj
      subst hj
      have := (IsArr.empty (N := N) (W := W)).put (c := a) (r := 0) hW2.1 aC.1 (by omega)
      rw [Int.add_zero] at this
      refine this.cong (fun i hi => ?_)
      simp [Rch]
    · obtain ⟨layers, long, kk⟩ := t
      obtain ⟨e3, harr, hI⟩ := hI
      simp only at e3 harr hI
      subst e3
      rcases hI with ⟨rfl, hi2, hlen, hng⟩ | ⟨L, rfl, rfl, hL, hlen, hgoal, hng⟩
      · refine Ite.t rfl ?_
        have hx : layers[i]? = some (layers[i]'(by omega)) := List.getElem?_eq_getElem _
        generalize layers[i]'(by omega) = now at hx
        have hnow := harr i now hx
        have getN : ∀ {j : Nat}, j < N → ∃ bit, idx now (j : Int) = some bit ∧ (bit = true ↔ Rch s a tick taken avoid i (dec W j)) := fun {j} hj => by
          have hj' : now[j]? = some (now[j]'(by rw [hnow.1]; exact hj)) := List.getElem?_eq_getElem _
          exact ⟨_, idx_of rfl hj', hnow.2 j _ hj'⟩
        refine Jn.mk (fun t => t.1.length = i + 2 ∧ (∀ (j : Nat) m, t.1[j]? = some m → IsArr N W m (Rch s a tick taken avoid j)) ∧ ((t.2 = -1 ∧ (i : Int) < most ∧ ∀ q, Rch s a tick taken avoid i q → ¬ Goal b tick taken i q) ∨ (t.2 = (i : Int) ∧ ∃ q, Rch s a tick taken avoid i q ∧ Goal b tick taken i q))) ⟨now, idx_of rfl hx, ⟨sz2, by omega⟩, ?_⟩ (fun t ht => ?_)
        · refine Jn.mk (fun t => IsArr N W t.2 (Rch s a tick taken avoid (i + 1)) ∧ ((t.1 = -1 ∧ ∀ q, Rch s a tick taken avoid i q → ¬ Goal b tick taken i q) ∨ (t.1 = (i : Int) ∧ ∃ q, Rch s a tick taken avoid i q ∧ Goal b tick taken i q)))
            (Loop.inv N (fun j (t : Int × List Bool × Int) => t.2.2 = (j : Int) ∧ IsArr N W t.2.1 (fun p => ∃ m : Nat, m < j ∧ Rch s a tick taken avoid i (dec W m) ∧ ∃ act, 0 ≤ act ∧ act < 7 ∧ stepF s taken avoid (tick + i) (dec W m) act = (p, 0)) ∧
              ((t.1 = -1 ∧ ∀ m : Nat, m < j → Rch s a tick taken avoid i (dec W m) → ¬ Goal b tick taken i (dec W m)) ∨ (t.1 = (i : Int) ∧ ∃ q, Rch s a tick taken avoid i q ∧ Goal b tick taken i q)))
              ⟨rfl, IsArr.empty.cong (fun m _ => by simp), .inl ⟨rfl, fun m hm => by omega⟩⟩ (fun j t hj hJ => ?_) (fun t hJ => ?_)) (fun t ht => ?_)
          · obtain ⟨long, next, jj⟩ := t
            obtain ⟨e5, hnx, hlg⟩ := hJ
            simp only at e5 hnx hlg
            subst e5
            obtain ⟨bit, hbit, hbs⟩ := getN hj
            obtain ⟨d1, d2, d3, d4, d5⟩ := decB hj
            refine Ite.lt (by simp only []; omega) ?_
            refine Jn.mk (fun t => IsArr N W t.2 (fun p => ∃ m : Nat, m < j + 1 ∧ Rch s a tick taken avoid i (dec W m) ∧ ∃ act, 0 ≤ act ∧ act < 7 ∧ stepF s taken avoid (tick + i) (dec W m) act = (p, 0)) ∧
              ((t.1 = -1 ∧ ∀ m : Nat, m < j + 1 → Rch s a tick taken avoid i (dec W m) → ¬ Goal b tick taken i (dec W m)) ∨ (t.1 = (i : Int) ∧ ∃ q, Rch s a tick taken avoid i q ∧ Goal b tick taken i q))) ?_ (fun t ht => ⟨w64_nat hj hNm, ht.1, ht.2⟩)
            refine Jn.eq (bit && ((dec W j).1 == b && !heldT taken b (tick + i))) ⟨bit, hbit, Ite.mk (fun g => ⟨by omega, ?_⟩) (fun g => by simp [g])⟩ ?_
            · rw [d4]
              refine Ite.mk (fun g2 => hold (by omega) ?_) (fun g2 => ?_)
              · simp [g, g2]
              · simp [g, g2]
            refine Jn.eq (if (bit && ((dec W j).1 == b && !heldT taken b (tick + i))) = true then (i : Int) else long) (Ite.mk (fun g => by simp only [g, if_true]) (fun g => by simp only [g]; rfl)) ?_
            refine Jn.mk (fun nx => IsArr N W nx (fun p => ∃ m : Nat, m < j + 1 ∧ Rch s a tick taken avoid i (dec W m) ∧ ∃ act, 0 ≤ act ∧ act < 7 ∧ stepF s taken avoid (tick + i) (dec W m) act = (p, 0))) ?_ (fun nx hnx' => ⟨hnx', ?_⟩)
            · have fin : ∀ {c : Nat} {nx : List Bool}, (bit = true → c = 7) → IsArr N W nx (fun p => (∃ m : Nat, m < j ∧ Rch s a tick taken avoid i (dec W m) ∧ ∃ act, 0 ≤ act ∧ act < 7 ∧ stepF s taken avoid (tick + i) (dec W m) act = (p, 0)) ∨ (bit = true ∧ ∃ act, 0 ≤ act ∧ act < (c : Int) ∧ stepF s taken avoid (tick + i) (dec W j) act = (p, 0))) →
                  IsArr N W nx (fun p => ∃ m : Nat, m < j + 1 ∧ Rch s a tick taken avoid i (dec W m) ∧ ∃ act, 0 ≤ act ∧ act < 7 ∧ stepF s taken avoid (tick + i) (dec W m) act = (p, 0)) := fun {c nx} hc hA => hA.cong (fun x _ => by
                constructor
                · rintro (⟨m, m1, m2, m3⟩ | ⟨g, act, a0, a1, a2⟩)
                  · exact ⟨m, by omega, m2, m3⟩
                  · have := hc g
                    exact ⟨j, by omega, hbs.1 g, act, a0, by omega, a2⟩
                · rintro ⟨m, m1, m2, act, a0, a1, a2⟩
                  by_cases e : m = j
                  · subst e
                    have g := hbs.2 m2
                    have := hc g
                    exact .inr ⟨g, act, a0, by omega, a2⟩
                  · exact .inl ⟨m, by omega, m2, act, a0, a1, a2⟩)
              refine Loop.inv 7 (fun c (t : List Bool × Int) => t.2 = (c : Int) ∧ IsArr N W t.1 (fun p => (∃ m : Nat, m < j ∧ Rch s a tick taken avoid i (dec W m) ∧ ∃ act, 0 ≤ act ∧ act < 7 ∧ stepF s taken avoid (tick + i) (dec W m) act = (p, 0)) ∨ (bit = true ∧ ∃ act, 0 ≤ act ∧ act < (c : Int) ∧ stepF s taken avoid (tick + i) (dec W j) act = (p, 0))))
                ⟨rfl, hnx.cong (fun x _ => ⟨.inl, fun hh => hh.elim id (fun ⟨_, act, a0, a1, _⟩ => by simp at a1; omega)⟩)⟩ (fun c t hc hI => ?_) (fun t hI => ?_)
              · obtain ⟨nx, act⟩ := t
                obtain ⟨e6, hA⟩ := hI
                simp only at e6 hA
                subst e6
                refine Jn.eq bit (Ite.lt (by simp only []; omega) ⟨bit, hbit, rfl⟩) (Ite.mk (fun g => ?_) (fun g => ?_))
                · refine Jn.mk' ⟨by omega, by omega, ?_⟩
                  simp only [d4, d5]
                  rw [w64_eq (x := tick + _) (by omega) (by omega)]
                  refine S_ref23_step k h hav hl (q := ⟨(dec W j).1, (dec W j).2⟩) ⟨d1, d2, by simp only []; omega⟩ (by omega) ?_
                  generalize hst : stepF s taken avoid (tick + i) ((dec W j).1, (dec W j).2) (c : Int) = st
                  have hst' : stepF s taken avoid (tick + i) (dec W j) (c : Int) = st := hst
                  obtain ⟨⟨pc, pr⟩, pe⟩ := st
                  simp only []
                  refine Jn.mk (fun nx => IsArr N W nx (fun p => (∃ m : Nat, m < j ∧ Rch s a tick taken avoid i (dec W m) ∧ ∃ act, 0 ≤ act ∧ act < 7 ∧ stepF s taken avoid (tick + i) (dec W m) act = (p, 0)) ∨ (bit = true ∧ ∃ act, 0 ≤ act ∧ act < ((c + 1 : Nat) : Int) ∧ stepF s taken avoid (tick + i) (dec W j) act = (p, 0)))) (Ite.mk (fun g2 => ?_) (fun g2 => ?_)) (fun nx hnx => ⟨w64_nat (n := 7) hc (by simp [maxLen]), hnx⟩)
                  · simp at g2; subst g2
                    obtain ⟨w1, w2, w3⟩ := stepW ⟨d1, d2, d3⟩ hst'
                    obtain ⟨q1, q2, q3⟩ := plB w1 ⟨w2, w3⟩
                    simp only at q1 q2 q3 w1 w2 w3
                    rw [q1]
                    refine ⟨_, idx_get q2 (by rw [hA.1]; omega), (hA.put hW2.1 (isC_iff.1 w1).1 ⟨w2, w3⟩).cong (fun x _ => ?_)⟩
                    constructor
                    · rintro ((e7 | ⟨e7, act, a0, a1, a2⟩) | e7)
                      · exact .inl e7
                      · exact .inr ⟨e7, act, a0, by omega, a2⟩
                      · exact .inr ⟨g, c, by omega, by omega, by rw [hst', e7]⟩
                    · rintro (e7 | ⟨e7, act, a0, a1, a2⟩)
                      · exact .inl (.inl e7)
                      · by_cases e8 : act = c
                        · subst e8; rw [hst'] at a2
                          simp only [Prod.mk.injEq, and_true] at a2
                          exact .inr a2.symm
                        · exact .inl (.inr ⟨e7, act, a0, by omega, a2⟩)
                  · simp at g2
                    refine hA.cong (fun x _ => ?_)
                    constructor
                    · rintro (e7 | ⟨e7, act, a0, a1, a2⟩)
                      · exact .inl e7
                      · exact .inr ⟨e7, act, a0, by omega, a2⟩
                    · rintro (e7 | ⟨e7, act, a0, a1, a2⟩)
                      · exact .inl e7
                      · by_cases e8 : act = c
                        · subst e8; rw [hst'] at a2
                          simp only [Prod.mk.injEq] at a2
                          exact absurd a2.2 g2
                        · exact .inr ⟨e7, act, a0, by omega, a2⟩
                · exact fin (fun g' => by rw [g] at g'; cases g') hA
              · obtain ⟨nx, act⟩ := t
                obtain ⟨e6, hA⟩ := hI
                simp only at e6 hA
                subst e6
                exact Jn.eq false (Ite.nlt (by simp) rfl) (Ite.f rfl (fin (fun _ => rfl) hA))
            · by_cases g : (bit && ((dec W j).1 == b && !heldT taken b (tick + i))) = true
              · rw [if_pos g]
                simp only [Bool.and_eq_true, beq_iff_eq, Bool.not_eq_true'] at g
                exact .inr ⟨rfl, dec W j, hbs.1 g.1, g.2⟩
              · rw [if_neg g]
                simp only [Bool.and_eq_true, beq_iff_eq, Bool.not_eq_true'] at g
                rcases hlg with ⟨l1, l2⟩ | l1
                · refine .inl ⟨l1, fun m hm hR hG => ?_⟩
                  by_cases e : m = j
                  · subst e; exact g ⟨hbs.2 hR, hG⟩
                  · exact l2 m (by omega) hR hG
                · exact .inr l1
          · obtain ⟨long, next, jj⟩ := t
            obtain ⟨e5, hnx, hlg⟩ := hJ
            simp only at e5 hnx hlg
            subst e5
            refine Ite.nlt (by simp) ⟨hnx.cong (fun x _ => ?_), ?_⟩
            · constructor
              · rintro ⟨m, m1, m2, act, a0, a1, a2⟩
                exact ⟨dec W m, act, m2, a0, a1, a2⟩
              · rintro ⟨q, act, m2, a0, a1, a2⟩
                obtain ⟨m, m1, rfl⟩ := toDec (restR m2)
                exact ⟨m, m1, m2, act, a0, a1, a2⟩
            · rcases hlg with ⟨l1, l2⟩ | l1
              · refine .inl ⟨l1, fun q hq => ?_⟩
                obtain ⟨m, m1, rfl⟩ := toDec (restR hq)
                exact l2 m m1 hq
              · exact .inr l1
          · obtain ⟨long, next⟩ := t
            obtain ⟨hnx, hlg⟩ := ht
            simp only at hnx hlg
            refine Jand2 (Ite.mk (fun g => ?_) (fun g => ⟨by simp; omega, by simp [hlen], fun j m hj => ?_, ?_⟩))
            · simp only [Bool.and_eq_true, decide_eq_true_eq, beq_iff_eq] at g
              refine h3 hr (by omega) (by omega) (fun v hv => Int.lt_of_not_ge (fun hle => ?_))
              have hR := runF_rch (s := s) (a := a) (tick := tick) (taken := taken) (avoid := avoid) v hv.1 hv.2.1
              rcases hlg with ⟨l1, l2⟩ | ⟨l1, _⟩
              · by_cases e : v.length = i
                · exact l2 _ (e ▸ hR) (e ▸ hv.2.2)
                · exact hng v.length _ (by omega) hR hv.2.2
              · omega
            · by_cases e1 : j < layers.length
              · rw [List.getElem?_append_left e1] at hj; exact harr j m hj
              · have := (List.getElem?_eq_some_iff.1 hj).1
                simp at this
                have : j = layers.length := by omega
                subst this
                rw [List.getElem?_append_right (Nat.le_refl _)] at hj
                simp at hj; subst hj
                rw [hlen]; exact hnx
            · simp only [Bool.and_eq_false_iff, decide_eq_false_iff_not, beq_eq_false_iff_ne] at g
              rcases hlg with ⟨l1, l2⟩ | l1
              · exact .inl ⟨l1, by omega, l2⟩
              · exact .inr l1
        · obtain ⟨lay, long⟩ := t
          obtain ⟨t1, t2, t3⟩ := ht
          simp only at t1 t2 t3
          refine ⟨w64_nat (n := 303) (by omega) (by simp [maxLen]), t2, ?_⟩
          rcases t3 with ⟨l1, l2, l3⟩ | ⟨l1, l2⟩
          · refine .inl ⟨l1, by omega, t1, fun j q hj hq => ?_⟩
            by_cases e : j = i
            · subst e; exact l3 q hq
            · exact hng j q (by omega) hq
          · exact .inr ⟨i, l1, rfl, hi2, t1, l2, hng⟩
      · refine Ite.f (by simp) ⟨L, rfl, hL, hlen, harr, hgoal, hng⟩
    · obtain ⟨layers, long, kk⟩ := t
      obtain ⟨e3, harr, hI⟩ := hI
      simp only at e3 harr hI
      subst e3
      rcases hI with ⟨rfl, hi2, hlen, hng⟩ | ⟨L, rfl, e4, hL, hlen, hgoal, hng⟩
      · omega
      · exact Ite.f (by simp) ⟨L, rfl, hL, hlen, harr, hgoal, hng⟩
    · rintro ⟨layers, long⟩ ⟨L, e3, hL, hlen, harr, ⟨qg, hqg, hqb⟩, hng⟩
      simp only at e3 hlen harr
      subst e3
      have hL3 : L ≤ 300 := by omega
      have e4 : w64 ((L : Int) + 1) = ((L + 1 : Nat) : Int) := w64_nat (n := 302) (by omega) (by simp [maxLen])
      simp only [e4]
      refine ⟨⟨by omega, by omega⟩, ?_⟩
      refine Jn.mk (fun good => good.length = L + 1 ∧ ∀ (i : Nat) m, good[i]? = some m → IsArr N W m (On_ s a b tick taken avoid L i))
        (Loop.inv (L + 1) (fun j (t : List (List Bool) × Int) => t.2 = (L : Int) - j ∧ t.1.length = L + 1 ∧ ∀ (i : Nat) m, (L : Int) - j < i → t.1[i]? = some m → IsArr N W m (On_ s a b tick taken avoid L i))
          ⟨by simp, by simp, fun i m hi hm => ?_⟩ (fun j t hj hI => ?_) (fun t hI => ?_)) ?_
      · have := (List.getElem?_eq_some_iff.1 hm).1
        simp at this hi; omega
      · obtain ⟨good, kk⟩ := t
        obtain ⟨e5, hgl, hgo⟩ := hI
        simp only at e5 hgl hgo
        obtain ⟨n, hn'⟩ : ∃ n : Nat, (n : Int) = (L : Int) - j := ⟨L - j, by omega⟩
        rw [← hn'] at e5 hgo
        subst e5
        have hnL : n ≤ L := by omega
        have hln : layers[n]? = some (layers[n]'(by omega)) := List.getElem?_eq_getElem _
        generalize layers[n]'(by omega) = lay at hln
        have hlay := harr n lay hln
        have getL : ∀ {x : Nat}, x < N → ∃ bit, idx lay (x : Int) = some bit ∧ (bit = true ↔ Rch s a tick taken avoid n (dec W x)) := fun {x} hx => by
          have hj' : lay[x]? = some (lay[x]'(by rw [hlay.1]; exact hx)) := List.getElem?_eq_getElem _
          exact ⟨_, idx_of rfl hj', hlay.2 x _ hj'⟩
        refine Ite.t (by simp) (Jn.mk (fun g => g.length = L + 1 ∧ ∀ (i : Nat) m, n ≤ i → g[i]? = some m → IsArr N W m (On_ s a b tick taken avoid L i)) ?_ (fun g hg => ⟨by simp only []; rw [w64_eq (by omega) (by omega)]; omega, hg.1, fun i m hi hm => hg.2 i m (by omega) hm⟩))
        refine ⟨⟨sz2, by omega⟩, _, idx_get (by simp) (by simp only []; omega), ?_⟩
        simp only [Int.toNat_natCast]
        have inv : ∀ (P : Nat → Prop) (Q : Nat → Bool → Prop) (G : List (List Bool)), True := fun _ _ _ => trivial
        refine Jn.mk (fun g => g.length = L + 1 ∧ ∀ (i : Nat) m, n ≤ i → g[i]? = some m → IsArr N W m (On_ s a b tick taken avoid L i))
          (Loop.inv N (fun j (t : List (List Bool) × Int) => t.2 = (j : Int) ∧ t.1.length = L + 1 ∧ (∀ (i : Nat) m, n < i → t.1[i]? = some m → IsArr N W m (On_ s a b tick taken avoid L i)) ∧ ∃ m, t.1[n]? = some m ∧ m.length = N ∧ ∀ (x : Nat) bit, m[x]? = some bit → (bit = true ↔ x < j ∧ On_ s a b tick taken avoid L n (dec W x)))
            ⟨rfl, by simp [hgl], fun i m hi hm => ?_, List.replicate N false, ?_, by simp, fun x bit hb => ?_⟩ (fun y t hy hJ => ?_) (fun t hJ => ?_)) (fun g hg => hg)
        · rw [List.getElem?_set_ne (by omega)] at hm
          exact hgo i m (by omega) hm
        · rw [List.getElem?_set_self (by omega)]
        · obtain ⟨h1, h2⟩ := List.getElem?_eq_some_iff.1 hb
          simp at h2; subst h2; simp
        · obtain ⟨G, yy⟩ := t
          obtain ⟨e6, gl, gabove, m, gm, ml, mb⟩ := hJ
          simp only at e6 gl gabove gm ml mb
          subst e6
          obtain ⟨bit, hbit, hbs⟩ := getL hy
          obtain ⟨d1, d2, d3, d4, d5⟩ := decB hy
          refine Ite.lt (by simp only []; omega) (Jn.mk (fun G => G.length = L + 1 ∧ (∀ (i : Nat) m, n < i → G[i]? = some m → IsArr N W m (On_ s a b tick taken avoid L i)) ∧ ∃ m, G[n]? = some m ∧ m.length = N ∧ ∀ (x : Nat) bit, m[x]? = some bit → (bit = true ↔ x < y + 1 ∧ On_ s a b tick taken avoid L n (dec W x))) ?_ (fun G hG => ⟨w64_nat hy hNm, hG⟩))
          have hset : ∀ v : Bool, (v = true ↔ On_ s a b tick taken avoid L n (dec W y)) → (G.set n (m.set y v)).length = L + 1 ∧ (∀ (i : Nat) m', n < i → (G.set n (m.set y v))[i]? = some m' → IsArr N W m' (On_ s a b tick taken avoid L i)) ∧ ∃ m', (G.set n (m.set y v))[n]? = some m' ∧ m'.length = N ∧ ∀ (x : Nat) bit, m'[x]? = some bit → (bit = true ↔ x < y + 1 ∧ On_ s a b tick taken avoid L n (dec W x)) := fun v hv => by
            refine ⟨by simp [gl], fun i m' hi hm' => ?_, m.set y v, List.getElem?_set_self (by omega), by simp [ml], fun x bit hb => ?_⟩
            · rw [List.getElem?_set_ne (by omega)] at hm'; exact gabove i m' hi hm'
            · rw [List.getElem?_set] at hb
              split at hb
              · rename_i e; subst e
                split at hb
                · cases hb; rw [hv]; simp
                · cases hb
              · rename_i e
                rw [mb x bit hb]
                constructor
                · rintro ⟨q1, q2⟩; exact ⟨by omega, q2⟩
                · rintro ⟨q1, q2⟩; exact ⟨by omega, q2⟩
          have hmy : ∃ z, idx m (y : Int) = some z := ⟨_, idx_of rfl (List.getElem?_eq_getElem (by omega))⟩
          obtain ⟨z, hz⟩ := hmy
          refine Ite.mk (fun g => ?_) (fun g => ?_)
          · simp at g
            have hnLe : n = L := by omega
            have onL : On_ s a b tick taken avoid L n (dec W y) ↔ Rch s a tick taken avoid n (dec W y) ∧ (dec W y).1 = b := by
              unfold On_; rw [hnLe, Nat.sub_self, Lead]
            refine Jn.mk' ⟨m, idx_of rfl gm, lay, idx_of rfl hln, bit, hbit, Ite.mk (fun g2 => ⟨by omega, ?_⟩) (fun g2 => ⟨z, hz, hset false ?_⟩)⟩
            · simp only [d4]
              refine Ite.mk (fun g3 => hold (by omega) ⟨z, hz, hset _ ?_⟩) (fun g3 => ⟨z, hz, hset false ?_⟩)
              · simp at g3
                rw [onL, hnLe, hqb.2]
                rw [hnLe] at hbs
                simp [g3, hbs.1 g2]
              · simp at g3
                rw [onL]; simp [g3]
            · rw [onL, ← hbs, g2]; simp
          · simp at g
            have hnLt : n < L := by omega
            have fin : ∀ {c : Nat} {G : List (List Bool)}, (bit = true → c = 7) → (G.length = L + 1 ∧ (∀ (i : Nat) m, n < i → G[i]? = some m → IsArr N W m (On_ s a b tick taken avoid L i)) ∧ ∃ m, G[n]? = some m ∧ m.length = N ∧ ∀ (x : Nat) bit, m[x]? = some bit → (bit = true ↔ (x < y ∧ On_ s a b tick taken avoid L n (dec W x)) ∨ (x = y ∧ Rch s a tick taken avoid n (dec W y) ∧ ∃ act : Int, 0 ≤ act ∧ act < c ∧ Into s taken avoid (tick + n) (dec W y) (On_ s a b tick taken avoid L (n + 1)) act))) →
                G.length = L + 1 ∧ (∀ (i : Nat) m, n < i → G[i]? = some m → IsArr N W m (On_ s a b tick taken avoid L i)) ∧ ∃ m, G[n]? = some m ∧ m.length = N ∧ ∀ (x : Nat) bit, m[x]? = some bit → (bit = true ↔ x < y + 1 ∧ On_ s a b tick taken avoid L n (dec W x)) := fun {c G} hc hG => by
              obtain ⟨q1, q2, m', q3, q4, q5⟩ := hG
              refine ⟨q1, q2, m', q3, q4, fun x bt hb => (q5 x bt hb).trans ?_⟩
              constructor
              · rintro (⟨r1, r2⟩ | ⟨rfl, r2, act, a0, a1, a2⟩)
                · exact ⟨by omega, r2⟩
                · have := hc (hbs.2 r2)
                  exact ⟨by omega, (on_iff hnLt r2).2 ⟨act, a0, by omega, a2⟩⟩
              · rintro ⟨r1, r2⟩
                by_cases e : x = y
                · subst e
                  obtain ⟨act, a0, a1, a2⟩ := (on_iff hnLt r2.1).1 r2
                  have := hc (hbs.2 r2.1)
                  exact .inr ⟨rfl, r2.1, act, a0, by omega, a2⟩
                · exact .inl ⟨by omega, r2⟩
            refine Jn.mk' (Loop.inv 7 (fun c (t : List (List Bool) × Int) => t.2 = (c : Int) ∧ t.1.length = L + 1 ∧ (∀ (i : Nat) m, n < i → t.1[i]? = some m → IsArr N W m (On_ s a b tick taken avoid L i)) ∧ ∃ m, t.1[n]? = some m ∧ m.length = N ∧ ∀ (x : Nat) bit, m[x]? = some bit → (bit = true ↔ (x < y ∧ On_ s a b tick taken avoid L n (dec W x)) ∨ (x = y ∧ Rch s a tick taken avoid n (dec W y) ∧ ∃ act : Int, 0 ≤ act ∧ act < c ∧ Into s taken avoid (tick + n) (dec W y) (On_ s a b tick taken avoid L (n + 1)) act)))
              ⟨rfl, gl, gabove, m, gm, ml, fun x bt hb => (mb x bt hb).trans ⟨.inl, fun hh => hh.elim id (fun ⟨_, _, act, a0, a1, _⟩ => by simp at a1; omega)⟩⟩ (fun c t hc hI => ?_) (fun t hI => ?_))
            · obtain ⟨G', act⟩ := t
              obtain ⟨e7, hG'⟩ := hI
              simp only at e7 hG'
              subst e7
              refine Jn.eq bit (Ite.lt (by simp only []; omega) ⟨lay, idx_of rfl hln, bit, hbit, rfl⟩) (Ite.mk (fun g => ?_) (fun g => fin (fun g' => by rw [g] at g'; cases g') hG'))
              refine Jn.mk' ⟨by omega, by omega, ?_⟩
              simp only [d4, d5]
              rw [w64_eq (x := tick + _) (by omega) (by omega)]
              refine S_ref23_step k h hav hl (q := ⟨(dec W y).1, (dec W y).2⟩) ⟨d1, d2, by simp only []; omega⟩ (by omega) ?_
              generalize hst : stepF s taken avoid (tick + n) ((dec W y).1, (dec W y).2) (c : Int) = st
              have hst' : stepF s taken avoid (tick + n) (dec W y) (c : Int) = st := hst
              obtain ⟨⟨pc, pr⟩, pe⟩ := st
              simp only []
              obtain ⟨q1, q2, m', q3, q4, q5⟩ := hG'
              have en : w64 ((n : Int) + 1) = ((n + 1 : Nat) : Int) := w64_nat (n := 302) (by omega) (by simp [maxLen])
              have hgn : G'[n + 1]? = some (G'[n + 1]'(by omega)) := List.getElem?_eq_getElem _
              generalize G'[n + 1]'(by omega) = gn at hgn
              have hgnA := q2 (n + 1) gn (by omega) hgn
              have hsame : G'.set (Int.toNat ((n + 1 : Nat) : Int)) gn = G' := set_idx (idx_of rfl hgn)
              rw [en]
              refine Jn.mk (fun t => t.1 = G' ∧ (t.2 = true ↔ Into s taken avoid (tick + n) (dec W y) (On_ s a b tick taken avoid L (n + 1)) (c : Int))) ⟨gn, idx_of rfl hgn, Ite.mk (fun g2 => ?_) (fun g2 => ⟨hsame, ?_⟩)⟩ (fun t ht => ?_)
              · simp at g2; subst g2
                obtain ⟨w1, w2, w3⟩ := stepW ⟨d1, d2, d3⟩ hst'
                obtain ⟨u1, u2, u3⟩ := plB w1 ⟨w2, w3⟩
                simp only at u1 u2 u3 w1 w2 w3
                rw [u1]
                have hgb : gn[(pc * W + pr).toNat]? = some (gn[(pc * W + pr).toNat]'(by rw [hgnA.1]; exact u3)) := List.getElem?_eq_getElem _
                refine ⟨_, idx_get u2 (by rw [hgnA.1]; omega), hsame, ?_⟩
                have := hgnA.2 _ _ hgb
                rw [plDec w1 ⟨w2, w3⟩] at this
                rw [this]; unfold Into; rw [hst']; simp
              · simp at g2
                unfold Into; rw [hst']; simp [g2]
              · obtain ⟨l2, fl⟩ := t
                simp only at ht
                obtain ⟨rfl, hfl⟩ := ht
                refine Jn.mk (fun G => G.length = L + 1 ∧ (∀ (i : Nat) m, n < i → G[i]? = some m → IsArr N W m (On_ s a b tick taken avoid L i)) ∧ ∃ m, G[n]? = some m ∧ m.length = N ∧ ∀ (x : Nat) bit, m[x]? = some bit → (bit = true ↔ (x < y ∧ On_ s a b tick taken avoid L n (dec W x)) ∨ (x = y ∧ Rch s a tick taken avoid n (dec W y) ∧ ∃ act : Int, 0 ≤ act ∧ act < ((c + 1 : Nat) : Int) ∧ Into s taken avoid (tick + n) (dec W y) (On_ s a b tick taken avoid L (n + 1)) act))) (Ite.mk (fun g2 => ⟨m', idx_of rfl q3, m'[y]'(by omega), idx_of rfl (List.getElem?_eq_getElem (by omega)), ?_⟩) (fun g2 => ⟨q1, q2, m', q3, q4, fun x bt hb => (q5 x bt hb).trans ?_⟩)) (fun G hG => ⟨w64_nat (n := 7) hc (by simp [maxLen]), hG⟩)
                · simp only [Int.toNat_natCast]
                  refine ⟨by simp [q1], fun i m2 hi hm2 => ?_, m'.set y true, List.getElem?_set_self (by omega), by simp [q4], fun x bt hb => ?_⟩
                  · rw [List.getElem?_set_ne (by omega)] at hm2; exact q2 i m2 hi hm2
                  · rw [List.getElem?_set] at hb
                    split at hb
                    · rename_i e; subst e
                      split at hb
                      · cases hb
                        exact ⟨fun _ => .inr ⟨rfl, hbs.1 g, c, by omega, by omega, hfl.1 g2⟩, fun _ => rfl⟩
                      · cases hb
                    · rename_i e
                      rw [q5 x bt hb]
                      constructor
                      · rintro (r1 | ⟨r1, _⟩)
                        · exact .inl r1
                        · exact absurd r1.symm e
                      · rintro (r1 | ⟨r1, _⟩)
                        · exact .inl r1
                        · exact absurd r1.symm e
                · constructor
                  · rintro (r1 | ⟨r1, r2, act, a0, a1, a2⟩)
                    · exact .inl r1
                    · exact .inr ⟨r1, r2, act, a0, by omega, a2⟩
                  · rintro (r1 | ⟨r1, r2, act, a0, a1, a2⟩)
                    · exact .inl r1
                    · by_cases e : act = c
                      · subst e; rw [hfl.2 a2] at g2; cases g2
                      · exact .inr ⟨r1, r2, act, a0, by omega, a2⟩
            · obtain ⟨G', act⟩ := t
              obtain ⟨e7, hG'⟩ := hI
              simp only at e7 hG'
              subst e7
              exact Jn.eq false (Ite.nlt (by simp) rfl) (Ite.f rfl (fin (fun _ => rfl) hG'))
        · obtain ⟨G, yy⟩ := t
          obtain ⟨e6, gl, gabove, m, gm, ml, mb⟩ := hJ
          simp only at e6 gl gabove gm ml mb
          subst e6
          refine Ite.nlt (by simp) ⟨gl, fun i m' hi hm' => ?_⟩
          by_cases e : i = n
          · subst e
            rw [gm] at hm'; cases hm'
            refine ⟨ml, fun x bt hb => (mb x bt hb).trans ⟨fun q => q.2, fun q => ⟨by have := (List.getElem?_eq_some_iff.1 hb).1; omega, q⟩⟩⟩
          · exact gabove i m' (by omega) hm'
      · obtain ⟨good, kk⟩ := t
        obtain ⟨e5, hgl, hgo⟩ := hI
        simp only at e5 hgl hgo
        subst e5
        exact Ite.f (by simp; omega) ⟨hgl, fun i m hm => hgo i m (by omega) hm⟩
      · rintro good ⟨hgl, hon⟩
        have hstart : On_ s a b tick taken avoid L 0 (a, 0) := on_zero (Nat.le_refl L) ⟨hqg, by rw [Nat.sub_self]; exact hqb.1⟩
        refine Jn.mk (fun out => out.length = L ∧ (∀ x, x ∈ out → 0 ≤ x ∧ x < 7) ∧ (∃ q, runF s taken avoid tick (a, 0) out = (q, 0) ∧ q.1 = b) ∧ ∀ v, GoodW s a b tick taken avoid v → v.length = L → v.take L = out ∨ LexLt out v)
          (Loop.inv L (fun i (t : List (List Bool) × List Int × Int × Int × Int) => t.1 = good ∧ t.2.2.2.2 = (i : Int) ∧ t.2.1.length = i ∧ (∀ x, x ∈ t.2.1 → 0 ≤ x ∧ x < 7) ∧ runF s taken avoid tick (a, 0) t.2.1 = ((t.2.2.1, t.2.2.2.1), 0) ∧ On_ s a b tick taken avoid L i (t.2.2.1, t.2.2.2.1) ∧
            ∀ v, GoodW s a b tick taken avoid v → v.length = L → v.take i = t.2.1 ∨ LexLt t.2.1 v) ⟨rfl, rfl, rfl, by simp, rfl, hstart, fun v _ _ => .inl rfl⟩ (fun n t hn hI => ?_) (fun t hI => ?_)) ?_
        · obtain ⟨g', out, c, r, kk⟩ := t
          obtain ⟨g0, g1, g3, g4, g5, g6, g7⟩ := hI
          simp only at g0 g1 g3 g4 g5 g6 g7
          subst g0; subst g1
          obtain ⟨d1, d2, d3⟩ := restR g6.1
          simp only at d1 d2 d3
          have hgn : g'[n + 1]? = some (g'[n + 1]'(by omega)) := List.getElem?_eq_getElem _
          generalize g'[n + 1]'(by omega) = gn at hgn
          have hgnA := hon (n + 1) gn hgn
          have en : w64 ((n : Int) + 1) = ((n + 1 : Nat) : Int) := w64_nat (n := 302) (by omega) (by simp [maxLen])
          have hsame : g'.set (Int.toNat ((n + 1 : Nat) : Int)) gn = g' := set_idx (idx_of rfl hgn)
          refine Ite.lt (by simp only []; omega) ?_
          refine Jn.mk (fun p => p.1 = g' ∧ ∃ act : Int, p.2.1 = out ++ [act] ∧ 0 ≤ act ∧ act < 7 ∧ Into s taken avoid (tick + n) (c, r) (On_ s a b tick taken avoid L (n + 1)) act ∧ (p.2.2.1, p.2.2.2) = (stepF s taken avoid (tick + n) (c, r) act).1 ∧ ∀ a', 0 ≤ a' → a' < act → ¬ Into s taken avoid (tick + n) (c, r) (On_ s a b tick taken avoid L (n + 1)) a')
            (Jn.mk' (Loop.inv 7 (fun i (t : List (List Bool) × Int) => t.1 = g' ∧ t.2 = (i : Int) ∧ ∀ a' : Int, 0 ≤ a' → a' < i → ¬ Into s taken avoid (tick + n) (c, r) (On_ s a b tick taken avoid L (n + 1)) a') ⟨rfl, rfl, fun a' h0 h1 => by simp at h1; omega⟩ (fun i t hi hI => ?_) (fun t hI => ?_))) ?_
          · obtain ⟨g2, act⟩ := t
            obtain ⟨e6, e7, hno⟩ := hI
            simp only at e6 e7 hno
            subst e6; subst e7
            refine Ite.lt (by simp only []; omega) ?_
            simp only [en]
            rw [w64_eq (x := tick + _) (by omega) (by omega)]
            refine S_ref23_step k h hav hl (q := ⟨c, r⟩) ⟨d1, d2, by simp only []; omega⟩ (by omega) ?_
            generalize hst : stepF s taken avoid (tick + n) (c, r) (i : Int) = st
            obtain ⟨⟨pc, pr⟩, pe⟩ := st
            simp only []
            refine Jn.mk (fun t => t.1 = g2 ∧ (t.2 = true ↔ Into s taken avoid (tick + n) (c, r) (On_ s a b tick taken avoid L (n + 1)) (i : Int))) ⟨gn, idx_of rfl hgn, Ite.mk (fun g2 => ?_) (fun g2 => ⟨hsame, ?_⟩)⟩ (fun t ht => ?_)
            · simp at g2; subst g2
              obtain ⟨w1, w2, w3⟩ := stepW ⟨d1, d2, d3⟩ hst
              obtain ⟨u1, u2, u3⟩ := plB w1 ⟨w2, w3⟩
              simp only at u1 u2 u3 w1 w2 w3
              rw [u1]
              have hgb : gn[(pc * W + pr).toNat]? = some (gn[(pc * W + pr).toNat]'(by rw [hgnA.1]; exact u3)) := List.getElem?_eq_getElem _
              refine ⟨_, idx_get u2 (by rw [hgnA.1]; omega), hsame, ?_⟩
              have := hgnA.2 _ _ hgb
              rw [plDec w1 ⟨w2, w3⟩] at this
              rw [this]; unfold Into; rw [hst]; simp
            · simp at g2
              unfold Into; rw [hst]; simp [g2]
            · obtain ⟨l2, fl⟩ := t
              simp only at ht
              obtain ⟨rfl, hfl⟩ := ht
              refine Ite.mk (fun g8 => ⟨by simp; omega, rfl, (i : Int), rfl, by omega, by omega, hfl.1 g8, by rw [hst], hno⟩) (fun g8 => ⟨rfl, w64_nat (n := 7) hi (by simp [maxLen]), fun a' h0 h1 => ?_⟩)
              by_cases e : a' = i
              · subst e; exact fun e9 => by rw [hfl.2 e9] at g8; cases g8
              · exact hno a' h0 (by omega)
          · obtain ⟨g2, act⟩ := t
            obtain ⟨e6, e7, hno⟩ := hI
            simp only at e6 e7 hno
            subst e6; subst e7
            obtain ⟨act, b0, b1, b2⟩ := (on_iff hn g6.1).1 g6
            exact absurd b2 (hno act b0 (by omega))
          · rintro ⟨l2, out', c', r'⟩ ⟨f0, act, f00, f1, f2, f3, f4, f5⟩
            simp only at f0 f00 f1 f2 f3 f4 f5
            subst f0; subst f00
            refine ⟨rfl, w64_nat (n := 302) (by omega) (by simp [maxLen]), by simp [g3], fun x hx => ?_, ?_, ?_, fun v hv hvl => ?_⟩
            · rcases List.mem_append.1 hx with hx | hx
              · exact g4 x hx
              · simp at hx; omega
            · rw [runF_app out [act] (by rw [g5]), g5, g3]
              rw [runF, if_pos f3.1, runF, f4]
            · simp only []
              rw [f4]; exact f3.2
            · rcases g7 v hv hvl with g8 | g8
              · have hx : v[n]? = some (v[n]'(by omega)) := List.getElem?_eq_getElem _
                have hxm := hv.1 _ (List.getElem_mem (l := v) (n := n) (by omega))
                generalize v[n]'(by omega) = x at hx hxm
                obtain ⟨r1, r2, r3⟩ := run_at hv.1 hv.2.1 hx
                rw [g8, g5] at r3
                simp only at r3
                have hInto : Into s taken avoid (tick + n) (c, r) (On_ s a b tick taken avoid L (n + 1)) x := by
                  have := good_on hv hvl (L - (n + 1)) (n + 1) (by omega)
                  unfold Into; rw [r3]; exact ⟨rfl, this⟩
                have hle : act ≤ x := Int.le_of_not_gt (fun hgt => f5 x hxm.1 hgt hInto)
                by_cases hxe : x = act
                · left; simp only []; rw [List.take_add_one, hx, g8, hxe]; rfl
                · right
                  refine ⟨n, act, x, ?_, ?_, hx, by omega⟩
                  · simp only []; rw [List.take_append_of_le_length (by omega), g8, List.take_of_length_le (by omega)]
                  · simp only []; rw [List.getElem?_append_right (by omega), g3]; simp
              · right; exact g8.app _
        · obtain ⟨g', out, c, r, kk⟩ := t
          obtain ⟨g0, g1, g3, g4, g5, g6, g7⟩ := hI
          simp only at g0 g1 g3 g4 g5 g6 g7
          subst g0; subst g1
          have hb := g6.2
          rw [Nat.sub_self] at hb
          exact Ite.nlt (by simp) ⟨g3, g4, ⟨_, g5, hb⟩, g7⟩
        · rintro out ⟨f1, f2, ⟨q, f3, f4⟩, f5⟩
          refine h4 hr (by omega) (by omega) out ⟨f2, by rw [f3], by rw [f3, f1]; exact ⟨f4, hqb.2⟩⟩ (by omega) (fun v hv => ?_)
          refine ⟨?_, fun hvl => ?_⟩
          · rw [f1]
            refine Nat.le_of_not_lt (fun hlt => ?_)
            exact hng v.length _ hlt (runF_rch v hv.1 hv.2.1) hv.2.2
          · rcases f5 v hv (by omega) with f6 | f6
            · left; rw [← f6, List.take_of_length_le (by omega)]
            · right; exact f6
end
end Go.Taq
