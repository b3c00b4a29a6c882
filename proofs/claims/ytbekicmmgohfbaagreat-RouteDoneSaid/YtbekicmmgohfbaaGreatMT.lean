/- The mathematics, several parts in one text. -/
import Derived.Test.YtbekicmmgohfbaaGreatMH
import Derived.Test.YtbekicmmgohfbaaGreatMD
/- The mathematics, part I: the search, whole: what it returns is the least of the fastest walks. -/
set_option linter.unusedVariables false
namespace Go.Taq
open Go
theorem isSet_set {κ : Type} [DecidableEq κ] {l : List (List (κ × Bool))} {F : Nat → κ → Prop} {i : Nat} {m : List (κ × Bool)} {S : κ → Prop} (h : ∀ (j : Nat) m, l[j]? = some m → IsSet m (F j)) (hm : IsSet m S) : ∀ (j : Nat) m', (l.set i m)[j]? = some m' → IsSet m' (if j = i then S else F j) := fun j m' hj => by
  rw [List.getElem?_set] at hj
  by_cases e : i = j
  · subst e
    rw [if_pos rfl] at hj
    split at hj
    · cases hj; rw [if_pos rfl]; exact hm
    · cases hj
  · rw [if_neg e] at hj
    rw [if_neg (fun e' => e e'.symm)]; exact h j m' hj
/-- u comes before v -/
def LexLt (u v : List Int) : Prop := ∃ (j : Nat) (x y : Int), u.take j = v.take j ∧ u[j]? = some x ∧ v[j]? = some y ∧ x < y
section
variable {s : ApiSite} {a b tick : Int} {taken : List ApiTaken} {avoid : List Int}
/-- a good walk -/
def GoodW (s : ApiSite) (a b tick : Int) (taken : List ApiTaken) (avoid : List Int) (v : List Int) : Prop :=
  (∀ x, x ∈ v → 0 ≤ x ∧ x < 7) ∧ (runF s taken avoid tick (a, 0) v).2 = 0 ∧ Goal b tick taken v.length (runF s taken avoid tick (a, 0) v).1
theorem runF_app : ∀ (u v : List Int) {t : Int} {q : Int × Int}, (runF s taken avoid t q u).2 = 0 → runF s taken avoid t q (u ++ v) = runF s taken avoid (t + u.length) (runF s taken avoid t q u).1 v
  | [], v, t, q, _ => by simp [runF]
  | x :: u, v, t, q, h => by
    rw [runF] at h
    rw [List.cons_append, runF, runF]
    split at h
    · rename_i e
      rw [if_pos e, if_pos e, runF_app u v h]
      congr 1
      simp; omega
    · rename_i e; exact absurd h e
theorem runF_pre : ∀ (u v : List Int) {t : Int} {q : Int × Int}, (runF s taken avoid t q (u ++ v)).2 = 0 → (runF s taken avoid t q u).2 = 0
  | [], v, t, q, _ => by simp [runF]
  | x :: u, v, t, q, h => by
    rw [List.cons_append, runF] at h
    rw [runF]
    split at h
    · rename_i e; rw [if_pos e]; exact runF_pre u v h
    · rename_i e; exact absurd h e
theorem runF_rch (u : List Int) : (∀ x, x ∈ u → 0 ≤ x ∧ x < 7) → (runF s taken avoid tick (a, 0) u).2 = 0 → Rch s a tick taken avoid u.length (runF s taken avoid tick (a, 0) u).1 := by
  generalize hn : u.length = n
  induction n generalizing u with
  | zero => intro _ _; have : u = [] := List.eq_nil_of_length_eq_zero hn; subst this; rfl
  | succ n ih =>
    intro hv he
    obtain ⟨u', x, rfl⟩ : ∃ u' x, u = u' ++ [x] := ⟨u.dropLast, u.getLast (by intro e; subst e; simp at hn), (List.dropLast_concat_getLast _).symm⟩
    have hl : u'.length = n := by simpa using hn
    have h1 := runF_pre u' [x] he
    have h2 := runF_app u' [x] h1
    rw [h2] at he ⊢
    have h3 := ih u' hl (fun y hy => hv y (by simp [hy])) h1
    have hx := hv x (by simp)
    rw [hl] at he ⊢
    rw [runF] at he ⊢
    split at he
    · rename_i e
      rw [if_pos e, runF]
      exact ⟨_, x, h3, hx.1, hx.2, Prod.ext rfl e⟩
    · rename_i e; exact absurd he e
theorem on_zero {L : Nat} : ∀ {i : Nat} {p : Int × Int}, i ≤ L → On_ s a b tick taken avoid L i p → On_ s a b tick taken avoid L 0 (a, 0)
  | 0, p, _, h => by have : p = (a, 0) := h.1; rw [this] at h; exact h
  | i + 1, p, hi, h => by
    obtain ⟨q, act, hq, h0, h1, e⟩ := h.1
    exact on_zero (by omega) ((on_iff (by omega) hq).2 ⟨act, h0, h1, by unfold Into; rw [e]; exact ⟨rfl, h⟩⟩)
/-- the step of a walk at a place of it -/
theorem run_at {v : List Int} (hv : ∀ x, x ∈ v → 0 ≤ x ∧ x < 7) (he : (runF s taken avoid tick (a, 0) v).2 = 0) {i : Nat} {x : Int} (hx : v[i]? = some x) :
    (runF s taken avoid tick (a, 0) (v.take i)).2 = 0 ∧ Rch s a tick taken avoid i (runF s taken avoid tick (a, 0) (v.take i)).1 ∧ stepF s taken avoid (tick + i) (runF s taken avoid tick (a, 0) (v.take i)).1 x = ((runF s taken avoid tick (a, 0) (v.take (i + 1))).1, 0) := by
  have hlt := (List.getElem?_eq_some_iff.1 hx).1
  have hl : (v.take i).length = i := by simp; omega
  have e1 : v.take (i + 1) = v.take i ++ [x] := by rw [List.take_add_one, hx]; rfl
  have e2 : v = (v.take i ++ [x]) ++ v.drop (i + 1) := by rw [← e1, List.take_append_drop]
  have h2 : (runF s taken avoid tick (a, 0) (v.take i ++ [x])).2 = 0 := runF_pre _ (v.drop (i + 1)) (by rw [← e2]; exact he)
  have h1 := runF_pre (v.take i) [x] h2
  refine ⟨h1, ?_, ?_⟩
  · have := runF_rch (s := s) (a := a) (tick := tick) (taken := taken) (avoid := avoid) (v.take i) (fun y hy => hv y (List.mem_of_mem_take hy)) h1
    rwa [hl] at this
  · rw [e1, runF_app _ [x] h1, hl]
    rw [runF_app _ [x] h1, hl, runF] at h2
    rw [runF]
    split at h2
    · rename_i e; rw [if_pos e, runF]; exact Prod.ext rfl e
    · rename_i e; exact absurd h2 e
theorem good_on {v : List Int} {L : Nat} (hv : GoodW s a b tick taken avoid v) (hL : v.length = L) : ∀ (j i : Nat), i + j = L → On_ s a b tick taken avoid L i (runF s taken avoid tick (a, 0) (v.take i)).1
  | 0, i, h => by
    have : i = v.length := by omega
    subst this
    rw [List.take_length]
    refine ⟨runF_rch v hv.1 hv.2.1, ?_⟩
    rw [hL, Nat.sub_self]; exact hv.2.2.1
  | j + 1, i, h => by
    have ih := good_on hv hL j (i + 1) (by omega)
    have hx : v[i]? = some (v[i]'(by omega)) := List.getElem?_eq_getElem _
    have hxm := hv.1 _ (List.getElem_mem (l := v) (n := i) (by omega))
    obtain ⟨r1, r2, r3⟩ := run_at hv.1 hv.2.1 hx
    refine (on_iff (by omega) r2).2 ⟨_, hxm.1, hxm.2, ?_⟩
    unfold Into
    rw [r3]; exact ⟨rfl, ih⟩
theorem LexLt.app {u v : List Int} (h : LexLt u v) (w : List Int) : LexLt (u ++ w) v := by
  obtain ⟨j, x, y, h1, h2, h3, h4⟩ := h
  have hj := (List.getElem?_eq_some_iff.1 h2).1
  exact ⟨j, x, y, by rw [List.take_append_of_le_length (by omega)]; exact h1, by rw [List.getElem?_append_left hj]; exact h2, h3, h4⟩

theorem S_route_Find (k : OkApiSite s) (h : RS s) (hav : avoid.length ≤ maxLen) (hl : taken.length ≤ 1099511627776) {most : Int} {post : List Int × Int → Prop}
    (h1 : (rightR s a b tick = false ∨ most < 0) → post ([], 1)) (h2 : rightR s a b tick = true → most > 300 → post ([], 27))
    (h3 : rightR s a b tick = true → 0 ≤ most → most ≤ 300 → (∀ v, GoodW s a b tick taken avoid v → most < v.length) → post ([], 14))
    (h4 : rightR s a b tick = true → 0 ≤ most → most ≤ 300 → ∀ r, GoodW s a b tick taken avoid r → (r.length : Int) ≤ most → (∀ v, GoodW s a b tick taken avoid v → r.length ≤ v.length ∧ (v.length = r.length → v = r ∨ LexLt r v)) → post (r, 0)) :
    V_route_Find s a b tick taken avoid most post := by
  unfold V_route_Find
  have hl' : taken.length ≤ maxLen := by simp [maxLen]; omega
  refine Jn.eq (!rightR s a b tick || decide (most < 0)) (S_route_right h.fl (Ite.mk (fun e => by rw [e]; rfl) (fun e => by rw [e]; rfl))) (Ite.mk (fun e => ?_) (fun e => Ite.mk (fun e2 => ?_) (fun e2 => ?_)))
  · simp only [Bool.or_eq_true, Bool.not_eq_true', decide_eq_true_eq] at e; exact h1 e
  · simp only [Bool.or_eq_false_iff, Bool.not_eq_false', decide_eq_false_iff_not] at e
    simp only [decide_eq_true_eq] at e2
    exact h2 e.1 e2
  · simp only [Bool.or_eq_false_iff, Bool.not_eq_false', decide_eq_false_iff_not] at e
    simp only [decide_eq_false_iff_not] at e2
    obtain ⟨hr, e⟩ := e
    have hr' := hr
    simp only [rightR, Bool.and_eq_true, decide_eq_true_eq] at hr'
    have ht : 0 ≤ tick ∧ tick ≤ 20000 := hr'.2
    have ha : isC s.Floor a = true := hr'.1.1.1
    refine S_newWalk hl (fun w hw => S_layers k h hav hl' ha ht hw ⟨by omega, by omega⟩ (fun hno => ?_) (fun all L hlen hLm hset hgoal hmin => ?_))
    · refine Ite.t rfl (h3 hr (by omega) (by omega) (fun v hv => ?_))
      refine Int.lt_of_not_ge (fun hle => ?_)
      exact hno v.length _ hle (runF_rch v hv.1 hv.2.1) hv.2.2
    · refine Ite.f rfl ?_
      have e0 : w64 ((all.length : Int) - 1) = (L : Int) := by rw [w64_eq (by omega) (by omega)]; omega
      simp only [e0]
      have hmL : all[L]? = some (all[L]'(by omega)) := List.getElem?_eq_getElem _
      generalize all[L]'(by omega) = mL at hmL
      refine ⟨mL, idx_of rfl hmL, Jn.mk (fun m => IsSet m (fun x => On_ s a b tick taken avoid L L (rq x))) (Loop.mk (fun t : List (RouteStand × Bool) × List RouteStand => IsSet t.1 (fun x => Rch s a tick taken avoid L (rq x) ∧ (x ∈ t.2 → x.cell = b))) (fun t => left t.1 t.2) ((hset L mL hmL).cong (by simp)) ?_) ?_⟩
      · rintro ⟨m, seen⟩ hm
        simp only at hm
        refine ⟨fun x v ⟨hx, hns⟩ => ?_, fun hall => ?_⟩
        · refine Jn.mk (fun m' => IsSet m' (fun y => Rch s a tick taken avoid L (rq y) ∧ (y ∈ x :: seen → y.cell = b)) ∧ (∀ sn, left m' sn ≤ left m sn)) (Ite.mk (fun e3 => ⟨mL, idx_of rfl hmL, ?_⟩) (fun e3 => ?_)) (fun m' hm' => ⟨hm'.1, ?_⟩)
          · simp at e3
            refine ⟨(hm.rem x).cong (fun y => ?_), left_del m x⟩
            constructor
            · rintro ⟨⟨p1, p2⟩, p3⟩
              exact ⟨p1, fun p4 => by rcases List.mem_cons.1 p4 with p5 | p5; (exact absurd p5 p3); exact p2 p5⟩
            · rintro ⟨p1, p2⟩
              exact ⟨⟨p1, fun p4 => p2 (List.mem_cons_of_mem _ p4)⟩, fun p4 => e3 (by rw [← p4]; exact p2 (by rw [p4]; exact List.mem_cons_self))⟩
          · simp at e3
            refine ⟨hm.cong (fun y => ?_), fun _ => Nat.le_refl _⟩
            constructor
            · rintro ⟨p1, p2⟩
              exact ⟨p1, fun p4 => by rcases List.mem_cons.1 p4 with p5 | p5; (rw [p5]; exact e3); exact p2 p5⟩
            · rintro ⟨p1, p2⟩
              exact ⟨p1, fun p4 => p2 (List.mem_cons_of_mem _ p4)⟩
          · exact Nat.lt_of_le_of_lt (hm'.2 _) (left_lt m hx hns)
        · refine hm.cong (fun y => ?_)
          unfold On_
          rw [Nat.sub_self, Lead]
          constructor
          · rintro ⟨p1, p2⟩
            exact ⟨p1, p2 (hall y (by rw [hm.all y ⟨p1, p2⟩]; simp))⟩
          · rintro ⟨p1, p2⟩; exact ⟨p1, fun _ => p2⟩
      · intro mF hmF
        have e1 : w64 ((L : Int) - 1) = (L : Int) - 1 := w64_eq (by omega) (by omega)
        simp only [e1, Int.toNat_natCast]
        refine Jn.mk (fun lst => lst.length = L + 1 ∧ ∀ (i : Nat) m, lst[i]? = some m → IsSet m (fun x => On_ s a b tick taken avoid L i (rq x)))
          (Loop.mk (fun t : List (List (RouteStand × Bool)) × Int => -1 ≤ t.2 ∧ t.2 < L ∧ t.1.length = L + 1 ∧ ∀ (i : Nat) m, t.1[i]? = some m → IsSet m (fun x => if (i : Int) ≤ t.2 then Rch s a tick taken avoid i (rq x) else On_ s a b tick taken avoid L i (rq x))) (fun t => (t.2 + 1).toNat)
            ⟨by simp; omega, by simp; omega, by simp [hlen], fun i m hi => ?_⟩ ?_) ?_
        · have := isSet_set hset hmF i m hi
          by_cases e3 : i = L
          · subst e3
            rw [if_pos rfl] at this
            refine this.cong (fun x => ?_)
            rw [if_neg (by simp; omega)]
          · rw [if_neg e3] at this
            refine this.cong (fun x => ?_)
            have := (List.getElem?_eq_some_iff.1 hi).1
            simp only [List.length_set] at this
            rw [if_pos (by simp; omega)]
        · rintro ⟨lst, kk⟩ ⟨q0, q1, q2, q3⟩
          simp only at q0 q1 q2 q3
          refine Ite.mk (fun hge => ?_) (fun hlt => ?_)
          · simp only [decide_eq_true_eq] at hge
            obtain ⟨n, rfl⟩ := Int.eq_ofNat_of_zero_le hge
            have hn : n < L := by omega
            have hx28 : lst[n]? = some (lst[n]'(by omega)) := List.getElem?_eq_getElem _
            have hx37 : lst[n + 1]? = some (lst[n + 1]'(by omega)) := List.getElem?_eq_getElem _
            generalize lst[n]'(by omega) = cur at hx28
            generalize lst[n + 1]'(by omega) = nxt at hx37
            have hcur : IsSet cur (fun x => Rch s a tick taken avoid n (rq x)) := (q3 n cur hx28).cong (fun x => by rw [if_pos (Int.le_refl _)])
            have hnxt : IsSet nxt (fun x => On_ s a b tick taken avoid L (n + 1) (rq x)) := (q3 (n + 1) nxt hx37).cong (fun x => by rw [if_neg (by omega)])
            have e3 : w64 ((n : Int) + 1) = ((n + 1 : Nat) : Int) := by rw [w64_eq (by omega) (by omega)]; omega
            have e4 : w64 ((n : Int) - 1) = (n : Int) - 1 := w64_eq (by omega) (by omega)
            simp only [e3, e4]
            refine Jn.mk (fun p => p.2 = lst ∧ IsSet p.1 (fun x => On_ s a b tick taken avoid L n (rq x))) ⟨cur, idx_of rfl hx28, Jn.mk (fun p => p.2 = lst ∧ IsSet p.1 (fun x => On_ s a b tick taken avoid L n (rq x)))
              (Loop.mk (fun t : List (RouteStand × Bool) × List RouteStand × List (List (RouteStand × Bool)) => t.2.2 = lst ∧ IsSet t.1 (fun x => Rch s a tick taken avoid n (rq x) ∧ (x ∈ t.2.1 → On_ s a b tick taken avoid L n (rq x)))) (fun t => left t.1 t.2.1) ⟨rfl, hcur.cong (by simp)⟩ ?_) (fun p hp => hp)⟩ ?_
            · rintro ⟨m, seen, lst'⟩ ⟨hl1, hm⟩
              simp only at hl1 hm
              subst hl1
              refine ⟨fun x v ⟨hx, hns⟩ => ?_, fun hall => ⟨rfl, hm.cong (fun y => ?_)⟩⟩
              · have hR : Rch s a tick taken avoid n (rq x) := ((hm.val x v hx).2).1
                have hset37 : lst'.set (Int.toNat ((n + 1 : Nat) : Int)) nxt = lst' := set_idx (idx_of rfl hx37)
                refine Jn.mk (fun p => p.1 = lst' ∧ (p.2 = true ↔ On_ s a b tick taken avoid L n (rq x))) ⟨nxt, idx_of rfl hx37, by simp, ?_⟩ ?_
                · refine S_on k h hav hl' ht hw (by omega) (Rch.ok h ha hR) hnxt (fun hno y => ⟨hset37, ?_⟩) (fun act p b0 b1 hI _ _ => ⟨hset37, ?_⟩)
                  · simp only [Bool.false_eq_true, false_iff]
                    rw [on_iff hn hR]
                    rintro ⟨act, b0, b1, b2⟩
                    exact hno act b0 b1 b2
                  · simp only [true_iff]
                    rw [on_iff hn hR]
                    exact ⟨act, b0, b1, hI⟩
                · rintro ⟨l2, ok⟩ ⟨g1, g2⟩
                  simp only at g1 g2
                  subst g1
                  refine Jn.mk (fun m' => IsSet m' (fun y => Rch s a tick taken avoid n (rq y) ∧ (y ∈ x :: seen → On_ s a b tick taken avoid L n (rq y))) ∧ (∀ sn, left m' sn ≤ left m sn)) (Ite.mk (fun e5 => ⟨cur, idx_of rfl hx28, ?_⟩) (fun e5 => ?_)) (fun m' hm' => ⟨⟨rfl, hm'.1⟩, ?_⟩)
                  · simp at e5
                    refine ⟨(hm.rem x).cong (fun y => ?_), left_del m x⟩
                    constructor
                    · rintro ⟨⟨p1, p2⟩, p3⟩
                      exact ⟨p1, fun p4 => by rcases List.mem_cons.1 p4 with p5 | p5; (exact absurd p5 p3); exact p2 p5⟩
                    · rintro ⟨p1, p2⟩
                      refine ⟨⟨p1, fun p4 => p2 (List.mem_cons_of_mem _ p4)⟩, fun p4 => ?_⟩
                      subst p4
                      have := g2.2 (p2 List.mem_cons_self)
                      rw [e5] at this; cases this
                  · simp at e5
                    refine ⟨hm.cong (fun y => ?_), fun _ => Nat.le_refl _⟩
                    constructor
                    · rintro ⟨p1, p2⟩
                      exact ⟨p1, fun p4 => by rcases List.mem_cons.1 p4 with p5 | p5; (rw [p5]; exact g2.1 e5); exact p2 p5⟩
                    · rintro ⟨p1, p2⟩
                      exact ⟨p1, fun p4 => p2 (List.mem_cons_of_mem _ p4)⟩
                  · exact Nat.lt_of_le_of_lt (hm'.2 _) (left_lt m hx hns)
              · constructor
                · rintro ⟨p1, p2⟩
                  exact p2 (hall y (by rw [hm.all y ⟨p1, p2⟩]; simp))
                · intro p1; exact ⟨p1.1, fun _ => p1⟩
            · rintro ⟨m, l2⟩ ⟨g1, g2⟩
              simp only at g1 g2
              subst g1
              refine ⟨⟨by first | omega | (simp; omega), by first | omega | (simp; omega), by simpa using q2, fun i m' hi => ?_⟩, by first | omega | (simp; omega)⟩
              have := isSet_set q3 g2 i m' hi
              by_cases e5 : i = n
              · subst e5
                rw [if_pos (by simp)] at this
                refine this.cong (fun x => ?_)
                rw [if_neg (by first | omega | (simp; omega))]
              · rw [if_neg (by simpa using e5)] at this
                refine this.cong (fun x => ?_)
                by_cases e6 : (i : Int) ≤ n
                · rw [if_pos e6, if_pos (by first | omega | (simp; omega))]
                · rw [if_neg e6, if_neg (by first | omega | (simp; omega))]
          · simp only [decide_eq_false_iff_not] at hlt
            refine ⟨q2, fun i m hi => (q3 i m hi).cong (fun x => by rw [if_neg (by omega)])⟩
        · rintro lst ⟨hll, hon⟩
          obtain ⟨qg, hqg, hqb⟩ := hgoal
          have hstart : On_ s a b tick taken avoid L 0 (a, 0) := on_zero (Nat.le_refl L) ⟨hqg, by rw [Nat.sub_self]; exact hqb.1⟩
          refine Jn.mk (fun out => out.length = L ∧ (∀ x, x ∈ out → 0 ≤ x ∧ x < 7) ∧ (∃ q, runF s taken avoid tick (a, 0) out = (q, 0) ∧ q.1 = b) ∧ ∀ v, GoodW s a b tick taken avoid v → v.length = L → v.take L = out ∨ LexLt out v)
            (Loop.mk (fun t : List (List (RouteStand × Bool)) × List Int × Int × Int × Int => t.1 = lst ∧ 0 ≤ t.2.2.2.2 ∧ t.2.2.2.2 ≤ L ∧ t.2.1.length = t.2.2.2.2.toNat ∧ (∀ x, x ∈ t.2.1 → 0 ≤ x ∧ x < 7) ∧ runF s taken avoid tick (a, 0) t.2.1 = ((t.2.2.1, t.2.2.2.1), 0) ∧ On_ s a b tick taken avoid L t.2.2.2.2.toNat (t.2.2.1, t.2.2.2.1) ∧
              ∀ v, GoodW s a b tick taken avoid v → v.length = L → v.take t.2.2.2.2.toNat = t.2.1 ∨ LexLt t.2.1 v) (fun t => (L - t.2.2.2.2).toNat) ⟨rfl, by simp, by simp, rfl, by simp, rfl, hstart, fun v _ _ => .inl rfl⟩ ?_) ?_
          · rintro ⟨lst', out, c, r, kk⟩ ⟨g0, g1, g2, g3, g4, g5, g6, g7⟩
            simp only at g0 g1 g2 g3 g4 g5 g6 g7
            subst g0
            obtain ⟨n, rfl⟩ := Int.eq_ofNat_of_zero_le g1
            simp only [Int.toNat_natCast] at g3 g6 g7
            refine Ite.mk (fun hlt => ?_) (fun hge => ?_)
            · simp only [decide_eq_true_eq] at hlt
              have hn : n < L := by omega
              have hx51 : lst'[n + 1]? = some (lst'[n + 1]'(by omega)) := List.getElem?_eq_getElem _
              generalize lst'[n + 1]'(by omega) = nxt at hx51
              have hnxt := hon (n + 1) nxt hx51
              have e3 : w64 ((n : Int) + 1) = ((n + 1 : Nat) : Int) := by rw [w64_eq (by omega) (by omega)]; omega
              simp only [e3]
              have hset51 : lst'.set (Int.toNat ((n + 1 : Nat) : Int)) nxt = lst' := set_idx (idx_of rfl hx51)
              refine Jn.mk (fun p => p.1 = lst' ∧ 0 ≤ p.2.1 ∧ p.2.1 < 7 ∧ Into s taken avoid (tick + n) (c, r) (On_ s a b tick taken avoid L (n + 1)) p.2.1 ∧ (p.2.2.1, p.2.2.2) = (stepF s taken avoid (tick + n) (c, r) p.2.1).1 ∧ ∀ a', 0 ≤ a' → a' < p.2.1 → ¬ Into s taken avoid (tick + n) (c, r) (On_ s a b tick taken avoid L (n + 1)) a')
                ⟨nxt, idx_of rfl hx51, S_on k h hav hl' ht hw (q := ⟨c, r⟩) (by omega) (Rch.ok h ha g6.1) hnxt (fun hno y => ?_) (fun act p b0 b1 hI hp hmn => ⟨hset51, b0, b1, hI, hp, hmn⟩)⟩ ?_
              · obtain ⟨act, b0, b1, b2⟩ := (on_iff hn g6.1).1 g6
                exact absurd b2 (hno act b0 b1)
              · rintro ⟨l2, act, c', r'⟩ ⟨f0, f1, f2, f3, f4, f5⟩
                simp only at f0 f1 f2 f3 f4 f5
                subst f0
                refine ⟨by simp; omega, ⟨rfl, by simp; omega, by simp; omega, by simp [g3], fun x hx => ?_, ?_, ?_, fun v hv hvl => ?_⟩, by simp; omega⟩
                · rcases List.mem_append.1 hx with hx | hx
                  · exact g4 x hx
                  · simp at hx; omega
                · rw [runF_app out [act] (by rw [g5]), g5, g3]
                  rw [runF, if_pos f3.1, runF, f4]
                · simp only [Int.toNat_natCast]
                  rw [f4]; exact f3.2
                · simp only [Int.toNat_natCast]
                  rcases g7 v hv hvl with g8 | g8
                  · have hx : v[n]? = some (v[n]'(by omega)) := List.getElem?_eq_getElem _
                    have hxm := hv.1 _ (List.getElem_mem (l := v) (n := n) (by omega))
                    generalize v[n]'(by omega) = x at hx hxm
                    obtain ⟨r1, r2, r3⟩ := run_at hv.1 hv.2.1 hx
                    rw [g8, g5] at r3
                    simp only at r3
                    have hInto : Into s taken avoid (tick + n) (c, r) (On_ s a b tick taken avoid L (n + 1)) x := by
                      have := good_on hv hvl (L - (n + 1)) (n + 1) (by omega)
                      unfold Into; rw [r3]; exact ⟨rfl, this⟩
                    have hle : act ≤ x := Int.le_of_not_gt (fun hgt => f5 x hxm.1 hgt hInto)
                    by_cases hxe : x = act
                    · left; rw [List.take_add_one, hx, g8, hxe]; rfl
                    · right
                      refine ⟨n, act, x, ?_, ?_, hx, by omega⟩
                      · rw [List.take_append_of_le_length (by omega), g8, List.take_of_length_le (by omega)]
                      · rw [List.getElem?_append_right (by omega), g3]; simp
                  · right; exact g8.app _
            · simp only [decide_eq_false_iff_not] at hge
              have : n = L := by omega
              subst this
              have hb := g6.2
              rw [Nat.sub_self] at hb
              exact ⟨g3, g4, ⟨_, g5, hb⟩, g7⟩
          · rintro out ⟨f1, f2, ⟨q, f3, f4⟩, f5⟩
            refine h4 hr (by omega) (by omega) out ⟨f2, by rw [f3], by rw [f3, f1]; exact ⟨f4, hqb.2⟩⟩ (by omega) (fun v hv => ?_)
            refine ⟨?_, fun hvl => ?_⟩
            · rw [f1]
              refine Nat.le_of_not_lt (fun hlt => ?_)
              exact hmin v.length _ hlt (runF_rch v hv.1 hv.2.1) hv.2.2
            · rcases f5 v hv (by omega) with f6 | f6
              · left; rw [← f6, List.take_of_length_le (by omega)]
              · right; exact f6
end
end Go.Taq

/- The mathematics, part R: right sites. -/
set_option linter.unusedVariables false
namespace Go.Taq
open Go

theorem S_ref07_Has {l : List Int} (hm : l.length ≤ maxLen) {n : Int} {post : Bool → Prop} (hp : post (l.contains n)) : V_taquinref07_Has l n post := by
  unfold V_taquinref07_Has
  exact V_any hm (p := fun x => x == n) (by rw [any_beq]; exact hp)
theorem S_ref07_Size {f : ApiFloor} (h : RF f) {post : Int → Prop} (hp : post f.Kind.length) : V_taquinref07_Size f post := by
  unfold V_taquinref07_Size; rw [h.size]; exact hp
theorem S_ref07_Is {f : ApiFloor} (h : RF f) {c : Int} {post : Bool → Prop} (hp : post (isC f c)) : V_taquinref07_Is f c post := by
  unfold V_taquinref07_Is
  refine Jn.mk' (Ite.mk (fun h1 => S_ref07_Size h ?_) (fun h1 => ?_))
  · have : isC f c = decide (c < f.Kind.length) := by simp at h1; simp [isC, h1]
    rw [← this]; exact hp
  · have : isC f c = false := by simp at h1; simp [isC]; omega
    rw [← this]; exact hp
theorem S_ref07_Cell {f : ApiFloor} (h : RF f) {x y z : Int} {post : Int → Prop} (hp : post (cellF f x y z)) : V_taquinref07_Cell f x y z post := by
  unfold V_taquinref07_Cell
  refine Jor6 (Ite.mk (fun h1 => ?_) (fun h1 => ?_))
  · have : cellF f x y z = -1 := by
      unfold cellF
      rw [if_neg]
      simp only [Bool.or_eq_true, decide_eq_true_eq] at h1
      omega
    rw [← this]; exact hp
  · have : 0 ≤ x ∧ x < f.W ∧ 0 ≤ y ∧ y < f.H ∧ 0 ≤ z ∧ z < f.D := by
      simp only [Bool.or_eq_false_iff, decide_eq_false_iff_not] at h1
      omega
    rw [cellF_w h this]; exact hp
theorem S_ref07_At {f : ApiFloor} (h : RF f) {c : Int} (hc : isC f c = true) {post : (Int × Int × Int) → Prop} (hp : post (pX f c, pY f c, pZ f c)) : V_taquinref07_At f c post := by
  unfold V_taquinref07_At
  refine S_ref07_Is h ?_
  rw [hc]
  refine Ite.f rfl ?_
  rw [isC_iff] at hc
  have w := h.W1; have hh := h.H1; have hd := h.D1; have wh := h.wh; have hl := h.len.1
  have e1 : 0 ≤ c / f.W ∧ c / f.W ≤ c := ⟨Int.ediv_nonneg hc.1 (by omega), Int.ediv_le_self _ hc.1⟩
  have e2 : 0 ≤ c / f.W / f.H ∧ c / f.W / f.H ≤ c / f.W := ⟨Int.ediv_nonneg e1.1 (by omega), Int.ediv_le_self _ e1.1⟩
  refine ⟨by omega, by omega, by omega, ?_⟩
  rw [Int.tmod_eq_emod_of_nonneg hc.1, Int.tdiv_eq_ediv_of_nonneg hc.1, w64_eq (x := c / f.W) (by omega) (by omega), Int.tmod_eq_emod_of_nonneg e1.1, Int.tdiv_eq_ediv_of_nonneg e1.1, w64_eq (x := c / f.W / f.H) (by omega) (by omega)]
  exact ⟨by omega, by omega, hp⟩
theorem S_ref07_Beside {f : ApiFloor} (h : RF f) {c d : Int} {post : Int → Prop} (hp : post (nbr f c d)) : V_taquinref07_Beside f c d post := by
  unfold V_taquinref07_Beside
  refine S_ref07_Is h (Ite.mk (fun h1 => ?_) (fun h1 => ?_))
  · simp only [Bool.not_eq_true'] at h1
    rw [nbr, if_pos h1] at hp; exact hp
  · simp only [Bool.not_eq_false'] at h1
    refine S_ref07_At h h1 ?_
    have hb := p_bd h h1
    have w := h.W4; have hh := h.H4; have hd := h.D4
    rw [nbr, if_neg (by simp [h1])] at hp
    simp only [Ite_if, beq_iff_eq]
    repeat' split at hp
    all_goals (repeat' split) <;> first | omega | skip
    all_goals first | (refine S_ref07_Cell h ?_; (try simp only []); rw [w64_eq (by omega) (by omega)]; exact hp) | exact hp

theorem S_ref11_Name {x : ByteArray} {post : Bool → Prop} (hx : OkS x) (hF : post false) (hT : 1 ≤ x.size → x.size ≤ 20 → post true) : V_taquinref11_Name x post := by
  unfold V_taquinref11_Name
  refine Jn.mk (fun _ => True) (Loop.upto x.size (fun _ => True) trivial (fun i hi _ Y hY => Ite.lt (by omega) ?_) (fun _ => Ite.nlt (by omega) trivial)) (fun _ _ => ?_)
  · have hl : x.data.toList.length = x.size := by simp
    refine ⟨_, idx_of rfl (List.getElem?_eq_getElem (by omega)), Jn.mk (fun _ => True) (by simp [Ite]) (fun b7 _ => Jn.mk (fun _ => True) (by simp [Ite]) (fun b10 _ => Ite.mk (fun _ => hF) (fun _ => ?_)))⟩
    rw [w64_nat hi (by simpa [OkS] using hx)]
    exact hY trivial
  · refine Jand2 ?_
    cases hb : (decide ((x.size : Int) ≥ 1) && decide ((x.size : Int) ≤ 20))
    · exact hF
    · simp only [Bool.and_eq_true, decide_eq_true_eq] at hb
      exact hT (by omega) (by omega)

/-- the shelf at a cell, or -1 -/
def shAt (l : List ApiShelf) (c : Int) : Int := fidx (fun x : ApiShelf => x.Cell == c) l
def zAt (l : List ApiZone) (c : Int) : Bool := l.any fun z => z.Cells.contains c
def rbAt (l : List ApiStart) (c : Int) : Bool := l.any fun x => x.Cell == c
def standK (k : Int) : Bool := (k == 1) || (k == 2)
def zonedK (k : Int) : Bool := (k != 0) && (k != 4) && (k != 5)
def nosh (x : ByteArray) : Bool := seq x ByteArray.empty
/-- two classes are apart by some rule of a list -/
def apB (l : List ApiApart) (a b : ByteArray) : Bool := !nosh a && !nosh b && l.any fun x => (seq x.A a && seq x.B b) || (seq x.A b && seq x.B a)
theorem S_ref11_shelfAt {l : List ApiShelf} (hm : l.length ≤ maxLen) {c : Int} {post : Int → Prop} (hp : post (shAt l c)) : V_taquinref11_shelfAt l c post := by
  unfold V_taquinref11_shelfAt; exact V_fidx hm hp
theorem S_ref11_robotAt {l : List ApiStart} (hm : l.length ≤ maxLen) {c : Int} {post : Bool → Prop} (hp : post (rbAt l c)) : V_taquinref11_robotAt l c post := by
  unfold V_taquinref11_robotAt; exact V_any hm hp
theorem S_ref11_zoneAt {l : List ApiZone} (hm : l.length ≤ maxLen) (hc : ∀ z, z ∈ l → z.Cells.length ≤ maxLen) {c : Int} {post : Bool → Prop} (hp : post (zAt l c)) : V_taquinref11_zoneAt l c post := by
  unfold V_taquinref11_zoneAt; exact V_anyc hm (fun z => z.Cells.contains c) (T := fun z post => V_taquinref07_Has z.Cells c post) (fun z hz post h => S_ref07_Has (hc z hz) h) hp
theorem S_ref11_named {l : List ApiZone} (hm : l.length ≤ maxLen) {c : ByteArray} {post : Int → Prop} (hp : post (fidx (fun z : ApiZone => seq z.Name c) l)) : V_taquinref11_named l c post := by
  unfold V_taquinref11_named; exact V_fidx hm hp
theorem S_ref11_stands {k : Int} {post : Bool → Prop} (hp : post (standK k)) : V_taquinref11_stands k post := by
  unfold V_taquinref11_stands; exact Jor2 hp
theorem S_ref11_zoned {k : Int} {post : Bool → Prop} (hp : post (zonedK k)) : V_taquinref11_zoned k post := by
  unfold V_taquinref11_zoned; exact Jand3 hp
theorem S_ref11_charger {f : ApiFloor} (hm : f.Kind.length ≤ maxLen) {post : Bool → Prop} (hp : post (f.Kind.contains 3)) : V_taquinref11_charger f post := by
  unfold V_taquinref11_charger; exact S_ref07_Has hm hp
theorem S_ref11_Apart {l : List ApiApart} (hm : l.length ≤ maxLen) {a b : ByteArray} {post : Bool → Prop} (hp : post (apB l a b)) : V_taquinref11_Apart l a b post := by
  unfold V_taquinref11_Apart
  unfold apB nosh at hp
  cases ha : seq a ByteArray.empty <;> cases hb : seq b ByteArray.empty <;> rw [ha, hb] at hp <;> simp only [Bool.not_false, Bool.not_true, Bool.true_and, Bool.false_and, Bool.and_false, Ite_true, Ite_false] at hp ⊢
  · have := V_anyc hm (fun x : ApiApart => (seq x.A a && seq x.B b) || (seq x.A b && seq x.B a)) (T := fun x post => Jn (fun (J11 : Bool → Prop) => Ite (seq x.A a) (Ite (seq x.B b) (J11 true) (Ite (seq x.A b) (J11 (seq x.B a)) (J11 false))) (Ite (seq x.A b) (J11 (seq x.B a)) (J11 false))) post) (fun x _ post h => ?_) hp
    · refine Jn.mk (fun _ => post false) ?_ (fun _ h => h)
      obtain ⟨J, hJ, hL⟩ := this
      intro X hX
      refine hL X (fun s Y hb hY => hX s Y ?_ hY)
      refine hb.cs (fun h1 h2 => ?_) (fun h1 h2 => ?_)
      · obtain ⟨x, hx, hT⟩ := h2
        refine Jn.eq true (Ite.t h1 rfl) (Ite.t rfl ?_)
        obtain ⟨J', h3, h4⟩ := hT
        exact ⟨J', h3, ⟨x, hx, h4⟩⟩
      · exact Jn.eq false (Ite.f h1 rfl) (Ite.f rfl (hJ () h2))
    · refine Jn.mk' ?_
      revert h
      cases seq x.A a <;> cases seq x.B b <;> cases seq x.A b <;> cases seq x.B a <;> simp
  all_goals
    refine Jn.mk (fun _ => post false) ?_ (fun _ h => h)
    refine Loop.step ?_
    refine Jn.eq false ?_ (Ite.f rfl hp)
    exact Ite.mk (fun _ => rfl) (fun _ => rfl)

/-- spans one after the other, from a tick on -/
def spansFrom : Int → List ApiSpan → Prop
  | _, [] => True
  | t, x :: r => t ≤ x.From ∧ x.From < x.To ∧ x.To ≤ 20000 ∧ spansFrom x.To r
theorem S_ref11_spans {l : List ApiSpan} (hm : l.length ≤ maxLen) {post : Bool → Prop} (hF : post false) (hT : spansFrom 0 l → post true) : V_taquinref11_spans l post := by
  unfold V_taquinref11_spans
  refine Jn.mk (fun _ => spansFrom 0 l) (Loop.inv l.length (fun i (s : Int × Int) => s.2 = (i : Int) ∧ (spansFrom s.1 (l.drop i) → spansFrom 0 l)) ⟨rfl, fun h => by simpa using h⟩ (fun i s hi h => ?_) (fun s h => ?_)) (fun _ h => hT h)
  · obtain ⟨t, j⟩ := s
    obtain ⟨e, h⟩ := h
    simp only at e h; subst e
    have hx : l[i]? = some (l[i]'hi) := List.getElem?_eq_getElem hi
    generalize hxe : l[i]'hi = x at hx
    have hd : l.drop i = x :: l.drop (i + 1) := by rw [List.drop_eq_getElem_cons hi, hxe]
    refine Ite.lt (by simp only []; omega) (Jn.ex x (idx_of rfl hx) (Jor3 (Ite.mk (fun _ => hF) (fun h1 => ⟨x, idx_of rfl hx, ?_⟩))))
    · simp only [Bool.or_eq_false_iff, decide_eq_false_iff_not] at h1
      refine ⟨w64_nat hi hm, fun h2 => h ?_⟩
      rw [hd]
      exact ⟨by omega, by omega, by omega, h2⟩
  · obtain ⟨e, h⟩ := h
    refine Ite.nlt (by rw [e]; omega) (h ?_)
    rw [List.drop_length]; trivial

/-- a cell on which a shelf may stand, and none does -/
def blankB (s : ApiSite) (c : Int) : Bool := standK (kd s.Floor c) && decide (shAt s.Shelves c < 0)
theorem S_ref11_blanks {s : ApiSite} (k : OkApiSite s) {z : ApiZone} (hz : z.Cells.length ≤ maxLen) (hc : ∀ c, c ∈ z.Cells → isC s.Floor c = true) {post : Int → Prop} (hp : post (z.Cells.countP (blankB s) : Nat)) : V_taquinref11_blanks s z post := by
  unfold V_taquinref11_blanks
  refine Jn.mk (fun n => n = (z.Cells.countP (blankB s) : Nat)) (Loop.inv z.Cells.length (fun i (t : Int × Int) => t.2 = (i : Int) ∧ t.1 = ((z.Cells.take i).countP (blankB s) : Nat)) ⟨rfl, rfl⟩ (fun i t hi h => ?_) (fun t h => ?_)) (fun _ h => h ▸ hp)
  · obtain ⟨n, j⟩ := t
    obtain ⟨e, h⟩ := h
    simp only at e h; subst e
    have hx : z.Cells[i]? = some (z.Cells[i]'hi) := List.getElem?_eq_getElem hi
    generalize hxe : z.Cells[i]'hi = x at hx
    have hcx := hc x (List.mem_of_getElem? hx)
    have e1 : z.Cells.take (i + 1) = z.Cells.take i ++ [x] := by rw [List.take_add_one, hx]; rfl
    have hle : (z.Cells.take i).countP (blankB s) ≤ i := Nat.le_trans List.countP_le_length (by simp; omega)
    refine Ite.lt (by simp only []; omega) (Jn.eq (blankB s x) ⟨x, idx_of rfl hx, _, idx_kd hcx, S_ref11_stands (Ite.mk (fun h1 => S_ref11_shelfAt k.Shelves.1 ?_) (fun h1 => ?_))⟩ ?_)
    · simp [blankB, h1]
    · simp [blankB, h1]
    · refine Jn.eq (n + (if blankB s x = true then 1 else 0)) (Ite.mk (fun h1 => ?_) (fun h1 => ?_)) ⟨w64_nat hi hz, ?_⟩
      · simp only [h1, if_true]
        rw [w64_eq (by omega) (by simp [maxLen] at hz; omega)]
      · simp [h1]
      · simp only []
        rw [e1, List.countP_append, h]
        cases hb : blankB s x <;> simp [hb]
  · obtain ⟨e, h⟩ := h
    refine Ite.nlt (by rw [e]; omega) ?_
    rw [h, List.take_length]
end Go.Taq

/- The mathematics, part S: right sites, whole. -/
set_option linter.unusedVariables false
namespace Go.Taq
open Go

/-- a zone is right, after some others -/
structure RZone (s : ApiSite) (before : List ApiZone) (z : ApiZone) : Prop where
  named : 1 ≤ z.Name.size ∧ z.Name.size ≤ 20
  name : ∀ y, y ∈ before → seq y.Name z.Name = false
  ne : z.Cells ≠ []
  sp : 1 ≤ z.Speed ∧ z.Speed ≤ 100
  keep : 0 ≤ z.Keep
  spans : spansFrom 0 z.Shut
  cell : ∀ c, c ∈ z.Cells → isC s.Floor c = true ∧ zonedK (kd s.Floor c) = true ∧ zAt before c = false
  asc : ∀ (i : Nat) x y, z.Cells[i]? = some x → z.Cells[i + 1]? = some y → x < y
theorem asc_of {l : List Int} (h : ∀ (i : Nat) x y, l[i]? = some x → l[i + 1]? = some y → x < y) : Asc l := by
  have key : ∀ (d i : Nat) x y, l[i]? = some x → l[i + d + 1]? = some y → x < y := by
    intro d
    induction d with
    | zero => intro i x y hx hy; exact h i x y hx hy
    | succ d ih =>
      intro i x y hx hy
      have hlt := (List.getElem?_eq_some_iff.1 hy).1
      have hz : l[i + d + 1]? = some (l[i + d + 1]'(by omega)) := List.getElem?_eq_getElem _
      exact Int.lt_trans (ih i x _ hx hz) (h (i + d + 1) _ y hz (by rw [← hy]; congr 1))
  intro i j x y hij hx hy
  exact key (j - i - 1) i x y hx (by rw [← hy]; congr 1; omega)
theorem RZone.ascL {s : ApiSite} {b : List ApiZone} {z : ApiZone} (h : RZone s b z) : Asc z.Cells := asc_of h.asc
theorem mem_take {α : Type} {xs : List α} {i : Nat} {x : α} (h : x ∈ xs.take i) : x ∈ xs := List.mem_of_mem_take h

theorem S_ref11_rightZones {s : ApiSite} (k : OkApiSite s) (hf : RF s.Floor) {post : Bool → Prop} (hF : post false)
    (hT : s.Zones.length ≤ 64 → (∀ (i : Nat) z, s.Zones[i]? = some z → RZone s (s.Zones.take i) z) → post true) : V_taquinref11_rightZones s post := by
  unfold V_taquinref11_rightZones
  refine Jn.mk (fun _ => ∀ (i : Nat) z, s.Zones[i]? = some z → RZone s (s.Zones.take i) z) (Loop.each s.Zones k.Zones.1 (fun i => ∀ (j : Nat) z, j < i → s.Zones[j]? = some z → RZone s (s.Zones.take j) z) (fun j z h => by omega) (fun i z hz hidx hlt hall Y hY => Ite.lt hlt ?_) (fun h => Ite.nlt (by omega) (fun i z hz => h i z (List.getElem?_eq_some_iff.1 hz).1 hz))) (fun _ h => ?_)
  · have kz := k.Zones.2 z (List.mem_of_getElem? hz)
    have kt : ∀ x, x ∈ s.Zones.take i → x.Cells.length ≤ maxLen := fun x hx => (k.Zones.2 x (mem_take hx)).Cells.1
    have ktl : (s.Zones.take i).length ≤ maxLen := Nat.le_trans (by simp; omega) k.Zones.1
    refine Jn.mk (fun _ => RZone s (s.Zones.take i) z) ⟨z, hidx, Jn.mk (fun b => b = false → (1 ≤ z.Name.size ∧ z.Name.size ≤ 20) ∧ (∀ y, y ∈ s.Zones.take i → seq y.Name z.Name = false) ∧ z.Cells ≠ [] ∧ (1 ≤ z.Speed ∧ z.Speed ≤ 100) ∧ 0 ≤ z.Keep ∧ spansFrom 0 z.Shut) ?_ ?_⟩ ?_
    · refine S_ref11_Name kz.Name (Ite.f rfl (fun h => by cases h)) (fun n1 n2 => Ite.t rfl ⟨⟨by omega, by omega, by omega⟩, ?_⟩)
      rw [sub0]
      refine S_ref11_named ktl (Ite.mk (fun _ h => by cases h) (fun h1 => Ite.mk (fun _ h => by cases h) (fun h2 => Ite.mk (fun _ h => by cases h) (fun h3 => Ite.mk (fun _ h => by cases h) (fun h4 => Ite.mk (fun _ h => by cases h) (fun h5 => ?_))))))
      rw [fidx_any] at h1
      refine S_ref11_spans kz.Shut.1 (fun h => by simp at h) (fun h6 _ => ⟨⟨n1, n2⟩, fun y hy => ?_, ?_, ?_, ?_, h6⟩)
      · exact Bool.eq_false_iff.2 (List.any_eq_false.1 h1 y hy)
      · intro e; rw [e] at h2; simp at h2
      · simp at h3 h4; omega
      · simp at h5; omega
    · intro b hb
      refine Ite.mk (fun _ => hF) (fun h1 => ?_)
      obtain ⟨b1, b2, b3, b4, b5, b6⟩ := hb h1
      refine Jn.mk (fun _ => (∀ c, c ∈ z.Cells → isC s.Floor c = true ∧ zonedK (kd s.Floor c) = true ∧ zAt (s.Zones.take i) c = false) ∧ (∀ (i : Nat) x y, z.Cells[i]? = some x → z.Cells[i + 1]? = some y → x < y))
        (Loop.each z.Cells kz.Cells.1 (fun m => (∀ (j : Nat) c, j < m → z.Cells[j]? = some c → isC s.Floor c = true ∧ zonedK (kd s.Floor c) = true ∧ zAt (s.Zones.take i) c = false) ∧ (∀ (j : Nat) x y, j + 1 < m → z.Cells[j]? = some x → z.Cells[j + 1]? = some y → x < y)) ⟨fun j c h => by omega, fun j x y h => by omega⟩ (fun m c hc hidc hlc hm Y2 hY2 => Ite.lt hlc ⟨c, hidc, ?_⟩)
          (fun h => Ite.nlt (by omega) ⟨fun c hc => ?_, fun j x y hx hy => h.2 j x y (List.getElem?_eq_some_iff.1 hy).1 hx hy⟩)) (fun _ h => ?_)
      · refine Jn.mk (fun b => b = false → isC s.Floor c = true ∧ ∀ x, 0 < m → z.Cells[m - 1]? = some x → x < c) (S_ref07_Is hf (Ite.mk (fun h2 => Ite.mk (fun h3 => ?_) (fun h3 => fun _ => ⟨h2, fun x h0 => by simp at h3; omega⟩)) (fun h2 h => by cases h))) (fun b hb => Ite.mk (fun _ => hF) (fun h2 => ?_))
        · simp at h3
          have hl := kz.Cells.1
          have hx : z.Cells[m - 1]? = some (z.Cells[m - 1]'(by omega)) := List.getElem?_eq_getElem _
          refine ⟨_, idx_of (n := m - 1) ?_ hx, fun h4 => ⟨h2, fun x h0 hx' => ?_⟩⟩
          · simp only [maxLen] at hl
            rw [w64_eq (by omega) (by omega), imax]; split <;> omega
          · rw [hx] at hx'; cases hx'
            simp at h4; exact h4
        · obtain ⟨hcc, hasc⟩ := hb h2
          refine Jn.mk (fun b => b = false → zonedK (kd s.Floor c) = true ∧ zAt (s.Zones.take i) c = false) ⟨_, idx_kd hcc, S_ref11_zoned (Ite.mk (fun h3 => ⟨⟨by omega, by omega, by omega⟩, ?_⟩) (fun h3 h => by cases h))⟩ (fun b hb' => Ite.mk (fun _ => hF) (fun h4 => hY2 ?_))
          · rw [sub0]; exact S_ref11_zoneAt ktl kt (fun h => ⟨h3, h⟩)
          · obtain ⟨q1, q2⟩ := hb' h4
            refine ⟨fun j c' hj hc' => ?_, fun j x y hj hx hy => ?_⟩
            · by_cases e : j = m
              · subst e; rw [hc] at hc'; cases hc'; exact ⟨hcc, q1, q2⟩
              · exact hm.1 j c' (by omega) hc'
            · by_cases e : j + 1 = m
              · subst e
                rw [hc] at hy; cases hy
                exact hasc x (by omega) (by simpa using hx)
              · exact hm.2 j x y (by omega) hx hy
      · obtain ⟨j, hj⟩ := List.getElem?_of_mem hc
        exact h.1 j c (List.getElem?_eq_some_iff.1 hj).1 hj
      · exact ⟨b1, b2, b3, b4, b5, b6, h.1, h.2⟩
    · intro _ hz'
      refine hY (fun j y hj hy => ?_)
      by_cases e : j = i
      · subst e; rw [hz] at hy; cases hy; exact hz'
      · exact hall j y (by omega) hy
  · cases hb : decide ((s.Zones.length : Int) ≤ 64)
    · exact hF
    · exact hT (by simp at hb; omega) h

/-- a shelf is near an earlier one from whose class its class is apart -/
def badSh (s : ApiSite) (i : Nat) (d : Int) : Prop := ∃ x y, s.Shelves[i]? = some x ∧ 0 ≤ nbr s.Floor x.Cell d ∧ 0 ≤ shAt s.Shelves (nbr s.Floor x.Cell d) ∧ shAt s.Shelves (nbr s.Floor x.Cell d) < i ∧ idx s.Shelves (shAt s.Shelves (nbr s.Floor x.Cell d)) = some y ∧ apB s.Aparts x.Class y.Class = true
theorem shAt_bd (l : List ApiShelf) (c : Int) : -1 ≤ shAt l c ∧ shAt l c < l.length := fidx_lt
theorem S_ref11_Beside {s : ApiSite} (k : OkApiSite s) (hf : RF s.Floor) {post : Int → Prop} (hF : ∀ i : Nat, i < s.Shelves.length → post (i : Int)) (hT : (∀ (i : Nat) (d : Int), 0 ≤ d → d < 4 → ¬ badSh s i d) → post (-1)) : V_taquinref11_Beside s post := by
  unfold V_taquinref11_Beside
  refine Jn.mk (fun _ => ∀ (i : Nat) (d : Int), 0 ≤ d → d < 4 → ¬ badSh s i d) (Loop.each s.Shelves k.Shelves.1 (fun i => ∀ (j : Nat) (d : Int), j < i → 0 ≤ d → d < 4 → ¬ badSh s j d) (fun j d h => by omega) (fun i x hx hidx hlt hall Y hY => Ite.lt hlt ?_)
    (fun h => Ite.nlt (by omega) (fun i d h0 h1 hb => by
      obtain ⟨x, y, hx, _⟩ := hb
      exact h i d (List.getElem?_eq_some_iff.1 hx).1 h0 h1 ⟨x, y, hx, ‹_›⟩))) (fun _ h => hT h)
  refine Jn.mk (fun _ => ∀ d : Int, 0 ≤ d → d < 4 → ¬ badSh s i d) (Jn.mk (fun _ => ∀ d : Int, 0 ≤ d → d < 4 → ¬ badSh s i d) (Loop.upto 4 (fun n => ∀ d : Int, 0 ≤ d → d < n → ¬ badSh s i d) (fun d h0 h1 => by omega) (fun n hn hd Y2 hY2 => Ite.lt (by omega) ⟨x, hidx, S_ref07_Beside hf (S_ref11_shelfAt k.Shelves.1 ?_)⟩) (fun h => Ite.nlt (by omega) h)) (fun _ h => h)) (fun _ h => hY (fun j d hj h0 h1 => ?_))
  · have hb := shAt_bd s.Shelves (nbr s.Floor x.Cell n)
    refine Jn.mk (fun b => b = false → ¬ badSh s i n) (Ite.mk (fun h1 => Ite.mk (fun h2 => Ite.mk (fun h3 => ?_) (fun h3 _ => ?_)) (fun h2 _ => ?_)) (fun h1 _ => ?_)) (fun b hb' => Ite.mk (fun _ => hF i (by omega)) (fun h4 => ?_))
    · simp at h1 h2 h3
      have e : imax (shAt s.Shelves (nbr s.Floor x.Cell n)) 0 = shAt s.Shelves (nbr s.Floor x.Cell n) := by rw [imax]; split <;> omega
      rw [e]
      have hy := idx_get (xs := s.Shelves) h2 (by omega)
      refine ⟨_, hy, S_ref11_Apart k.Aparts.1 (fun h => ?_)⟩
      rintro ⟨x', y', hx', _, _, _, hy', hap⟩
      rw [hx] at hx'; cases hx'
      rw [hy] at hy'; cases hy'
      rw [h] at hap; cases hap
    · simp at h3
      rintro ⟨x', y', hx', _, _, h5, _⟩
      rw [hx] at hx'; cases hx'
      omega
    · simp at h2
      rintro ⟨x', y', hx', _, h5, _⟩
      rw [hx] at hx'; cases hx'
      omega
    · simp at h1
      rintro ⟨x', y', hx', h5, _⟩
      rw [hx] at hx'; cases hx'
      omega
    · have := hY2 (fun d h0 h1 => by
        by_cases e : d = n
        · subst e; exact hb' h4
        · exact hd d h0 (by omega))
      rw [w64_eq (by omega) (by omega)]; simpa using this
  · by_cases e : j = i
    · subst e; exact h d h0 h1
    · exact hall j d (by omega) h0 h1

/-- a right site -/
structure RSite (s : ApiSite) : Prop where
  fl : RF s.Floor
  z64 : s.Zones.length ≤ 64
  zone : ∀ (i : Nat) z, s.Zones[i]? = some z → RZone s (s.Zones.take i) z
  sh3 : s.Shelves.length ≤ 3000
  r2 : s.Robots.length ≤ 200
  ap : ∀ (i : Nat) x, s.Aparts[i]? = some x → 1 ≤ x.A.size ∧ 1 ≤ x.B.size ∧ apB (s.Aparts.take i) x.A x.B = false
  sh : ∀ (i : Nat) x, s.Shelves[i]? = some x → isC s.Floor x.Cell = true ∧ standK (kd s.Floor x.Cell) = true ∧ shAt (s.Shelves.take i) x.Cell < 0
  rb : ∀ (i : Nat) x, s.Robots[i]? = some x → isC s.Floor x.Cell = true ∧ 0 ≤ x.Charge ∧ x.Charge ≤ 1000000 ∧ kd s.Floor x.Cell ≠ 0 ∧ rbAt (s.Robots.take i) x.Cell = false
  room : ∀ z, z ∈ s.Zones → z.Keep ≤ (z.Cells.countP (blankB s) : Nat)
  apart : ∀ (i : Nat) (d : Int), 0 ≤ d → d < 4 → ¬ badSh s i d
  charger : s.Floor.Kind.contains 3 = true
theorem RSite.zm {s : ApiSite} (h : RSite s) {z : ApiZone} (hz : z ∈ s.Zones) : ∃ i : Nat, RZone s (s.Zones.take i) z := by
  obtain ⟨i, hi⟩ := List.getElem?_of_mem hz
  exact ⟨i, h.zone i z hi⟩
theorem RSite.rs {s : ApiSite} (h : RSite s) : RS s where
  fl := h.fl
  asc z hz := (h.zm hz).elim fun _ q => q.ascL
  zc z hz c hc := (h.zm hz).elim fun _ q => (q.cell c hc).1
  sp z hz := (h.zm hz).elim fun _ q => q.sp

theorem S_ref11_Right {s : ApiSite} (k : OkApiSite s) {post : Bool → Prop} (hF : post false) (hT : RSite s → post true) : V_taquinref11_Right s post := by
  unfold V_taquinref11_Right
  refine Jn.mk (fun b => b = false → RF s.Floor ∧ s.Zones.length ≤ 64 ∧ (∀ (i : Nat) z, s.Zones[i]? = some z → RZone s (s.Zones.take i) z) ∧ s.Shelves.length ≤ 3000 ∧ s.Robots.length ≤ 200)
    (S_ref07_Right (Ite.f rfl (fun h => by cases h)) (fun hf => Ite.t rfl (S_ref11_rightZones k hf (Ite.f rfl (fun h => by cases h)) (fun z1 z2 => Ite.t rfl (Ite.mk (fun _ h => by cases h) (fun h1 h2 => ⟨hf, z1, z2, by simp at h1; omega, by simp at h2; omega⟩)))))) (fun b hb => Ite.mk (fun _ => hF) (fun hb' => ?_))
  obtain ⟨hf, z1, z2, l1, l2⟩ := hb hb'
  refine Jn.mk (fun _ => ∀ (i : Nat) x, s.Aparts[i]? = some x → 1 ≤ x.A.size ∧ 1 ≤ x.B.size ∧ apB (s.Aparts.take i) x.A x.B = false) (Loop.each s.Aparts k.Aparts.1 (fun i => ∀ (j : Nat) x, j < i → s.Aparts[j]? = some x → 1 ≤ x.A.size ∧ 1 ≤ x.B.size ∧ apB (s.Aparts.take j) x.A x.B = false) (fun j z h => by omega) (fun i x hx hidx hlt hall Y hY => Ite.lt hlt ⟨x, hidx, ?_⟩) (fun h => Ite.nlt (by omega) (fun i z hz => h i z (List.getElem?_eq_some_iff.1 hz).1 hz))) (fun _ hap => ?_)
  · have kx := k.Aparts.2 x (List.mem_of_getElem? hx)
    refine Jn.mk (fun b => b = false → 1 ≤ x.A.size ∧ 1 ≤ x.B.size ∧ apB (s.Aparts.take i) x.A x.B = false) (S_ref11_Name kx.A (Ite.f rfl (fun h => by cases h)) (fun a1 a2 => Ite.t rfl (S_ref11_Name kx.B (Ite.f rfl (fun h => by cases h)) (fun b1 b2 => Ite.t rfl ⟨⟨by omega, by omega, by omega⟩, ?_⟩)))) (fun b hb => Ite.mk (fun _ => hF) (fun hb' => hY (fun j y hj hy => ?_)))
    · rw [sub0]; exact S_ref11_Apart (Nat.le_trans (by simp; omega) k.Aparts.1) (fun h => ⟨a1, b1, h⟩)
    · by_cases e : j = i
      · subst e; rw [hx] at hy; cases hy; exact hb hb'
      · exact hall j y (by omega) hy
  refine Jn.mk (fun _ => ∀ (i : Nat) x, s.Shelves[i]? = some x → isC s.Floor x.Cell = true ∧ standK (kd s.Floor x.Cell) = true ∧ shAt (s.Shelves.take i) x.Cell < 0) (Loop.each s.Shelves k.Shelves.1 (fun i => ∀ (j : Nat) x, j < i → s.Shelves[j]? = some x → isC s.Floor x.Cell = true ∧ standK (kd s.Floor x.Cell) = true ∧ shAt (s.Shelves.take j) x.Cell < 0) (fun j z h => by omega) (fun i x hx hidx hlt hall Y hY => Ite.lt hlt ⟨x, hidx, ?_⟩) (fun h => Ite.nlt (by omega) (fun i z hz => h i z (List.getElem?_eq_some_iff.1 hz).1 hz))) (fun _ hsh => ?_)
  · have kx := k.Shelves.2 x (List.mem_of_getElem? hx)
    refine Jn.mk (fun b => b = false → isC s.Floor x.Cell = true) (S_ref07_Is hf (Ite.mk (fun h1 => Ite.mk (fun _ _ => h1) (fun _ => S_ref11_Name kx.Class (fun h => by cases h) (fun _ _ _ => h1))) (fun _ h => by cases h))) (fun b hb => Ite.mk (fun _ => hF) (fun hb' => ?_))
    have hc := hb hb'
    refine Jn.mk (fun b => b = false → standK (kd s.Floor x.Cell) = true ∧ shAt (s.Shelves.take i) x.Cell < 0) ⟨_, idx_kd hc, S_ref11_stands (Ite.mk (fun h1 => ⟨⟨by omega, by omega, by omega⟩, ?_⟩) (fun h1 h => by cases h))⟩ (fun b hb => Ite.mk (fun _ => hF) (fun hb' => hY (fun j y hj hy => ?_)))
    · rw [sub0]; exact S_ref11_shelfAt (Nat.le_trans (by simp; omega) k.Shelves.1) (fun h => ⟨h1, by simpa using h⟩)
    · by_cases e : j = i
      · subst e; rw [hx] at hy; cases hy; exact ⟨hc, hb hb'⟩
      · exact hall j y (by omega) hy
  refine Jn.mk (fun _ => ∀ (i : Nat) x, s.Robots[i]? = some x → isC s.Floor x.Cell = true ∧ 0 ≤ x.Charge ∧ x.Charge ≤ 1000000 ∧ kd s.Floor x.Cell ≠ 0 ∧ rbAt (s.Robots.take i) x.Cell = false) (Loop.each s.Robots k.Robots.1 (fun i => ∀ (j : Nat) x, j < i → s.Robots[j]? = some x → isC s.Floor x.Cell = true ∧ 0 ≤ x.Charge ∧ x.Charge ≤ 1000000 ∧ kd s.Floor x.Cell ≠ 0 ∧ rbAt (s.Robots.take j) x.Cell = false) (fun j z h => by omega) (fun i x hx hidx hlt hall Y hY => Ite.lt hlt ⟨x, hidx, ?_⟩) (fun h => Ite.nlt (by omega) (fun i z hz => h i z (List.getElem?_eq_some_iff.1 hz).1 hz))) (fun _ hrb => ?_)
  · refine Jn.mk (fun b => b = false → isC s.Floor x.Cell = true ∧ 0 ≤ x.Charge ∧ x.Charge ≤ 1000000) (S_ref07_Is hf (Ite.mk (fun h1 => Ite.mk (fun _ h => by cases h) (fun h2 h3 => ⟨h1, by simpa using h2, by simpa using h3⟩)) (fun _ h => by cases h))) (fun b hb => Ite.mk (fun _ => hF) (fun hb' => ?_))
    obtain ⟨hc, c1, c2⟩ := hb hb'
    refine Jn.mk (fun b => b = false → kd s.Floor x.Cell ≠ 0 ∧ rbAt (s.Robots.take i) x.Cell = false) ⟨_, idx_kd hc, Ite.mk (fun h1 h => by cases h) (fun h1 => ⟨⟨by omega, by omega, by omega⟩, ?_⟩)⟩ (fun b hb => Ite.mk (fun _ => hF) (fun hb' => hY (fun j y hj hy => ?_)))
    · rw [sub0]; exact S_ref11_robotAt (Nat.le_trans (by simp; omega) k.Robots.1) (fun h => ⟨by simpa using h1, h⟩)
    · by_cases e : j = i
      · subst e; rw [hx] at hy; cases hy; exact ⟨hc, c1, c2, hb hb'⟩
      · exact hall j y (by omega) hy
  refine Jn.mk (fun _ => ∀ (i : Nat) z, s.Zones[i]? = some z → z.Keep ≤ (z.Cells.countP (blankB s) : Nat)) (Loop.each s.Zones k.Zones.1 (fun i => ∀ (j : Nat) z, j < i → s.Zones[j]? = some z → z.Keep ≤ (z.Cells.countP (blankB s) : Nat)) (fun j z h => by omega) (fun i x hx hidx hlt hall Y hY => Ite.lt hlt ⟨x, hidx, ?_⟩) (fun h => Ite.nlt (by omega) (fun i z hz => h i z (List.getElem?_eq_some_iff.1 hz).1 hz))) (fun _ hro => ?_)
  · refine S_ref11_blanks k (k.Zones.2 x (List.mem_of_getElem? hx)).Cells.1 (fun c hc => ((z2 i x hx).cell c hc).1) (Ite.mk (fun _ => hF) (fun h1 => hY (fun j y hj hy => ?_)))
    by_cases e : j = i
    · subst e; rw [hx] at hy; cases hy; simpa using h1
    · exact hall j y (by omega) hy
  refine Jn.mk' (S_ref11_Beside k hf (fun i hi => Ite.f (by simp) hF) (fun hbs => Ite.t (by decide) (S_ref11_charger k.Floor.Kind.1 ?_)))
  cases hch : s.Floor.Kind.contains 3
  · exact hF
  · exact hT ⟨hf, z1, z2, l1, l2, hap, hsh, hrb, fun z hz => (List.getElem?_of_mem hz).elim fun i hi => hro i z hi, hbs, hch⟩

theorem S_ref07_Few {f : ApiFloor} {n : Int} {post : Bool → Prop} (hF : post false) (hT : f.Kind.length ≤ n → f.Out.length ≤ n → post true) : V_taquinref07_Few f n post := by
  unfold V_taquinref07_Few
  refine Jn.mk' (Ite.mk (fun h1 => ?_) (fun h1 => hF))
  simp at h1
  cases hb : decide ((f.Out.length : Int) ≤ n)
  · exact hF
  · exact hT h1 (by simpa using hb)
/-- few -/
structure FewS (s : ApiSite) (cells most : Int) : Prop where
  kind : s.Floor.Kind.length ≤ cells
  zones : s.Zones.length ≤ most
  aparts : s.Aparts.length ≤ most
  shelves : s.Shelves.length ≤ most
  robots : s.Robots.length ≤ most
  zone : ∀ z, z ∈ s.Zones → z.Cells.length ≤ cells ∧ z.Shut.length ≤ 20
theorem S_ref11_Few {s : ApiSite} (k : OkApiSite s) {cells most : Int} (hm : 0 ≤ most ∧ most ≤ 1000000) {post : Bool → Prop} (hF : post false) (hT : FewS s cells most → post true) : V_taquinref11_Few s cells most post := by
  unfold V_taquinref11_Few
  refine V_few s.Zones k.Zones.1 (T := fun s3 q => Jn (fun (J10 : Bool → Prop) => ∃ x11, idx s.Zones s3 = some x11 ∧ Ite (decide ((x11.Cells.length : Int) > cells)) (J10 true) (Ite (decide ((x11.Shut.length : Int) > 20)) (J10 true) (J10 (decide ((x11.Name.size : Int) > 40))))) q) (fun z => z.Cells.length ≤ cells ∧ z.Shut.length ≤ 20) (fun i x hx q q1 q2 => Jn.ex x hx (Jor3 ?_)) hF (fun hz => ?_)
  · cases hb : (decide ((x.Cells.length : Int) > cells) || decide ((x.Shut.length : Int) > 20) || decide ((x.Name.size : Int) > 40))
    · simp only [Bool.or_eq_false_iff, decide_eq_false_iff_not] at hb
      exact q2 ⟨by omega, by omega⟩
    · exact q1
  refine V_few s.Aparts k.Aparts.1 (T := fun s3 q => Jn (fun (J10 : Bool → Prop) => ∃ x11, idx s.Aparts s3 = some x11 ∧ Ite (decide ((x11.A.size : Int) > 40)) (J10 true) (J10 (decide ((x11.B.size : Int) > 40)))) q) (fun z => True) (fun i x hx q q1 q2 => Jn.ex x hx (Jor2 ?_)) hF (fun _ => ?_)
  · cases hb : (decide ((x.A.size : Int) > 40) || decide ((x.B.size : Int) > 40))
    · exact q2 trivial
    · exact q1
  refine V_few s.Shelves k.Shelves.1 (T := fun s3 q => ∃ x11, idx s.Shelves s3 = some x11 ∧ q (decide ((x11.Class.size : Int) > 40))) (fun z => True) (fun i x hx q q1 q2 => ⟨x, hx, ?_⟩) hF (fun _ => ?_)
  · cases hb : (decide ((x.Class.size : Int) > 40))
    · exact q2 trivial
    · exact q1
  refine Jn.mk' (S_ref07_Few (Ite.f rfl hF) (fun f1 f2 => Ite.t rfl (Ite.mk (fun h1 => Ite.mk (fun h2 => Ite.mk (fun h3 => ?_) (fun _ => hF)) (fun _ => hF)) (fun _ => hF))))
  simp at h1 h2 h3
  cases hb : decide ((s.Robots.length : Int) ≤ most)
  · exact hF
  · exact hT ⟨f1, h1, h2, h3, by simpa using hb, hz h1⟩
end Go.Taq

/- The mathematics, part T: the route statements' small examples and bounds. -/
set_option linter.unusedVariables false
namespace Go.Taq
open Go

theorem S_law23_fair {s : ApiSite} (k : OkApiSite s) {taken : List ApiTaken} {avoid : List Int} {post : Bool → Prop} (hF : post false) (hT : RSite s → FewS s 50 20 → (∀ z, z ∈ s.Zones → z.Speed ≤ 6) → taken.length ≤ 30 → avoid.length ≤ 30 → post true) : V_taquinlaw23_fair s taken avoid post := by
  unfold V_taquinlaw23_fair
  refine V_few s.Zones k.Zones.1 (T := fun s3 q => ∃ x9, idx s.Zones s3 = some x9 ∧ q (decide (x9.Speed > 6))) (fun z => z.Speed ≤ 6) (fun i x hx q q1 q2 => ⟨x, hx, ?_⟩) hF (fun hz => ?_)
  · cases hb : (decide (x.Speed > 6))
    · exact q2 (by simpa using hb)
    · exact q1
  · refine Jn.mk' (S_ref11_Few k (by omega) (Ite.f rfl hF) (fun hf => Ite.t rfl (S_ref11_Right k (Ite.f rfl hF) (fun hr => Ite.t rfl (Ite.mk (fun h1 => ?_) (fun _ => hF))))))
    simp at h1
    cases hb : decide ((avoid.length : Int) ≤ 30)
    · exact hF
    · exact hT hr hf (hz hf.zones) (by omega) (by simp at hb; omega)

theorem S_ref07_Same {a b : List Int} (hm : a.length ≤ maxLen) {post : Bool → Prop} (hp : post (decide (a = b))) : V_taquinref07_Same a b post := by
  unfold V_taquinref07_Same
  refine Ite.mk (fun h1 => ?_) (fun h1 => ?_)
  · have : decide (a = b) = false := by
      simp at h1 ⊢
      rintro rfl; exact h1 rfl
    rw [← this]; exact hp
  · have hl : a.length = b.length := by simp at h1; omega
    refine Jn.mk (fun _ => a = b) (Loop.upto a.length (fun i => ∀ j : Nat, j < i → a[j]? = b[j]?) (fun j h => by omega) (fun i hi h Y hY => Ite.lt (by omega) ?_) (fun h => Ite.nlt (by omega) ?_)) (fun _ h => ?_)
    · have ha : a[i]? = some (a[i]'hi) := List.getElem?_eq_getElem hi
      have hb : b[i]? = some (b[i]'(by omega)) := List.getElem?_eq_getElem (by omega)
      refine ⟨_, idx_of rfl ha, _, idx_of rfl hb, Ite.mk (fun h2 => ?_) (fun h2 => ?_)⟩
      · have : decide (a = b) = false := by
          simp at h2 ⊢
          intro e; subst e; exact h2 rfl
        rw [← this]; exact hp
      · rw [w64_nat hi hm]
        refine hY (fun j hj => ?_)
        by_cases e : j = i
        · subst e; rw [ha, hb]; simp at h2; rw [h2]
        · exact h j (by omega)
    · apply List.ext_getElem?
      intro j
      rcases Nat.lt_or_ge j a.length with h2 | h2
      · exact h j h2
      · rw [List.getElem?_eq_none h2, List.getElem?_eq_none (by omega)]
    · simpa [h] using hp

/-! ## the examples -/
def exS : ApiSite := { Floor := ({ W := 4, H := 1, D := 1, Kind := ([3, 1, 1, 1] : List Int), Out := ([1, 5, 5, 4] : List Int) : ApiFloor }), Zones := [], Aparts := [], Shelves := [], Robots := [] }
def words : Nat → List (List Int)
  | 0 => [[]]
  | n + 1 => (words n).flatMap fun w => [0 :: w, 1 :: w, 2 :: w, 3 :: w, 4 :: w, 5 :: w, 6 :: w]
theorem mem_words : ∀ (v : List Int), (∀ x, x ∈ v → 0 ≤ x ∧ x < 7) → v ∈ words v.length
  | [], _ => by simp [words]
  | x :: v, h => by
    have hx := h x (by simp)
    have ih := mem_words v (fun y hy => h y (by simp [hy]))
    simp only [List.length_cons, words, List.mem_flatMap]
    refine ⟨v, ih, ?_⟩
    have : x = 0 ∨ x = 1 ∨ x = 2 ∨ x = 3 ∨ x = 4 ∨ x = 5 ∨ x = 6 := by omega
    rcases this with rfl | rfl | rfl | rfl | rfl | rfl | rfl <;> simp
def lexB : List Int → List Int → Bool
  | x :: u, y :: v => decide (x < y) || (decide (x = y) && lexB u v)
  | _, _ => false
theorem lexB_of : ∀ {u v : List Int}, LexLt u v → lexB u v = true
  | u, v, ⟨0, x, y, h1, h2, h3, h4⟩ => by
    cases u with
    | nil => simp at h2
    | cons a u => cases v with
      | nil => simp at h3
      | cons b v => simp at h2 h3; subst h2; subst h3; simp [lexB, h4]
  | u, v, ⟨j + 1, x, y, h1, h2, h3, h4⟩ => by
    cases u with
    | nil => simp at h2
    | cons a u => cases v with
      | nil => simp at h3
      | cons b v =>
        simp at h1 h2 h3
        have := lexB_of (u := u) (v := v) ⟨j, x, y, h1.2, h2, h3, h4⟩
        simp [lexB, h1.1, this]
section
variable {s : ApiSite} {a b tick : Int} {taken : List ApiTaken} {avoid : List Int}
def goodB (s : ApiSite) (a b tick : Int) (taken : List ApiTaken) (avoid : List Int) (v : List Int) : Bool :=
  decide ((runF s taken avoid tick (a, 0) v).2 = 0) && decide ((runF s taken avoid tick (a, 0) v).1.1 = b) && !(heldT taken b (tick + v.length))
theorem goodB_of {v : List Int} (h : GoodW s a b tick taken avoid v) : goodB s a b tick taken avoid v = true := by
  unfold goodB
  obtain ⟨_, h1, h2, h3⟩ := h
  simp [h1, h2, h3]
theorem good_of {v : List Int} (hv : ∀ x, x ∈ v → 0 ≤ x ∧ x < 7) (h : goodB s a b tick taken avoid v = true) : GoodW s a b tick taken avoid v := by
  unfold goodB at h
  simp only [Bool.and_eq_true, decide_eq_true_eq, Bool.not_eq_true'] at h
  exact ⟨hv, h.1.1, h.1.2, h.2⟩
/-- the least one is known, if all before it are tried -/
def leastB (s : ApiSite) (a b tick : Int) (taken : List ApiTaken) (avoid v : List Int) : Bool :=
  v.all (fun x => decide (0 ≤ x) && decide (x < 7)) && goodB s a b tick taken avoid v && (List.range v.length).all (fun i => (words i).all fun w => !goodB s a b tick taken avoid w) && (words v.length).all (fun w => !lexB w v || !goodB s a b tick taken avoid w)
theorem least_eq {v r : List Int} (h : leastB s a b tick taken avoid v = true) (hr : GoodW s a b tick taken avoid r) (hm : ∀ v, GoodW s a b tick taken avoid v → r.length ≤ v.length ∧ (v.length = r.length → v = r ∨ LexLt r v)) : GoodW s a b tick taken avoid v ∧ r = v := by
  unfold leastB at h
  simp only [Bool.and_eq_true, List.all_eq_true, List.mem_range, decide_eq_true_eq, Bool.not_eq_true', Bool.or_eq_true] at h
  obtain ⟨⟨⟨h1, h2⟩, h3⟩, h4⟩ := h
  have hg := good_of h1 h2
  refine ⟨hg, ?_⟩
  obtain ⟨m1, m2⟩ := hm v hg
  have hw := mem_words r hr.1
  have hgr := goodB_of hr
  by_cases e : r.length = v.length
  · rcases m2 e.symm with e2 | e2
    · exact e2.symm
    · rcases h4 r (by rw [← e]; exact hw) with h5 | h5
      · rw [lexB_of e2] at h5; cases h5
      · rw [hgr] at h5; cases h5
  · have := h3 r.length (by omega) r hw
    rw [hgr] at this; cases this
end
theorem exRF : RF exS.Floor := by
  refine ⟨by decide, by decide, by decide, by decide, by decide, by decide, by decide, by decide, by decide, fun i x y hx hy => ?_⟩
  have hi := (List.getElem?_eq_some_iff.1 hx).1
  have : i = 0 ∨ i = 1 ∨ i = 2 ∨ i = 3 := by simp [exS] at hi; omega
  rcases this with rfl | rfl | rfl | rfl <;> simp [exS] at hx hy <;> omega
theorem exRS : RS exS := ⟨exRF, by simp [exS], by simp [exS], by simp [exS]⟩
theorem exOk : OkApiSite exS := by
  refine ⟨⟨?_, ?_, ?_, ⟨?_, ?_⟩, ⟨?_, ?_⟩⟩, ⟨?_, ?_⟩, ⟨?_, ?_⟩, ⟨?_, ?_⟩, ⟨?_, ?_⟩⟩ <;> simp [exS, I64, maxLen]
theorem ex1 : leastB exS 0 2 0 [] [] [1, 1] = true := by decide +kernel
theorem ex2 : leastB exS 0 2 0 [⟨1, ⟨0, 2⟩⟩] [] [0, 0, 1, 1] = true := by decide +kernel
theorem exR : rightR exS 0 2 0 = true := by decide +kernel
theorem ex4 : checkF exS 0 3 0 [] [] [1, 1] = 13 := by decide +kernel
theorem ex3 {v : List Int} (h : GoodW exS 0 2 0 [⟨2, ⟨0, 400⟩⟩] [] v) : (20 : Int) < v.length := by
  have := h.2.2.2
  have e : heldT [⟨2, ⟨0, 400⟩⟩] 2 (0 + (v.length : Int)) = decide ((v.length : Int) < 400) := by
    simp [heldT, spansOf, inS]
  rw [e] at this
  simp at this; omega
theorem ex_find {v : List Int} {taken : List ApiTaken} (hl : taken.length ≤ 1) (h : leastB exS 0 2 0 taken [] v = true) (h20 : v.length ≤ 20) {post : List Int × Int → Prop} (hp : post (v, 0)) : V_route_Find exS 0 2 0 taken [] 20 post := by
  have hg : GoodW exS 0 2 0 taken [] v := by
    unfold leastB at h
    simp only [Bool.and_eq_true, List.all_eq_true, decide_eq_true_eq] at h
    exact good_of h.1.1.1 h.1.1.2
  refine S_route_Find exOk exRS (by simp [maxLen]) (by omega) (fun h1 => ?_) (fun _ h1 => by omega) (fun _ _ _ h1 => ?_) (fun _ _ _ r hr hrl hm => ?_)
  · rw [exR] at h1; simp at h1
  · have := h1 v hg; omega
  · rw [(least_eq h hr hm).2]; exact hp
theorem S_law23_small {post : Bool → Prop} (hp : post true) : V_taquinlaw23_small post := by
  unfold V_taquinlaw23_small V_taquinlaw23_example
  change V_route_Find exS _ _ _ _ _ _ _
  refine ex_find (by simp) ex1 (by simp) ?_
  change V_route_Find exS _ _ _ _ _ _ _
  refine ex_find (by simp) ex2 (by simp) ?_
  change V_route_Find exS _ _ _ _ _ _ _
  refine S_route_Find exOk exRS (by simp [maxLen]) (by simp) (fun h1 => ?_) (fun _ h1 => by omega) (fun _ _ _ h1 => ?_) (fun _ _ _ r hr hrl hm => ?_)
  · rw [exR] at h1; simp at h1
  · change V_route_Check exS _ _ _ _ _ _ _
    refine S_route_Check exOk exRS (by simp [maxLen]) (by simp) (by simp) ?_
    rw [ex4]
    refine Jn.mk' (S_ref07_Same (by simp [maxLen]) (Ite.t (by simp) (Ite.t rfl (S_ref07_Same (by simp [maxLen]) (Ite.t (by simp) (Ite.t rfl (Ite.t rfl hp)))))))
  · have := ex3 hr; omega
end Go.Taq
