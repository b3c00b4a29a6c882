/- The mathematics, part I: the search, whole: what it returns is the least of the fastest walks. -/
import Derived.Test.YtliikemkgfjpaaaMH
set_option linter.unusedVariables false
namespace Go.Taq
open Go
theorem isSet_set {κ : Type} [DecidableEq κ] {l : List (List (κ × Bool))} {F : Nat → κ → Prop} {i : Nat} {m : List (κ × Bool)} {S : κ → Prop} (h : ∀ (j : Nat) m, l[j]? = some m → IsSet m (F j)) (hm : IsSet m S) : ∀ (j : Nat) m', (l.set i m)[j]? = some m' → IsSet m' (if j = i then S else F j) := fun j m' hj => by
  rw [List.getElem?_set] at hj
  by_cases e : i = j
  · subst e
    rw [if_pos rfl] at hj
    split at hj
    · cases hj; rw [if_pos rfl]; exact hm
    · cases hj
  · rw [if_neg e] at hj
    rw [if_neg (fun e' => e e'.symm)]; exact h j m' hj
/-- u comes before v -/
def LexLt (u v : List Int) : Prop := ∃ (j : Nat) (x y : Int), u.take j = v.take j ∧ u[j]? = some x ∧ v[j]? = some y ∧ x < y
section
variable {s : ApiSite} {a b tick : Int} {taken : List ApiTaken} {avoid : List Int}
/-- a good walk -/
def GoodW (s : ApiSite) (a b tick : Int) (taken : List ApiTaken) (avoid : List Int) (v : List Int) : Prop :=
  (∀ x, x ∈ v → 0 ≤ x ∧ x < 7) ∧ (runF s taken avoid tick (a, 0) v).2 = 0 ∧ Goal b tick taken v.length (runF s taken avoid tick (a, 0) v).1
theorem runF_app : ∀ (u v : List Int) {t : Int} {q : Int × Int}, (runF s taken avoid t q u).2 = 0 → runF s taken avoid t q (u ++ v) = runF s taken avoid (t + u.length) (runF s taken avoid t q u).1 v
  | [], v, t, q, _ => by simp [runF]
  | x :: u, v, t, q, h => by
    rw [runF] at h
    rw [List.cons_append, runF, runF]
    split at h
    · rename_i e
      rw [if_pos e, if_pos e, runF_app u v h]
      congr 1
      simp; omega
    · rename_i e; exact absurd h e
theorem runF_pre : ∀ (u v : List Int) {t : Int} {q : Int × Int}, (runF s taken avoid t q (u ++ v)).2 = 0 → (runF s taken avoid t q u).2 = 0
  | [], v, t, q, _ => by simp [runF]
  | x :: u, v, t, q, h => by
    rw [List.cons_append, runF] at h
    rw [runF]
    split at h
    · rename_i e; rw [if_pos e]; exact runF_pre u v h
    · rename_i e; exact absurd h e
theorem runF_rch (u : List Int) : (∀ x, x ∈ u → 0 ≤ x ∧ x < 7) → (runF s taken avoid tick (a, 0) u).2 = 0 → Rch s a tick taken avoid u.length (runF s taken avoid tick (a, 0) u).1 := by
  generalize hn : u.length = n
  induction n generalizing u with
  | zero => intro _ _; have : u = [] := List.eq_nil_of_length_eq_zero hn; subst this; rfl
  | succ n ih =>
    intro hv he
    obtain ⟨u', x, rfl⟩ : ∃ u' x, u = u' ++ [x] := ⟨u.dropLast, u.getLast (by intro e; subst e; simp at hn), (List.dropLast_concat_getLast _).symm⟩
    have hl : u'.length = n := by simpa using hn
    have h1 := runF_pre u' [x] he
    have h2 := runF_app u' [x] h1
    rw [h2] at he ⊢
    have h3 := ih u' hl (fun y hy => hv y (by simp [hy])) h1
    have hx := hv x (by simp)
    rw [hl] at he ⊢
    rw [runF] at he ⊢
    split at he
    · rename_i e
      rw [if_pos e, runF]
      exact ⟨_, x, h3, hx.1, hx.2, Prod.ext rfl e⟩
    · rename_i e; exact absurd he e
theorem on_zero {L : Nat} : ∀ {i : Nat} {p : Int × Int}, i ≤ L → On_ s a b tick taken avoid L i p → On_ s a b tick taken avoid L 0 (a, 0)
  | 0, p, _, h => by have : p = (a, 0) := h.1; rw [this] at h; exact h
  | i + 1, p, hi, h => by
    obtain ⟨q, act, hq, h0, h1, e⟩ := h.1
    exact on_zero (by omega) ((on_iff (by omega) hq).2 ⟨act, h0, h1, by unfold Into; rw [e]; exact ⟨rfl, h⟩⟩)
/-- the step of a walk at a place of it -/
theorem run_at {v : List Int} (hv : ∀ x, x ∈ v → 0 ≤ x ∧ x < 7) (he : (runF s taken avoid tick (a, 0) v).2 = 0) {i : Nat} {x : Int} (hx : v[i]? = some x) :
    (runF s taken avoid tick (a, 0) (v.take i)).2 = 0 ∧ Rch s a tick taken avoid i (runF s taken avoid tick (a, 0) (v.take i)).1 ∧ stepF s taken avoid (tick + i) (runF s taken avoid tick (a, 0) (v.take i)).1 x = ((runF s taken avoid tick (a, 0) (v.take (i + 1))).1, 0) := by
  have hlt := (List.getElem?_eq_some_iff.1 hx).1
  have hl : (v.take i).length = i := by simp; omega
  have e1 : v.take (i + 1) = v.take i ++ [x] := by rw [List.take_add_one, hx]; rfl
  have e2 : v = (v.take i ++ [x]) ++ v.drop (i + 1) := by rw [← e1, List.take_append_drop]
  have h2 : (runF s taken avoid tick (a, 0) (v.take i ++ [x])).2 = 0 := runF_pre _ (v.drop (i + 1)) (by rw [← e2]; exact he)
  have h1 := runF_pre (v.take i) [x] h2
  refine ⟨h1, ?_, ?_⟩
  · have := runF_rch (s := s) (a := a) (tick := tick) (taken := taken) (avoid := avoid) (v.take i) (fun y hy => hv y (List.mem_of_mem_take hy)) h1
    rwa [hl] at this
  · rw [e1, runF_app _ [x] h1, hl]
    rw [runF_app _ [x] h1, hl, runF] at h2
    rw [runF]
    split at h2
    · rename_i e; rw [if_pos e, runF]; exact Prod.ext rfl e
    · rename_i e; exact absurd h2 e
theorem good_on {v : List Int} {L : Nat} (hv : GoodW s a b tick taken avoid v) (hL : v.length = L) : ∀ (j i : Nat), i + j = L → On_ s a b tick taken avoid L i (runF s taken avoid tick (a, 0) (v.take i)).1
  | 0, i, h => by
    have : i = v.length := by omega
    subst this
    rw [List.take_length]
    refine ⟨runF_rch v hv.1 hv.2.1, ?_⟩
    rw [hL, Nat.sub_self]; exact hv.2.2.1
  | j + 1, i, h => by
    have ih := good_on hv hL j (i + 1) (by omega)
    have hx : v[i]? = some (v[i]'(by omega)) := List.getElem?_eq_getElem _
    have hxm := hv.1 _ (List.getElem_mem (l := v) (n := i) (by omega))
    obtain ⟨r1, r2, r3⟩ := run_at hv.1 hv.2.1 hx
    refine (on_iff (by omega) r2).2 ⟨_, hxm.1, hxm.2, ?_⟩
    unfold Into
    rw [r3]; exact ⟨rfl, ih⟩
theorem LexLt.app {u v : List Int} (h : LexLt u v) (w : List Int) : LexLt (u ++ w) v := by
  obtain ⟨j, x, y, h1, h2, h3, h4⟩ := h
  have hj := (List.getElem?_eq_some_iff.1 h2).1
  exact ⟨j, x, y, by rw [List.take_append_of_le_length (by omega)]; exact h1, by rw [List.getElem?_append_left hj]; exact h2, h3, h4⟩

theorem S_route_Find (k : OkApiSite s) (h : RS s) (hav : avoid.length ≤ maxLen) (hl : taken.length ≤ 1099511627776) {most : Int} {post : List Int × Int → Prop}
    (h1 : (rightR s a b tick = false ∨ most < 0) → post ([], 1)) (h2 : rightR s a b tick = true → most > 300 → post ([], 27))
    (h3 : rightR s a b tick = true → 0 ≤ most → most ≤ 300 → (∀ v, GoodW s a b tick taken avoid v → most < v.length) → post ([], 14))
    (h4 : rightR s a b tick = true → 0 ≤ most → most ≤ 300 → ∀ r, GoodW s a b tick taken avoid r → (r.length : Int) ≤ most → (∀ v, GoodW s a b tick taken avoid v → r.length ≤ v.length ∧ (v.length = r.length → v = r ∨ LexLt r v)) → post (r, 0)) :
    V_route_Find s a b tick taken avoid most post := by
  unfold V_route_Find
  have hl' : taken.length ≤ maxLen := by simp [maxLen]; omega
  refine Jn.eq (!rightR s a b tick || decide (most < 0)) (S_route_right h.fl (Ite.mk (fun e => by rw [e]; rfl) (fun e => by rw [e]; rfl))) (Ite.mk (fun e => ?_) (fun e => Ite.mk (fun e2 => ?_) (fun e2 => ?_)))
  · simp only [Bool.or_eq_true, Bool.not_eq_true', decide_eq_true_eq] at e; exact h1 e
  · simp only [Bool.or_eq_false_iff, Bool.not_eq_false', decide_eq_false_iff_not] at e
    simp only [decide_eq_true_eq] at e2
    exact h2 e.1 e2
  · simp only [Bool.or_eq_false_iff, Bool.not_eq_false', decide_eq_false_iff_not] at e
    simp only [decide_eq_false_iff_not] at e2
    obtain ⟨hr, e⟩ := e
    have hr' := hr
    simp only [rightR, Bool.and_eq_true, decide_eq_true_eq] at hr'
    have ht : 0 ≤ tick ∧ tick ≤ 20000 := hr'.2
    have ha : isC s.Floor a = true := hr'.1.1.1
    refine S_newWalk hl (fun w hw => S_layers k h hav hl' ha ht hw ⟨by omega, by omega⟩ (fun hno => ?_) (fun all L hlen hLm hset hgoal hmin => ?_))
    · refine Ite.t rfl (h3 hr (by omega) (by omega) (fun v hv => ?_))
      refine Int.lt_of_not_ge (fun hle => ?_)
      exact hno v.length _ hle (runF_rch v hv.1 hv.2.1) hv.2.2
    · refine Ite.f rfl ?_
      have e0 : w64 ((all.length : Int) - 1) = (L : Int) := by rw [w64_eq (by omega) (by omega)]; omega
      simp only [e0]
      have hmL : all[L]? = some (all[L]'(by omega)) := List.getElem?_eq_getElem _
      generalize all[L]'(by omega) = mL at hmL
      refine ⟨mL, idx_of rfl hmL, Jn.mk (fun m => IsSet m (fun x => On_ s a b tick taken avoid L L (rq x))) (Loop.mk (fun t : List (RouteStand × Bool) × List RouteStand => IsSet t.1 (fun x => Rch s a tick taken avoid L (rq x) ∧ (x ∈ t.2 → x.cell = b))) (fun t => left t.1 t.2) ((hset L mL hmL).cong (by simp)) ?_) ?_⟩
      · rintro ⟨m, seen⟩ hm
        simp only at hm
        refine ⟨fun x v ⟨hx, hns⟩ => ?_, fun hall => ?_⟩
        · refine Jn.mk (fun m' => IsSet m' (fun y => Rch s a tick taken avoid L (rq y) ∧ (y ∈ x :: seen → y.cell = b)) ∧ (∀ sn, left m' sn ≤ left m sn)) (Ite.mk (fun e3 => ⟨mL, idx_of rfl hmL, ?_⟩) (fun e3 => ?_)) (fun m' hm' => ⟨hm'.1, ?_⟩)
          · simp at e3
            refine ⟨(hm.rem x).cong (fun y => ?_), left_del m x⟩
            constructor
            · rintro ⟨⟨p1, p2⟩, p3⟩
              exact ⟨p1, fun p4 => by rcases List.mem_cons.1 p4 with p5 | p5; (exact absurd p5 p3); exact p2 p5⟩
            · rintro ⟨p1, p2⟩
              exact ⟨⟨p1, fun p4 => p2 (List.mem_cons_of_mem _ p4)⟩, fun p4 => e3 (by rw [← p4]; exact p2 (by rw [p4]; exact List.mem_cons_self))⟩
          · simp at e3
            refine ⟨hm.cong (fun y => ?_), fun _ => Nat.le_refl _⟩
            constructor
            · rintro ⟨p1, p2⟩
              exact ⟨p1, fun p4 => by rcases List.mem_cons.1 p4 with p5 | p5; (rw [p5]; exact e3); exact p2 p5⟩
            · rintro ⟨p1, p2⟩
              exact ⟨p1, fun p4 => p2 (List.mem_cons_of_mem _ p4)⟩
          · exact Nat.lt_of_le_of_lt (hm'.2 _) (left_lt m hx hns)
        · refine hm.cong (fun y => ?_)
          unfold On_
          rw [Nat.sub_self, Lead]
          constructor
          · rintro ⟨p1, p2⟩
            exact ⟨p1, p2 (hall y (by rw [hm.all y ⟨p1, p2⟩]; simp))⟩
          · rintro ⟨p1, p2⟩; exact ⟨p1, fun _ => p2⟩
      · intro mF hmF
        have e1 : w64 ((L : Int) - 1) = (L : Int) - 1 := w64_eq (by omega) (by omega)
        simp only [e1, Int.toNat_natCast]
        refine Jn.mk (fun lst => lst.length = L + 1 ∧ ∀ (i : Nat) m, lst[i]? = some m → IsSet m (fun x => On_ s a b tick taken avoid L i (rq x)))
          (Loop.mk (fun t : List (List (RouteStand × Bool)) × Int => -1 ≤ t.2 ∧ t.2 < L ∧ t.1.length = L + 1 ∧ ∀ (i : Nat) m, t.1[i]? = some m → IsSet m (fun x => if (i : Int) ≤ t.2 then Rch s a tick taken avoid i (rq x) else On_ s a b tick taken avoid L i (rq x))) (fun t => (t.2 + 1).toNat)
            ⟨by simp; omega, by simp; omega, by simp [hlen], fun i m hi => ?_⟩ ?_) ?_
        · have := isSet_set hset hmF i m hi
          by_cases e3 : i = L
          · subst e3
            rw [if_pos rfl] at this
            refine this.cong (fun x => ?_)
            rw [if_neg (by simp; omega)]
          · rw [if_neg e3] at this
            refine this.cong (fun x => ?_)
            have := (List.getElem?_eq_some_iff.1 hi).1
            simp only [List.length_set] at this
            rw [if_pos (by simp; omega)]
        · rintro ⟨lst, kk⟩ ⟨q0, q1, q2, q3⟩
          simp only at q0 q1 q2 q3
          refine Ite.mk (fun hge => ?_) (fun hlt => ?_)
          · simp only [decide_eq_true_eq] at hge
            obtain ⟨n, rfl⟩ := Int.eq_ofNat_of_zero_le hge
            have hn : n < L := by omega
            have hx28 : lst[n]? = some (lst[n]'(by omega)) := List.getElem?_eq_getElem _
            have hx37 : lst[n + 1]? = some (lst[n + 1]'(by omega)) := List.getElem?_eq_getElem _
            generalize lst[n]'(by omega) = cur at hx28
            generalize lst[n + 1]'(by omega) = nxt at hx37
            have hcur : IsSet cur (fun x => Rch s a tick taken avoid n (rq x)) := (q3 n cur hx28).cong (fun x => by rw [if_pos (Int.le_refl _)])
            have hnxt : IsSet nxt (fun x => On_ s a b tick taken avoid L (n + 1) (rq x)) := (q3 (n + 1) nxt hx37).cong (fun x => by rw [if_neg (by omega)])
            have e3 : w64 ((n : Int) + 1) = ((n + 1 : Nat) : Int) := by rw [w64_eq (by omega) (by omega)]; omega
            have e4 : w64 ((n : Int) - 1) = (n : Int) - 1 := w64_eq (by omega) (by omega)
            simp only [e3, e4]
            refine Jn.mk (fun p => p.2 = lst ∧ IsSet p.1 (fun x => On_ s a b tick taken avoid L n (rq x))) ⟨cur, idx_of rfl hx28, Jn.mk (fun p => p.2 = lst ∧ IsSet p.1 (fun x => On_ s a b tick taken avoid L n (rq x)))
              (Loop.mk (fun t : List (RouteStand × Bool) × List RouteStand × List (List (RouteStand × Bool)) => t.2.2 = lst ∧ IsSet t.1 (fun x => Rch s a tick taken avoid n (rq x) ∧ (x ∈ t.2.1 → On_ s a b tick taken avoid L n (rq x)))) (fun t => left t.1 t.2.1) ⟨rfl, hcur.cong (by simp)⟩ ?_) (fun p hp => hp)⟩ ?_
            · rintro ⟨m, seen, lst'⟩ ⟨hl1, hm⟩
              simp only at hl1 hm
              subst hl1
              refine ⟨fun x v ⟨hx, hns⟩ => ?_, fun hall => ⟨rfl, hm.cong (fun y => ?_)⟩⟩
              · have hR : Rch s a tick taken avoid n (rq x) := ((hm.val x v hx).2).1
                have hset37 : lst'.set (Int.toNat ((n + 1 : Nat) : Int)) nxt = lst' := set_idx (idx_of rfl hx37)
                refine Jn.mk (fun p => p.1 = lst' ∧ (p.2 = true ↔ On_ s a b tick taken avoid L n (rq x))) ⟨nxt, idx_of rfl hx37, by simp, ?_⟩ ?_
                · refine S_on k h hav hl' ht hw (by omega) (Rch.ok h ha hR) hnxt (fun hno y => ⟨hset37, ?_⟩) (fun act p b0 b1 hI _ _ => ⟨hset37, ?_⟩)
                  · simp only [Bool.false_eq_true, false_iff]
                    rw [on_iff hn hR]
                    rintro ⟨act, b0, b1, b2⟩
                    exact hno act b0 b1 b2
                  · simp only [true_iff]
                    rw [on_iff hn hR]
                    exact ⟨act, b0, b1, hI⟩
                · rintro ⟨l2, ok⟩ ⟨g1, g2⟩
                  simp only at g1 g2
                  subst g1
                  refine Jn.mk (fun m' => IsSet m' (fun y => Rch s a tick taken avoid n (rq y) ∧ (y ∈ x :: seen → On_ s a b tick taken avoid L n (rq y))) ∧ (∀ sn, left m' sn ≤ left m sn)) (Ite.mk (fun e5 => ⟨cur, idx_of rfl hx28, ?_⟩) (fun e5 => ?_)) (fun m' hm' => ⟨⟨rfl, hm'.1⟩, ?_⟩)
                  · simp at e5
                    refine ⟨(hm.rem x).cong (fun y => ?_), left_del m x⟩
                    constructor
                    · rintro ⟨⟨p1, p2⟩, p3⟩
                      exact ⟨p1, fun p4 => by rcases List.mem_cons.1 p4 with p5 | p5; (exact absurd p5 p3); exact p2 p5⟩
                    · rintro ⟨p1, p2⟩
                      refine ⟨⟨p1, fun p4 => p2 (List.mem_cons_of_mem _ p4)⟩, fun p4 => ?_⟩
                      subst p4
                      have := g2.2 (p2 List.mem_cons_self)
                      rw [e5] at this; cases this
                  · simp at e5
                    refine ⟨hm.cong (fun y => ?_), fun _ => Nat.le_refl _⟩
                    constructor
                    · rintro ⟨p1, p2⟩
                      exact ⟨p1, fun p4 => by rcases List.mem_cons.1 p4 with p5 | p5; (rw [p5]; exact g2.1 e5); exact p2 p5⟩
                    · rintro ⟨p1, p2⟩
                      exact ⟨p1, fun p4 => p2 (List.mem_cons_of_mem _ p4)⟩
                  · exact Nat.lt_of_le_of_lt (hm'.2 _) (left_lt m hx hns)
              · constructor
                · rintro ⟨p1, p2⟩
                  exact p2 (hall y (by rw [hm.all y ⟨p1, p2⟩]; simp))
                · intro p1; exact ⟨p1.1, fun _ => p1⟩
            · rintro ⟨m, l2⟩ ⟨g1, g2⟩
              simp only at g1 g2
              subst g1
              refine ⟨⟨by first | omega | (simp; omega), by first | omega | (simp; omega), by simpa using q2, fun i m' hi => ?_⟩, by first | omega | (simp; omega)⟩
              have := isSet_set q3 g2 i m' hi
              by_cases e5 : i = n
              · subst e5
                rw [if_pos (by simp)] at this
                refine this.cong (fun x => ?_)
                rw [if_neg (by first | omega | (simp; omega))]
              · rw [if_neg (by simpa using e5)] at this
                refine this.cong (fun x => ?_)
                by_cases e6 : (i : Int) ≤ n
                · rw [if_pos e6, if_pos (by first | omega | (simp; omega))]
                · rw [if_neg e6, if_neg (by first | omega | (simp; omega))]
          · simp only [decide_eq_false_iff_not] at hlt
            refine ⟨q2, fun i m hi => (q3 i m hi).cong (fun x => by rw [if_neg (by omega)])⟩
        · rintro lst ⟨hll, hon⟩
          obtain ⟨qg, hqg, hqb⟩ := hgoal
          have hstart : On_ s a b tick taken avoid L 0 (a, 0) := on_zero (Nat.le_refl L) ⟨hqg, by rw [Nat.sub_self]; exact hqb.1⟩
          refine Jn.mk (fun out => out.length = L ∧ (∀ x, x ∈ out → 0 ≤ x ∧ x < 7) ∧ (∃ q, runF s taken avoid tick (a, 0) out = (q, 0) ∧ q.1 = b) ∧ ∀ v, GoodW s a b tick taken avoid v → v.length = L → v.take L = out ∨ LexLt out v)
            (Loop.mk (fun t : List (List (RouteStand × Bool)) × List Int × Int × Int × Int => t.1 = lst ∧ 0 ≤ t.2.2.2.2 ∧ t.2.2.2.2 ≤ L ∧ t.2.1.length = t.2.2.2.2.toNat ∧ (∀ x, x ∈ t.2.1 → 0 ≤ x ∧ x < 7) ∧ runF s taken avoid tick (a, 0) t.2.1 = ((t.2.2.1, t.2.2.2.1), 0) ∧ On_ s a b tick taken avoid L t.2.2.2.2.toNat (t.2.2.1, t.2.2.2.1) ∧
              ∀ v, GoodW s a b tick taken avoid v → v.length = L → v.take t.2.2.2.2.toNat = t.2.1 ∨ LexLt t.2.1 v) (fun t => (L - t.2.2.2.2).toNat) ⟨rfl, by simp, by simp, rfl, by simp, rfl, hstart, fun v _ _ => .inl rfl⟩ ?_) ?_
          · rintro ⟨lst', out, c, r, kk⟩ ⟨g0, g1, g2, g3, g4, g5, g6, g7⟩
            simp only at g0 g1 g2 g3 g4 g5 g6 g7
            subst g0
            obtain ⟨n, rfl⟩ := Int.eq_ofNat_of_zero_le g1
            simp only [Int.toNat_natCast] at g3 g6 g7
            refine Ite.mk (fun hlt => ?_) (fun hge => ?_)
            · simp only [decide_eq_true_eq] at hlt
              have hn : n < L := by omega
              have hx51 : lst'[n + 1]? = some (lst'[n + 1]'(by omega)) := List.getElem?_eq_getElem _
              generalize lst'[n + 1]'(by omega) = nxt at hx51
              have hnxt := hon (n + 1) nxt hx51
              have e3 : w64 ((n : Int) + 1) = ((n + 1 : Nat) : Int) := by rw [w64_eq (by omega) (by omega)]; omega
              simp only [e3]
              have hset51 : lst'.set (Int.toNat ((n + 1 : Nat) : Int)) nxt = lst' := set_idx (idx_of rfl hx51)
              refine Jn.mk (fun p => p.1 = lst' ∧ 0 ≤ p.2.1 ∧ p.2.1 < 7 ∧ Into s taken avoid (tick + n) (c, r) (On_ s a b tick taken avoid L (n + 1)) p.2.1 ∧ (p.2.2.1, p.2.2.2) = (stepF s taken avoid (tick + n) (c, r) p.2.1).1 ∧ ∀ a', 0 ≤ a' → a' < p.2.1 → ¬ Into s taken avoid (tick + n) (c, r) (On_ s a b tick taken avoid L (n + 1)) a')
                ⟨nxt, idx_of rfl hx51, S_on k h hav hl' ht hw (q := ⟨c, r⟩) (by omega) (Rch.ok h ha g6.1) hnxt (fun hno y => ?_) (fun act p b0 b1 hI hp hmn => ⟨hset51, b0, b1, hI, hp, hmn⟩)⟩ ?_
              · obtain ⟨act, b0, b1, b2⟩ := (on_iff hn g6.1).1 g6
                exact absurd b2 (hno act b0 b1)
              · rintro ⟨l2, act, c', r'⟩ ⟨f0, f1, f2, f3, f4, f5⟩
                simp only at f0 f1 f2 f3 f4 f5
                subst f0
                refine ⟨by simp; omega, ⟨rfl, by simp; omega, by simp; omega, by simp [g3], fun x hx => ?_, ?_, ?_, fun v hv hvl => ?_⟩, by simp; omega⟩
                · rcases List.mem_append.1 hx with hx | hx
                  · exact g4 x hx
                  · simp at hx; omega
                · rw [runF_app out [act] (by rw [g5]), g5, g3]
                  rw [runF, if_pos f3.1, runF, f4]
                · simp only [Int.toNat_natCast]
                  rw [f4]; exact f3.2
                · simp only [Int.toNat_natCast]
                  rcases g7 v hv hvl with g8 | g8
                  · have hx : v[n]? = some (v[n]'(by omega)) := List.getElem?_eq_getElem _
                    have hxm := hv.1 _ (List.getElem_mem (l := v) (n := n) (by omega))
                    generalize v[n]'(by omega) = x at hx hxm
                    obtain ⟨r1, r2, r3⟩ := run_at hv.1 hv.2.1 hx
                    rw [g8, g5] at r3
                    simp only at r3
                    have hInto : Into s taken avoid (tick + n) (c, r) (On_ s a b tick taken avoid L (n + 1)) x := by
                      have := good_on hv hvl (L - (n + 1)) (n + 1) (by omega)
                      unfold Into; rw [r3]; exact ⟨rfl, this⟩
                    have hle : act ≤ x := Int.le_of_not_gt (fun hgt => f5 x hxm.1 hgt hInto)
                    by_cases hxe : x = act
                    · left; rw [List.take_add_one, hx, g8, hxe]; rfl
                    · right
                      refine ⟨n, act, x, ?_, ?_, hx, by omega⟩
                      · rw [List.take_append_of_le_length (by omega), g8, List.take_of_length_le (by omega)]
                      · rw [List.getElem?_append_right (by omega), g3]; simp
                  · right; exact g8.app _
            · simp only [decide_eq_false_iff_not] at hge
              have : n = L := by omega
              subst this
              have hb := g6.2
              rw [Nat.sub_self] at hb
              exact ⟨g3, g4, ⟨_, g5, hb⟩, g7⟩
          · rintro out ⟨f1, f2, ⟨q, f3, f4⟩, f5⟩
            refine h4 hr (by omega) (by omega) out ⟨f2, by rw [f3], by rw [f3, f1]; exact ⟨f4, hqb.2⟩⟩ (by omega) (fun v hv => ?_)
            refine ⟨?_, fun hvl => ?_⟩
            · rw [f1]
              refine Nat.le_of_not_lt (fun hlt => ?_)
              exact hmin v.length _ hlt (runF_rch v hv.1 hv.2.1) hv.2.2
            · rcases f5 v hv (by omega) with f6 | f6
              · left; rw [← f6, List.take_of_length_le (by omega)]
              · right; exact f6
end
end Go.Taq
