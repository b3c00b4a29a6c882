/- The mathematics, part G: the layers of the search. -/
import Derived.Test.YtliikemkgfjpaaaMF
set_option linter.unusedVariables false
namespace Go.Taq
open Go

/-- a map to true is a set -/
structure IsSet {κ : Type} [DecidableEq κ] (m : List (κ × Bool)) (S : κ → Prop) : Prop where
  val : ∀ x v, lk m x = some v → v = true ∧ S x
  all : ∀ x, S x → lk m x = some true
theorem IsSet.empty {κ : Type} [DecidableEq κ] : IsSet ([] : List (κ × Bool)) (fun _ => False) := ⟨fun x v h => by simp [lk] at h, fun _ h => h.elim⟩
theorem IsSet.ins {κ : Type} [DecidableEq κ] {m : List (κ × Bool)} {S : κ → Prop} (h : IsSet m S) (k : κ) : IsSet (upd m k true) (fun x => S x ∨ x = k) := by
  refine ⟨fun x v hx => ?_, fun x hx => ?_⟩
  · rw [lk_upd] at hx
    split at hx
    · rename_i e; cases hx; exact ⟨rfl, .inr e.symm⟩
    · exact ⟨(h.val x v hx).1, .inl (h.val x v hx).2⟩
  · rw [lk_upd]
    split
    · rfl
    · rename_i e
      rcases hx with hx | hx
      · exact h.all x hx
      · exact absurd hx.symm e
theorem IsSet.rem {κ : Type} [DecidableEq κ] {m : List (κ × Bool)} {S : κ → Prop} (h : IsSet m S) (k : κ) : IsSet (del m k) (fun x => S x ∧ x ≠ k) := by
  refine ⟨fun x v hx => ?_, fun x hx => ?_⟩
  · rw [lk_del] at hx
    split at hx
    · cases hx
    · rename_i e; exact ⟨(h.val x v hx).1, (h.val x v hx).2, fun e' => e e'.symm⟩
  · rw [lk_del, if_neg (fun e => hx.2 e.symm)]; exact h.all x hx.1
theorem IsSet.cong {κ : Type} [DecidableEq κ] {m : List (κ × Bool)} {S S' : κ → Prop} (h : IsSet m S) (he : ∀ x, S x ↔ S' x) : IsSet m S' :=
  ⟨fun x v hx => ⟨(h.val x v hx).1, (he x).1 (h.val x v hx).2⟩, fun x hx => h.all x ((he x).2 hx)⟩

section
variable {s : ApiSite} {a b tick : Int} {taken : List ApiTaken} {avoid : List Int}
/-- where one can be after so many ticks -/
def Rch (s : ApiSite) (a tick : Int) (taken : List ApiTaken) (avoid : List Int) : Nat → Int × Int → Prop
  | 0, q => q = (a, 0)
  | k + 1, p => ∃ q act, Rch s a tick taken avoid k q ∧ 0 ≤ act ∧ act < 7 ∧ stepF s taken avoid (tick + k) q act = (p, 0)
theorem Rch.ok (h : RS s) (ha : isC s.Floor a = true) : ∀ {k : Nat} {q : Int × Int}, Rch s a tick taken avoid k q → isQ s q
  | 0, q, e => by cases e; exact ⟨ha, by simp, by simp⟩
  | k + 1, p, ⟨q, act, hq, _, _, e⟩ => by
    have := stepF_ok h (Rch.ok h ha hq) (taken := taken) (avoid := avoid) (t := tick + k) (a := act) (by rw [e])
    rwa [e] at this
def rq (x : RouteStand) : Int × Int := (x.cell, x.rest)
/-- at the goal at a tick -/
def Goal (b tick : Int) (taken : List ApiTaken) (k : Nat) (q : Int × Int) : Prop := q.1 = b ∧ heldT taken b (tick + k) = false
instance (b tick : Int) (taken : List ApiTaken) (k : Nat) (q : Int × Int) : Decidable (Goal b tick taken k q) := inferInstanceAs (Decidable (_ ∧ _))

theorem S_layers (k : OkApiSite s) (h : RS s) (hav : avoid.length ≤ maxLen) (hl : taken.length ≤ maxLen) (ha : isC s.Floor a = true) (ht : 0 ≤ tick ∧ tick ≤ 20000) {w : RouteWalk} (hw : WalkOf s tick taken avoid w) {most : Int} (hm : 0 ≤ most ∧ most ≤ 300)
    {post : List (List (RouteStand × Bool)) × Bool → Prop}
    (hno : (∀ (i : Nat) q, (i : Int) ≤ most → Rch s a tick taken avoid i q → ¬ Goal b tick taken i q) → post ([], false))
    (hyes : ∀ (all : List (List (RouteStand × Bool))) (L : Nat), all.length = L + 1 → (L : Int) ≤ most → (∀ (i : Nat) m, all[i]? = some m → IsSet m (fun x => Rch s a tick taken avoid i (rq x))) → (∃ q, Rch s a tick taken avoid L q ∧ Goal b tick taken L q) →
      (∀ (i : Nat) q, i < L → Rch s a tick taken avoid i q → ¬ Goal b tick taken i q) → post (all, true)) : V_route_walk_layers w a b most post := by
  unfold V_route_walk_layers
  refine Loop.mk (fun t : List (List (RouteStand × Bool)) × Int => 0 ≤ t.2 ∧ t.2 ≤ most ∧ t.1.length = t.2.toNat + 1 ∧ (∀ (i : Nat) m, t.1[i]? = some m → IsSet m (fun x => Rch s a tick taken avoid i (rq x))) ∧
    (∀ (i : Nat) q, (i : Int) < t.2 → Rch s a tick taken avoid i q → ¬ Goal b tick taken i q)) (fun t => (most - t.2).toNat) ⟨by simp, hm.1, by simp, ?_, by simp; omega⟩ ?_
  · intro i m hi
    have : i = 0 := by
      have := (List.getElem?_eq_some_iff.1 hi).1; simp at this; omega
    subst this
    simp at hi
    subst hi
    refine (IsSet.empty.ins _).cong (fun x => ?_)
    simp only [false_or, Rch, rq]
    constructor
    · rintro rfl; rfl
    · intro e; cases x; simp only [Prod.mk.injEq] at e; obtain ⟨rfl, rfl⟩ := e; rfl
  · rintro ⟨all, kk⟩ ⟨h0, h1, hlen, hset, hng⟩
    simp only at h0 h1 hlen hset hng
    obtain ⟨n, rfl⟩ := Int.eq_ofNat_of_zero_le h0
    simp only [Int.toNat_natCast] at hlen
    have hx : all[n]? = some (all[n]'(by omega)) := List.getElem?_eq_getElem _
    generalize all[n]'(by omega) = cur at hx
    have hcur := hset n cur hx
    have hidx : idx all (n : Int) = some cur := idx_of rfl hx
    have hsame : all.set (Int.toNat (n : Int)) cur = all := set_idx hidx
    refine Jn.mk (fun all' => all'.length = n + 2 ∧ (n : Int) < most ∧ (∀ (i : Nat) m, all'[i]? = some m → IsSet m (fun x => Rch s a tick taken avoid i (rq x))) ∧ (∀ q, Rch s a tick taken avoid n q → ¬ Goal b tick taken n q)) ?_ ?_
    · refine ⟨cur, hidx, ?_⟩
      simp only [hsame]
      refine Jn.mk (fun next => IsSet next (fun x => Rch s a tick taken avoid (n + 1) (rq x)) ∧ (∀ q, Rch s a tick taken avoid n q → ¬ Goal b tick taken n q))
        (Loop.mk (fun t : List RouteStand × List (RouteStand × Bool) => (∀ x, x ∈ t.1 → Rch s a tick taken avoid n (rq x) ∧ ¬ Goal b tick taken n (rq x)) ∧ IsSet t.2 (fun p => ∃ x, x ∈ t.1 ∧ ∃ act, 0 ≤ act ∧ act < 7 ∧ stepF s taken avoid (tick + n) (rq x) act = (rq p, 0))) (fun t => left cur t.1) ⟨by simp, IsSet.empty.cong (by simp)⟩ ?_) ?_
      · rintro ⟨seen, next⟩ ⟨i1, i2⟩
        simp only at i1 i2
        refine ⟨fun x v ⟨hxv, hns⟩ => ?_, fun hall => ?_⟩
        · have hR : Rch s a tick taken avoid n (rq x) := (hcur.val x v hxv).2
          have hQ : isQ s (x.cell, x.rest) := Rch.ok h ha hR
          refine Jn.mk (fun next' => IsSet next' (fun p => ∃ y, y ∈ x :: seen ∧ ∃ act, 0 ≤ act ∧ act < 7 ∧ stepF s taken avoid (tick + n) (rq y) act = (rq p, 0)) ∧ ¬ Goal b tick taken n (rq x)) ?_ ?_
          · refine Jn.eq (decide (Goal b tick taken n (rq x))) (Ite.mk (fun e => ?_) (fun e => ?_)) (Ite.mk (fun e => ?_) (fun e => ?_))
            · simp at e
              refine S_held hw hl ht ⟨by omega, by omega⟩ ?_
              show (!heldT taken b (tick + n)) = decide (Goal b tick taken n (rq x))
              rw [Bool.eq_iff_iff, decide_eq_true_eq]
              unfold Goal rq
              simp [e]
            · simp at e
              unfold Goal rq; simp [e]
            · simp only [decide_eq_true_eq] at e
              exact hyes all n hlen h1 hset ⟨_, hR, e⟩ (fun i q hi => hng i q (by omega))
            · simp only [decide_eq_false_iff_not] at e
              refine Jn.mk (fun nx' => IsSet nx' (fun p => (∃ y, y ∈ seen ∧ ∃ act, 0 ≤ act ∧ act < 7 ∧ stepF s taken avoid (tick + n) (rq y) act = (rq p, 0)) ∨ ∃ act, 0 ≤ act ∧ act < 7 ∧ stepF s taken avoid (tick + n) (rq x) act = (rq p, 0)))
                (Loop.mk (fun t : List (RouteStand × Bool) × Int => 0 ≤ t.2 ∧ t.2 ≤ 7 ∧ IsSet t.1 (fun p => (∃ y, y ∈ seen ∧ ∃ act, 0 ≤ act ∧ act < 7 ∧ stepF s taken avoid (tick + n) (rq y) act = (rq p, 0)) ∨ ∃ act, 0 ≤ act ∧ act < t.2 ∧ stepF s taken avoid (tick + n) (rq x) act = (rq p, 0))) (fun t => (7 - t.2).toNat)
                  ⟨by simp, by simp, i2.cong (fun p => ⟨.inl, fun hp => hp.elim id (fun ⟨act, q1, q2, _⟩ => absurd q2 (by simp; omega))⟩)⟩ ?_) ?_
              · rintro ⟨nx', act⟩ ⟨j0, j1, j2⟩
                simp only at j0 j1 j2
                refine Ite.mk (fun hlt => ?_) (fun hge => ?_)
                · simp only [decide_eq_true_eq] at hlt
                  refine S_walk_step k h hav hw hl ht hQ (by refine ⟨?_, ?_⟩ <;> (try simp) <;> omega) (by refine ⟨?_, ?_⟩ <;> (try simp) <;> omega) ?_
                  have e2 : w64 (act + 1) = act + 1 := w64_eq (by omega) (by omega)
                  have ext : ∀ {T : RouteStand → Prop}, (∀ p, T p ↔ stepF s taken avoid (tick + n) (rq x) act = (rq p, 0)) → ∀ p, (((∃ y, y ∈ seen ∧ ∃ act, 0 ≤ act ∧ act < 7 ∧ stepF s taken avoid (tick + n) (rq y) act = (rq p, 0)) ∨ ∃ act', 0 ≤ act' ∧ act' < act ∧ stepF s taken avoid (tick + n) (rq x) act' = (rq p, 0)) ∨ T p) ↔
                      ((∃ y, y ∈ seen ∧ ∃ act, 0 ≤ act ∧ act < 7 ∧ stepF s taken avoid (tick + n) (rq y) act = (rq p, 0)) ∨ ∃ act', 0 ≤ act' ∧ act' < act + 1 ∧ stepF s taken avoid (tick + n) (rq x) act' = (rq p, 0)) := fun {T} hT p => by
                    rw [hT p]
                    constructor
                    · rintro ((e1 | ⟨a', q0, q1, q2⟩) | e1)
                      · exact .inl e1
                      · exact .inr ⟨a', q0, by omega, q2⟩
                      · exact .inr ⟨act, j0, by omega, e1⟩
                    · rintro (e1 | ⟨a', q0, q1, q2⟩)
                      · exact .inl (.inl e1)
                      · by_cases e1 : a' = act
                        · subst e1; exact .inr q2
                        · exact .inl (.inr ⟨a', q0, by omega, q2⟩)
                  refine Jn.mk (fun m' => IsSet m' (fun p => (∃ y, y ∈ seen ∧ ∃ act, 0 ≤ act ∧ act < 7 ∧ stepF s taken avoid (tick + n) (rq y) act = (rq p, 0)) ∨ ∃ act', 0 ≤ act' ∧ act' < act + 1 ∧ stepF s taken avoid (tick + n) (rq x) act' = (rq p, 0))) (Ite.mk (fun e1 => ?_) (fun e1 => ?_)) (fun m' hm' => ?_)
                  · simp at e1
                    refine (j2.ins _).cong (ext (fun p => ?_))
                    constructor
                    · rintro rfl
                      exact Prod.ext rfl e1
                    · intro e4
                      cases p
                      simp only [rq, Prod.ext_iff] at e4
                      obtain ⟨⟨e5, e6⟩, _⟩ := e4
                      simp only [RouteStand.mk.injEq]
                      exact ⟨e5.symm, e6.symm⟩
                  · simp at e1
                    refine j2.cong (fun p => ?_)
                    rw [← ext (T := fun _ => False) (fun p => ⟨False.elim, fun e4 => e1 (by rw [show (x.cell, x.rest) = rq x from rfl, e4])⟩) p]
                    simp
                  · simp only []
                    rw [e2]
                    exact ⟨⟨by omega, by omega, hm'⟩, by omega⟩
                · simp only [decide_eq_false_iff_not] at hge
                  have : act = 7 := by omega
                  subst this; exact j2
              · intro nx' hnx
                refine ⟨hnx.cong (fun p => ?_), e⟩
                simp only [List.mem_cons, exists_eq_or_imp]
                constructor
                · rintro (e1 | e1)
                  · exact .inr e1
                  · exact .inl e1
                · rintro (e1 | e1)
                  · exact .inr e1
                  · exact .inl e1
          · rintro next' ⟨hn1, hn2⟩
            refine ⟨⟨fun y hy => ?_, hn1⟩, left_lt cur hxv hns⟩
            rcases List.mem_cons.1 hy with e | e
            · subst e; exact ⟨hR, hn2⟩
            · exact i1 y e
        · have seenAll : ∀ x : RouteStand, Rch s a tick taken avoid n (rq x) → x ∈ seen := fun x hx => hall x (by rw [hcur.all x hx]; simp)
          refine ⟨i2.cong (fun p => ?_), fun q hq => ?_⟩
          · constructor
            · rintro ⟨x, hx, act, a0, a1, e⟩; exact ⟨rq x, act, (i1 x hx).1, a0, a1, e⟩
            · rintro ⟨q, act, hq, a0, a1, e⟩; exact ⟨⟨q.1, q.2⟩, seenAll ⟨q.1, q.2⟩ hq, act, a0, a1, e⟩
          · exact (i1 ⟨q.1, q.2⟩ (seenAll ⟨q.1, q.2⟩ hq)).2
      · rintro next ⟨hn1, hn2⟩
        refine Ite.mk (fun e => ?_) (fun e => ?_)
        · simp at e
          refine hno (fun i q hi hq => ?_)
          by_cases e1 : i = n
          · subst e1; exact hn2 q hq
          · exact hng i q (by omega) hq
        · simp at e
          refine ⟨by omega, ?_⟩
          rw [set_app]
          refine ⟨by simp; omega, by omega, fun i m hi => ?_, hn2⟩
          by_cases e1 : i < all.length
          · rw [List.getElem?_append_left e1] at hi; exact hset i m hi
          · have := (List.getElem?_eq_some_iff.1 hi).1
            simp at this
            have : i = all.length := by omega
            subst this
            rw [List.getElem?_append_right (Nat.le_refl _)] at hi
            simp at hi; subst hi
            rw [hlen]; exact hn1
    · rintro all' ⟨g1, g2, g3, g4⟩
      have e2 : w64 ((n : Int) + 1) = ((n + 1 : Nat) : Int) := by rw [w64_eq (by omega) (by omega)]; omega
      simp only []
      rw [e2]
      refine ⟨⟨by omega, by omega, by simp; omega, g3, fun i q hi hq => ?_⟩, by omega⟩
      by_cases e1 : i = n
      · subst e1; exact g4 q hq
      · exact hng i q (by omega) hq
end
end Go.Taq
