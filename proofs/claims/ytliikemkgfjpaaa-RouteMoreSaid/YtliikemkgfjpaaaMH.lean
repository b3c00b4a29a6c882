/- The mathematics, part H: the search's way back, and its walk. -/
import Derived.Test.YtliikemkgfjpaaaMG
set_option linter.unusedVariables false
namespace Go.Taq
open Go
section
variable {s : ApiSite} {a b tick : Int} {taken : List ApiTaken} {avoid : List Int}
/-- an action leads into a set -/
def Into (s : ApiSite) (taken : List ApiTaken) (avoid : List Int) (t : Int) (q : Int × Int) (S : Int × Int → Prop) (act : Int) : Prop := (stepF s taken avoid t q act).2 = 0 ∧ S (stepF s taken avoid t q act).1

theorem S_on (k : OkApiSite s) (h : RS s) (hav : avoid.length ≤ maxLen) (hl : taken.length ≤ maxLen) (ht : 0 ≤ tick ∧ tick ≤ 20000) {w : RouteWalk} (hw : WalkOf s tick taken avoid w) {n : Int} (hn : 0 ≤ n ∧ n ≤ 300) {q : RouteStand} (hQ : isQ s (rq q)) {into : List (RouteStand × Bool)} {S : Int × Int → Prop} (hS : IsSet into (fun x => S (rq x)))
    {post : Int × RouteStand × Bool → Prop} (hno : (∀ act, 0 ≤ act → act < 7 → ¬ Into s taken avoid (tick + n) (rq q) S act) → ∀ x, post (0, x, false))
    (hyes : ∀ act p, 0 ≤ act → act < 7 → Into s taken avoid (tick + n) (rq q) S act → rq p = (stepF s taken avoid (tick + n) (rq q) act).1 → (∀ a', 0 ≤ a' → a' < act → ¬ Into s taken avoid (tick + n) (rq q) S a') → post (act, p, true)) : V_route_walk_on w q n into post := by
  unfold V_route_walk_on
  refine Jn.mk (fun _ => ∀ act, 0 ≤ act → act < 7 → ¬ Into s taken avoid (tick + n) (rq q) S act) (Loop.mk (fun t : Int => 0 ≤ t ∧ t ≤ 7 ∧ ∀ act, 0 ≤ act → act < t → ¬ Into s taken avoid (tick + n) (rq q) S act) (fun t => (7 - t).toNat) ⟨by omega, by omega, fun act h0 h1 => by omega⟩ ?_) (fun _ hh => hno hh _)
  rintro t ⟨h0, h1, hall⟩
  refine Ite.mk (fun hlt => ?_) (fun hge => ?_)
  · simp only [decide_eq_true_eq] at hlt
    refine S_walk_step k h hav hw hl ht hQ (by omega) (by omega) ?_
    change (fun y => _) _
    generalize hst : stepF s taken avoid (tick + n) (q.cell, q.rest) t = st
    have hst' : stepF s taken avoid (tick + n) (rq q) t = st := hst
    obtain ⟨⟨c, r⟩, e⟩ := st
    simp only []
    refine Jn.mk (fun x => x = true ↔ Into s taken avoid (tick + n) (rq q) S t) (Ite.mk (fun e1 => ?_) (fun e1 => ?_)) (fun x hx => Ite.mk (fun e1 => ?_) (fun e1 => ?_))
    · simp at e1; subst e1
      unfold Into; rw [hst']
      simp only [true_and]
      constructor
      · intro e2
        cases e3 : lk into ({ cell := c, rest := r : RouteStand }) with
        | none => rw [e3] at e2; simp at e2
        | some v => exact (hS.val _ v e3).2
      · intro e2
        rw [hS.all ⟨c, r⟩ e2]; rfl
    · simp at e1
      unfold Into; rw [hst']; simp [e1]
    · exact hyes t ⟨c, r⟩ h0 hlt (hx.1 e1) (by rw [hst']; rfl) hall
    · rw [w64_eq (by omega) (by omega)]
      refine ⟨⟨by omega, by omega, fun act q0 q1 => ?_⟩, by omega⟩
      by_cases e2 : act = t
      · subst e2; exact fun e3 => by rw [hx.2 e3] at e1; cases e1
      · exact hall act q0 (by omega)
  · simp only [decide_eq_false_iff_not] at hge
    exact fun act q0 q1 => hall act q0 (by omega)

/-- so many steps lead to the goal's cell -/
def Lead (s : ApiSite) (b : Int) (taken : List ApiTaken) (avoid : List Int) : Nat → Int → Int × Int → Prop
  | 0, _, q => q.1 = b
  | j + 1, t, q => ∃ act, 0 ≤ act ∧ act < 7 ∧ Into s taken avoid t q (Lead s b taken avoid j (t + 1)) act
/-- at a number of ticks, on a way to the goal -/
def On_ (s : ApiSite) (a b tick : Int) (taken : List ApiTaken) (avoid : List Int) (L i : Nat) (q : Int × Int) : Prop := Rch s a tick taken avoid i q ∧ Lead s b taken avoid (L - i) (tick + i) q
theorem into_on {L i : Nat} (hi : i < L) {q : Int × Int} (hq : Rch s a tick taken avoid i q) {act : Int} (h0 : 0 ≤ act) (h1 : act < 7) :
    Into s taken avoid (tick + i) q (On_ s a b tick taken avoid L (i + 1)) act ↔ Into s taken avoid (tick + i) q (Lead s b taken avoid (L - i - 1) (tick + i + 1)) act := by
  unfold Into On_
  have e : tick + ((i + 1 : Nat) : Int) = tick + i + 1 := by omega
  have e2 : L - (i + 1) = L - i - 1 := by omega
  rw [e, e2]
  constructor
  · rintro ⟨e1, _, e3⟩; exact ⟨e1, e3⟩
  · rintro ⟨e1, e3⟩; exact ⟨e1, ⟨q, act, hq, h0, h1, Prod.ext rfl e1⟩, e3⟩
theorem on_iff {L i : Nat} (hi : i < L) {q : Int × Int} (hq : Rch s a tick taken avoid i q) : On_ s a b tick taken avoid L i q ↔ ∃ act, 0 ≤ act ∧ act < 7 ∧ Into s taken avoid (tick + i) q (On_ s a b tick taken avoid L (i + 1)) act := by
  have e : L - i = (L - i - 1) + 1 := by omega
  unfold On_
  rw [e]
  constructor
  · rintro ⟨_, act, h0, h1, h2⟩
    exact ⟨act, h0, h1, (into_on hi hq h0 h1).2 h2⟩
  · rintro ⟨act, h0, h1, h2⟩
    exact ⟨hq, act, h0, h1, (into_on hi hq h0 h1).1 h2⟩
end
end Go.Taq
