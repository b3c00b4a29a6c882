/- The mathematics, several parts in one text. -/
import Derived.Test.YtbekicmmgohfbaaGreatMD
/- The mathematics, part E: a step of a walk, and whether a walk is good. -/
set_option linter.unusedVariables false
namespace Go.Taq
open Go

/-- where an action leads at a tick, and with what error -/
def stepF (s : ApiSite) (taken : List ApiTaken) (avoid : List Int) (t : Int) (q : Int × Int) (a : Int) : (Int × Int) × Int :=
  if a = 0 then (if heldT taken q.1 t = true then ((0, 0), 15) else ((q.1, imax (q.2 - 1) 0), 0))
  else if q.2 > 0 then ((0, 0), 8)
  else if (nx s.Floor q.1 (a - 1)).2 = false ∨ avoid.contains (nx s.Floor q.1 (a - 1)).1 = true then ((0, 0), 14)
  else if opn s (nx s.Floor q.1 (a - 1)).1 t = false then ((0, 0), 18)
  else if heldT taken q.1 t = true ∨ heldT taken (nx s.Floor q.1 (a - 1)).1 t = true then ((0, 0), 15)
  else (((nx s.Floor q.1 (a - 1)).1, spd s (nx s.Floor q.1 (a - 1)).1 - 1), 0)
/-- a place: a cell that is no wall, and a rest -/
def isQ (s : ApiSite) (q : Int × Int) : Prop := isC s.Floor q.1 = true ∧ 0 ≤ q.2 ∧ q.2 < 100
theorem stepF_ok {s : ApiSite} (h : RS s) {taken : List ApiTaken} {avoid : List Int} {t : Int} {q : Int × Int} {a : Int} (hq : isQ s q) (he : (stepF s taken avoid t q a).2 = 0) : isQ s (stepF s taken avoid t q a).1 := by
  unfold stepF at he ⊢
  split
  · rename_i h1
    rw [if_pos h1] at he
    split
    · rename_i h2; rw [if_pos h2] at he; simp at he
    · refine ⟨hq.1, ?_, ?_⟩ <;> simp only [imax] <;> split <;> have := hq.2 <;> omega
  · rename_i h1
    rw [if_neg h1] at he
    split
    · rename_i h2; rw [if_pos h2] at he; simp at he
    · rename_i h2
      rw [if_neg h2] at he
      split
      · rename_i h3; rw [if_pos h3] at he; simp at he
      · rename_i h3
        rw [if_neg h3] at he
        split
        · rename_i h4; rw [if_pos h4] at he; simp at he
        · rename_i h4
          rw [if_neg h4] at he
          split
          · rename_i h5; rw [if_pos h5] at he; simp at he
          · simp only [not_or, Bool.not_eq_false] at h3
            have hx := nx_ok h.fl h3.1
            have := spd_bd h (nx s.Floor q.1 (a - 1)).1
            exact ⟨hx.2.1, by simp only []; omega, by simp only []; omega⟩

section
variable {s : ApiSite} {tick : Int} {taken : List ApiTaken} {avoid : List Int} {w : RouteWalk}
theorem S_held (hw : WalkOf s tick taken avoid w) (hl : taken.length ≤ maxLen) (ht : 0 ≤ tick ∧ tick ≤ 20000) {c k : Int} (hk : 0 ≤ k ∧ k ≤ 1000000) {post : Bool → Prop} (hp : post (heldT taken c (tick + k))) : V_route_walk_held w c k post := by
  unfold V_route_walk_held
  rw [hw.tick, hw.taken, w64_eq (by omega) (by omega)]
  exact S_spans_held (Nat.le_trans (spansOf_len _ _) hl) hp
theorem S_walk_step (k : OkApiSite s) (h : RS s) (hav : avoid.length ≤ maxLen) (hw : WalkOf s tick taken avoid w) (hl : taken.length ≤ maxLen) (ht : 0 ≤ tick ∧ tick ≤ 20000) {q : RouteStand} {n a : Int} (hq : isQ s (q.cell, q.rest)) (hn : 0 ≤ n ∧ n ≤ 1000000) (ha : 0 ≤ a ∧ a ≤ 1000)
    {post : RouteStand × Int → Prop} (hp : post (⟨(stepF s taken avoid (tick + n) (q.cell, q.rest) a).1.1, (stepF s taken avoid (tick + n) (q.cell, q.rest) a).1.2⟩, (stepF s taken avoid (tick + n) (q.cell, q.rest) a).2)) : V_route_walk_step w q n a post := by
  unfold V_route_walk_step
  obtain ⟨q1, q2, q3⟩ := hq
  simp only at q1 q2 q3
  unfold stepF at hp
  simp only [] at hp
  refine Ite.mk (fun h1 => ?_) (fun h1 => ?_)
  · simp at h1; subst h1
    simp only [if_true] at hp
    refine S_held hw hl ht hn (Ite.mk (fun h2 => ?_) (fun h2 => ?_))
    · rw [if_pos h2] at hp; exact hp
    · rw [if_neg (by simp [h2])] at hp
      rw [w64_eq (by omega) (by omega)]; exact hp
  · simp at h1
    rw [if_neg h1] at hp
    rw [w64_eq (x := a - 1) (by omega) (by omega), hw.site]
    refine S_floor_Next h.fl ?_
    generalize nx s.Floor q.cell (a - 1) = m at hp ⊢
    refine Ite.mk (fun h2 => ?_) (fun h2 => ?_)
    · simp at h2; rw [if_pos h2] at hp; exact hp
    · simp at h2
      rw [if_neg (by omega)] at hp
      refine Jn.eq (!m.2 || avoid.contains m.1) (Ite.mk (fun h3 => ?_) (fun h3 => by rw [h3]; rfl)) (Ite.mk (fun h3 => ?_) (fun h3 => ?_))
      · rw [hw.avoid, h3]; exact S_slices_Contains hav rfl
      · simp only [Bool.or_eq_true, Bool.not_eq_true'] at h3
        rw [if_pos h3] at hp; exact hp
      · simp only [Bool.or_eq_false_iff, Bool.not_eq_false'] at h3
        rw [if_neg (by rw [h3.1, h3.2]; decide)] at hp
        rw [hw.tick, w64_eq (x := tick + n) (by omega) (by omega)]
        refine S_rules_Open k h (Ite.mk (fun h4 => ?_) (fun h4 => ?_))
        · simp only [Bool.not_eq_true'] at h4
          rw [if_pos h4] at hp; exact hp
        · simp only [Bool.not_eq_false'] at h4
          rw [if_neg (by simp [h4])] at hp
          refine Jn.eq (heldT taken q.cell (tick + n) || heldT taken m.1 (tick + n)) (S_held hw hl ht hn (Ite.mk (fun h5 => by rw [h5]; rfl) (fun h5 => S_held hw hl ht hn (by rw [h5]; rfl)))) (Ite.mk (fun h5 => ?_) (fun h5 => ?_))
          · simp only [Bool.or_eq_true] at h5
            rw [if_pos h5] at hp; exact hp
          · simp only [Bool.or_eq_false_iff] at h5
            rw [if_neg (by simp [h5])] at hp
            refine S_rules_Speed k h ?_
            have := spd_bd h m.1
            rw [w64_eq (by omega) (by omega)]; exact hp
end
end Go.Taq

/- The mathematics, part F: whether a walk is good. -/
set_option linter.unusedVariables false
namespace Go.Taq
open Go

/-- the numbers of a walk are within their bounds -/
def rightR (s : ApiSite) (a b tick : Int) : Bool := isC s.Floor a && (kd s.Floor a != 0) && (isC s.Floor b && (kd s.Floor b != 0)) && (decide (0 ≤ tick) && decide (tick ≤ 20000))
def wallR (s : ApiSite) (c : Int) : Bool := !(isC s.Floor c && (kd s.Floor c != 0))
theorem S_route_right {s : ApiSite} (h : RF s.Floor) {a b tick : Int} {post : Bool → Prop} (hp : post (rightR s a b tick)) : V_route_right s a b tick post := by
  unfold V_route_right
  have body : ∀ (x : Int) {k : Bool → Prop}, k (wallR s x) → Jn (fun (J8 : Bool → Prop) => Ite (decide (x < 0)) (J8 true) (Ite (decide (x ≥ (s.Floor.Kind.length : Int))) (J8 true) (∃ x11, idx s.Floor.Kind x = some x11 ∧ J8 (x11 == 0)))) k := fun x k hk => by
    refine Jn.eq (wallR s x) (Ite.mk (fun h1 => ?_) (fun h1 => Ite.mk (fun h2 => ?_) (fun h2 => ?_))) hk
    · simp at h1; unfold wallR isC; simp; omega
    · simp at h1 h2; unfold wallR isC; simp; omega
    · simp at h1 h2
      have hc : isC s.Floor x = true := isC_iff.2 ⟨h1, h2⟩
      refine ⟨_, idx_kd hc, ?_⟩
      unfold wallR; rw [hc]; cases e : (kd s.Floor x == 0) <;> simp [bne, e]
  refine Jn.mk (fun _ => wallR s a = false ∧ wallR s b = false) (Loop.find [a, b] (wallR s) (fun i x hi hx hpx => ?_) (fun i x hi hx hpx hf => ?_) (fun hn hf => ?_)) (fun _ hw => ?_)
  · refine Ite.t (by simp at hi ⊢; omega) ⟨x, idx_of rfl hx, body x (Ite.f hpx ?_)⟩
    simp at hi
    rw [w64_eq (by omega) (by omega)]; omega
  · refine Ite.t (by simp at hi ⊢; omega) ⟨x, idx_of rfl hx, body x (Ite.t hpx ?_)⟩
    have : rightR s a b tick = false := by
      have hx2 := List.mem_of_getElem? hx
      simp only [List.mem_cons, List.not_mem_nil, or_false] at hx2
      unfold wallR at hpx
      unfold rightR
      rcases hx2 with e | e <;> subst e <;> simp only [Bool.not_eq_true'] at hpx <;> rw [hpx] <;> simp
    rw [← this]; exact hp
  · refine Ite.f (by simp) ⟨hn a (by simp), hn b (by simp)⟩
  · refine Jand2 ?_
    have : (decide (tick ≥ 0) && decide (tick ≤ 20000)) = rightR s a b tick := by
      obtain ⟨h1, h2⟩ := hw
      unfold wallR at h1 h2
      simp only [Bool.not_eq_false'] at h1 h2
      unfold rightR; rw [h1, h2]; simp
    rw [this]; exact hp

/-- an action that is none of a walk -/
def foreignA (a : Int) : Bool := decide (a < 0) || decide (a ≥ 7)
/-- a walk, from a place, from a tick on -/
def runF (s : ApiSite) (taken : List ApiTaken) (avoid : List Int) : Int → (Int × Int) → List Int → (Int × Int) × Int
  | _, q, [] => (q, 0)
  | t, q, a :: r => if (stepF s taken avoid t q a).2 = 0 then runF s taken avoid (t + 1) (stepF s taken avoid t q a).1 r else ((0, 0), (stepF s taken avoid t q a).2)
def checkF (s : ApiSite) (a b tick : Int) (taken : List ApiTaken) (avoid acts : List Int) : Int :=
  if rightR s a b tick = false ∨ acts.any foreignA = true then 1
  else if (runF s taken avoid tick (a, 0) acts).2 ≠ 0 then (runF s taken avoid tick (a, 0) acts).2
  else if heldT taken (runF s taken avoid tick (a, 0) acts).1.1 (tick + acts.length) = true then 15
  else if (runF s taken avoid tick (a, 0) acts).1.1 ≠ b then 13 else 0

theorem S_foreign {xs : List Int} (hl : xs.length ≤ maxLen) {post : Bool → Prop} (hp : post (xs.any foreignA)) : V_slices_ContainsFunc_int_int__route_Check_1 xs post := by
  unfold V_slices_ContainsFunc_int_int__route_Check_1 V_slices_IndexFunc_int_int__route_Check_1
  simp only [maxLen] at hl
  rw [← fidx_any] at hp
  have step : ∀ (x : Int) {post : Bool → Prop}, post (foreignA x) → V_route_Check_1 x post := fun x post hp => by unfold V_route_Check_1; exact Jor2 hp
  refine Jn.mk (fun _ => post (decide ((-1 : Int) ≥ 0))) (Loop.find xs foreignA (fun i x hi hx hpx => ?_) (fun i x hi hx hpx hf => ?_) (fun hn hf => ?_)) (fun _ h => h)
  · refine Ite.t (by simp; omega) ⟨x, idx_of rfl hx, step x (Ite.f hpx ?_)⟩
    rw [w64_eq (by omega) (by omega)]; omega
  · refine Ite.t (by simp; omega) ⟨x, idx_of rfl hx, step x (Ite.t hpx ?_)⟩
    rw [fidx, hf] at hp; exact hp
  · refine Ite.f (by simp) ?_
    rw [fidx, hf] at hp; exact hp

theorem S_route_Check {s : ApiSite} {a b tick : Int} {taken : List ApiTaken} {avoid acts : List Int} (k : OkApiSite s) (h : RS s) (hav : avoid.length ≤ maxLen) (hl : taken.length ≤ 1099511627776) (hacts : acts.length ≤ 1000000)
    {post : Int → Prop} (hp : post (checkF s a b tick taken avoid acts)) : V_route_Check s a b tick taken avoid acts post := by
  unfold V_route_Check
  have hl' : taken.length ≤ maxLen := by simp [maxLen]; omega
  refine Jn.eq (!rightR s a b tick || acts.any foreignA) (S_route_right h.fl (Ite.mk (fun h1 => S_foreign (by simp [maxLen]; omega) (by rw [h1]; rfl)) (fun h1 => by rw [h1]; rfl))) (Ite.mk (fun h1 => ?_) (fun h1 => ?_))
  · simp only [Bool.or_eq_true, Bool.not_eq_true'] at h1
    rw [checkF, if_pos h1] at hp; exact hp
  · simp only [Bool.or_eq_false_iff, Bool.not_eq_false'] at h1
    obtain ⟨hr, hf⟩ := h1
    rw [checkF, if_neg (by rw [hr, hf]; decide)] at hp
    have hr' := hr
    simp only [rightR, Bool.and_eq_true, decide_eq_true_eq] at hr'
    have ht : 0 ≤ tick ∧ tick ≤ 20000 := hr'.2
    have hfa : ∀ x, x ∈ acts → 0 ≤ x ∧ x < 7 := fun x hx => by
      have := List.any_eq_false.1 hf x hx
      simp [foreignA] at this; omega
    refine S_newWalk hl (fun w hw => ?_)
    refine Jn.mk (fun q => runF s taken avoid tick (a, 0) acts = (q, 0) ∧ isC s.Floor q.1 = true) (Loop.mk (fun q : Int × Int × Int => 0 ≤ q.2.2 ∧ q.2.2 ≤ acts.length ∧ isQ s (q.1, q.2.1) ∧ runF s taken avoid tick (a, 0) acts = runF s taken avoid (tick + q.2.2) (q.1, q.2.1) (acts.drop q.2.2.toNat)) (fun q => (acts.length - q.2.2).toNat)
      ⟨by simp, by simp, ⟨hr'.1.1.1, by simp, by simp⟩, by simp⟩ ?_) ?_
    · rintro ⟨c, r, i⟩ ⟨h0, h1, hq, he⟩
      simp only at h0 h1 hq he
      obtain ⟨n, rfl⟩ := Int.eq_ofNat_of_zero_le h0
      refine Ite.mk (fun hlt => ?_) (fun hge => ?_)
      · simp only [decide_eq_true_eq] at hlt
        have hn : n < acts.length := by omega
        have hx : acts[n]? = some (acts[n]'hn) := List.getElem?_eq_getElem hn
        generalize hxe : acts[n]'hn = x at hx
        have hd : acts.drop n = x :: acts.drop (n + 1) := by rw [List.drop_eq_getElem_cons hn, hxe]
        have hxa := hfa x (List.mem_of_getElem? hx)
        simp only [Int.toNat_natCast] at he
        rw [hd, runF] at he
        refine ⟨x, idx_of rfl hx, S_walk_step k h hav hw hl' ht hq ⟨by simp, by simp; omega⟩ (by omega) ?_⟩
        refine Ite.mk (fun h2 => ?_) (fun h2 => ?_)
        · simp at h2
          rw [if_neg h2] at he
          rw [he] at hp
          simp only [ne_eq] at hp
          rw [if_pos h2] at hp; exact hp
        · simp at h2
          rw [if_pos h2] at he
          have e2 : w64 ((n : Int) + 1) = ((n + 1 : Nat) : Int) := by rw [w64_eq (by omega) (by omega)]; omega
          simp only []
          rw [e2]
          refine ⟨⟨by omega, by omega, stepF_ok h hq h2, ?_⟩, by omega⟩
          rw [he]
          simp only [Int.toNat_natCast]
          have e3 : tick + (n : Int) + 1 = tick + ((n + 1 : Nat) : Int) := by omega
          rw [e3]
      · simp only [decide_eq_false_iff_not] at hge
        have : n = acts.length := by omega
        subst this
        refine ⟨?_, hq.1⟩
        rw [he]; simp [runF]
    · rintro ⟨c, r⟩ ⟨he, hc⟩
      rw [he] at hp
      simp only [ne_eq, not_true_eq_false, if_false] at hp
      refine S_held hw hl' ht (by omega) (Ite.mk (fun h2 => ?_) (fun h2 => ?_))
      · rw [if_pos h2] at hp; exact hp
      · rw [if_neg (by simp [h2])] at hp
        refine Ite.mk (fun h3 => ?_) (fun h3 => ?_)
        · simp at h3; rw [if_pos h3] at hp; exact hp
        · simp at h3; rw [if_neg (by simp [h3])] at hp; exact hp
end Go.Taq

/- The mathematics, part G: the layers of the search. -/
set_option linter.unusedVariables false
namespace Go.Taq
open Go

/-- a map to true is a set -/
structure IsSet {κ : Type} [DecidableEq κ] (m : List (κ × Bool)) (S : κ → Prop) : Prop where
  val : ∀ x v, lk m x = some v → v = true ∧ S x
  all : ∀ x, S x → lk m x = some true
theorem IsSet.empty {κ : Type} [DecidableEq κ] : IsSet ([] : List (κ × Bool)) (fun _ => False) := ⟨fun x v h => by simp [lk] at h, fun _ h => h.elim⟩
theorem IsSet.ins {κ : Type} [DecidableEq κ] {m : List (κ × Bool)} {S : κ → Prop} (h : IsSet m S) (k : κ) : IsSet (upd m k true) (fun x => S x ∨ x = k) := by
  refine ⟨fun x v hx => ?_, fun x hx => ?_⟩
  · rw [lk_upd] at hx
    split at hx
    · rename_i e; cases hx; exact ⟨rfl, .inr e.symm⟩
    · exact ⟨(h.val x v hx).1, .inl (h.val x v hx).2⟩
  · rw [lk_upd]
    split
    · rfl
    · rename_i e
      rcases hx with hx | hx
      · exact h.all x hx
      · exact absurd hx.symm e
theorem IsSet.rem {κ : Type} [DecidableEq κ] {m : List (κ × Bool)} {S : κ → Prop} (h : IsSet m S) (k : κ) : IsSet (del m k) (fun x => S x ∧ x ≠ k) := by
  refine ⟨fun x v hx => ?_, fun x hx => ?_⟩
  · rw [lk_del] at hx
    split at hx
    · cases hx
    · rename_i e; exact ⟨(h.val x v hx).1, (h.val x v hx).2, fun e' => e e'.symm⟩
  · rw [lk_del, if_neg (fun e => hx.2 e.symm)]; exact h.all x hx.1
theorem IsSet.cong {κ : Type} [DecidableEq κ] {m : List (κ × Bool)} {S S' : κ → Prop} (h : IsSet m S) (he : ∀ x, S x ↔ S' x) : IsSet m S' :=
  ⟨fun x v hx => ⟨(h.val x v hx).1, (he x).1 (h.val x v hx).2⟩, fun x hx => h.all x ((he x).2 hx)⟩

section
variable {s : ApiSite} {a b tick : Int} {taken : List ApiTaken} {avoid : List Int}
/-- where one can be after so many ticks -/
def Rch (s : ApiSite) (a tick : Int) (taken : List ApiTaken) (avoid : List Int) : Nat → Int × Int → Prop
  | 0, q => q = (a, 0)
  | k + 1, p => ∃ q act, Rch s a tick taken avoid k q ∧ 0 ≤ act ∧ act < 7 ∧ stepF s taken avoid (tick + k) q act = (p, 0)
theorem Rch.ok (h : RS s) (ha : isC s.Floor a = true) : ∀ {k : Nat} {q : Int × Int}, Rch s a tick taken avoid k q → isQ s q
  | 0, q, e => by cases e; exact ⟨ha, by simp, by simp⟩
  | k + 1, p, ⟨q, act, hq, _, _, e⟩ => by
    have := stepF_ok h (Rch.ok h ha hq) (taken := taken) (avoid := avoid) (t := tick + k) (a := act) (by rw [e])
    rwa [e] at this
def rq (x : RouteStand) : Int × Int := (x.cell, x.rest)
/-- at the goal at a tick -/
def Goal (b tick : Int) (taken : List ApiTaken) (k : Nat) (q : Int × Int) : Prop := q.1 = b ∧ heldT taken b (tick + k) = false
instance (b tick : Int) (taken : List ApiTaken) (k : Nat) (q : Int × Int) : Decidable (Goal b tick taken k q) := inferInstanceAs (Decidable (_ ∧ _))

theorem S_layers (k : OkApiSite s) (h : RS s) (hav : avoid.length ≤ maxLen) (hl : taken.length ≤ maxLen) (ha : isC s.Floor a = true) (ht : 0 ≤ tick ∧ tick ≤ 20000) {w : RouteWalk} (hw : WalkOf s tick taken avoid w) {most : Int} (hm : 0 ≤ most ∧ most ≤ 300)
    {post : List (List (RouteStand × Bool)) × Bool → Prop}
    (hno : (∀ (i : Nat) q, (i : Int) ≤ most → Rch s a tick taken avoid i q → ¬ Goal b tick taken i q) → post ([], false))
    (hyes : ∀ (all : List (List (RouteStand × Bool))) (L : Nat), all.length = L + 1 → (L : Int) ≤ most → (∀ (i : Nat) m, all[i]? = some m → IsSet m (fun x => Rch s a tick taken avoid i (rq x))) → (∃ q, Rch s a tick taken avoid L q ∧ Goal b tick taken L q) →
      (∀ (i : Nat) q, i < L → Rch s a tick taken avoid i q → ¬ Goal b tick taken i q) → post (all, true)) : V_route_walk_layers w a b most post := by
  unfold V_route_walk_layers
  refine Loop.mk (fun t : List (List (RouteStand × Bool)) × Int => 0 ≤ t.2 ∧ t.2 ≤ most ∧ t.1.length = t.2.toNat + 1 ∧ (∀ (i : Nat) m, t.1[i]? = some m → IsSet m (fun x => Rch s a tick taken avoid i (rq x))) ∧
    (∀ (i : Nat) q, (i : Int) < t.2 → Rch s a tick taken avoid i q → ¬ Goal b tick taken i q)) (fun t => (most - t.2).toNat) ⟨by simp, hm.1, by simp, ?_, by simp; omega⟩ ?_
  · intro i m hi
    have : i = 0 := by
      have := (List.getElem?_eq_some_iff.1 hi).1; simp at this; omega
    subst this
    simp at hi
    subst hi
    refine (IsSet.empty.ins _).cong (fun x => ?_)
    simp only [false_or, Rch, rq]
    constructor
    · rintro rfl; rfl
    · intro e; cases x; simp only [Prod.mk.injEq] at e; obtain ⟨rfl, rfl⟩ := e; rfl
  · rintro ⟨all, kk⟩ ⟨h0, h1, hlen, hset, hng⟩
    simp only at h0 h1 hlen hset hng
    obtain ⟨n, rfl⟩ := Int.eq_ofNat_of_zero_le h0
    simp only [Int.toNat_natCast] at hlen
    have hx : all[n]? = some (all[n]'(by omega)) := List.getElem?_eq_getElem _
    generalize all[n]'(by omega) = cur at hx
    have hcur := hset n cur hx
    have hidx : idx all (n : Int) = some cur := idx_of rfl hx
    have hsame : all.set (Int.toNat (n : Int)) cur = all := set_idx hidx
    refine Jn.mk (fun all' => all'.length = n + 2 ∧ (n : Int) < most ∧ (∀ (i : Nat) m, all'[i]? = some m → IsSet m (fun x => Rch s a tick taken avoid i (rq x))) ∧ (∀ q, Rch s a tick taken avoid n q → ¬ Goal b tick taken n q)) ?_ ?_
    · refine ⟨cur, hidx, ?_⟩
      simp only [hsame]
      refine Jn.mk (fun next => IsSet next (fun x => Rch s a tick taken avoid (n + 1) (rq x)) ∧ (∀ q, Rch s a tick taken avoid n q → ¬ Goal b tick taken n q))
        (Loop.mk (fun t : List RouteStand × List (RouteStand × Bool) => (∀ x, x ∈ t.1 → Rch s a tick taken avoid n (rq x) ∧ ¬ Goal b tick taken n (rq x)) ∧ IsSet t.2 (fun p => ∃ x, x ∈ t.1 ∧ ∃ act, 0 ≤ act ∧ act < 7 ∧ stepF s taken avoid (tick + n) (rq x) act = (rq p, 0))) (fun t => left cur t.1) ⟨by simp, IsSet.empty.cong (by simp)⟩ ?_) ?_
      · rintro ⟨seen, next⟩ ⟨i1, i2⟩
        simp only at i1 i2
        refine ⟨fun x v ⟨hxv, hns⟩ => ?_, fun hall => ?_⟩
        · have hR : Rch s a tick taken avoid n (rq x) := (hcur.val x v hxv).2
          have hQ : isQ s (x.cell, x.rest) := Rch.ok h ha hR
          refine Jn.mk (fun next' => IsSet next' (fun p => ∃ y, y ∈ x :: seen ∧ ∃ act, 0 ≤ act ∧ act < 7 ∧ stepF s taken avoid (tick + n) (rq y) act = (rq p, 0)) ∧ ¬ Goal b tick taken n (rq x)) ?_ ?_
          · refine Jn.eq (decide (Goal b tick taken n (rq x))) (Ite.mk (fun e => ?_) (fun e => ?_)) (Ite.mk (fun e => ?_) (fun e => ?_))
            · simp at e
              refine S_held hw hl ht ⟨by omega, by omega⟩ ?_
              show (!heldT taken b (tick + n)) = decide (Goal b tick taken n (rq x))
              rw [Bool.eq_iff_iff, decide_eq_true_eq]
              unfold Goal rq
              simp [e]
            · simp at e
              unfold Goal rq; simp [e]
            · simp only [decide_eq_true_eq] at e
              exact hyes all n hlen h1 hset ⟨_, hR, e⟩ (fun i q hi => hng i q (by omega))
            · simp only [decide_eq_false_iff_not] at e
              refine Jn.mk (fun nx' => IsSet nx' (fun p => (∃ y, y ∈ seen ∧ ∃ act, 0 ≤ act ∧ act < 7 ∧ stepF s taken avoid (tick + n) (rq y) act = (rq p, 0)) ∨ ∃ act, 0 ≤ act ∧ act < 7 ∧ stepF s taken avoid (tick + n) (rq x) act = (rq p, 0)))
                (Loop.mk (fun t : List (RouteStand × Bool) × Int => 0 ≤ t.2 ∧ t.2 ≤ 7 ∧ IsSet t.1 (fun p => (∃ y, y ∈ seen ∧ ∃ act, 0 ≤ act ∧ act < 7 ∧ stepF s taken avoid (tick + n) (rq y) act = (rq p, 0)) ∨ ∃ act, 0 ≤ act ∧ act < t.2 ∧ stepF s taken avoid (tick + n) (rq x) act = (rq p, 0))) (fun t => (7 - t.2).toNat)
                  ⟨by simp, by simp, i2.cong (fun p => ⟨.inl, fun hp => hp.elim id (fun ⟨act, q1, q2, _⟩ => absurd q2 (by simp; omega))⟩)⟩ ?_) ?_
              · rintro ⟨nx', act⟩ ⟨j0, j1, j2⟩
                simp only at j0 j1 j2
                refine Ite.mk (fun hlt => ?_) (fun hge => ?_)
                · simp only [decide_eq_true_eq] at hlt
                  refine S_walk_step k h hav hw hl ht hQ (by refine ⟨?_, ?_⟩ <;> (try simp) <;> omega) (by refine ⟨?_, ?_⟩ <;> (try simp) <;> omega) ?_
                  have e2 : w64 (act + 1) = act + 1 := w64_eq (by omega) (by omega)
                  have ext : ∀ {T : RouteStand → Prop}, (∀ p, T p ↔ stepF s taken avoid (tick + n) (rq x) act = (rq p, 0)) → ∀ p, (((∃ y, y ∈ seen ∧ ∃ act, 0 ≤ act ∧ act < 7 ∧ stepF s taken avoid (tick + n) (rq y) act = (rq p, 0)) ∨ ∃ act', 0 ≤ act' ∧ act' < act ∧ stepF s taken avoid (tick + n) (rq x) act' = (rq p, 0)) ∨ T p) ↔
                      ((∃ y, y ∈ seen ∧ ∃ act, 0 ≤ act ∧ act < 7 ∧ stepF s taken avoid (tick + n) (rq y) act = (rq p, 0)) ∨ ∃ act', 0 ≤ act' ∧ act' < act + 1 ∧ stepF s taken avoid (tick + n) (rq x) act' = (rq p, 0)) := fun {T} hT p => by
                    rw [hT p]
                    constructor
                    · rintro ((e1 | ⟨a', q0, q1, q2⟩) | e1)
                      · exact .inl e1
                      · exact .inr ⟨a', q0, by omega, q2⟩
                      · exact .inr ⟨act, j0, by omega, e1⟩
                    · rintro (e1 | ⟨a', q0, q1, q2⟩)
                      · exact .inl (.inl e1)
                      · by_cases e1 : a' = act
                        · subst e1; exact .inr q2
                        · exact .inl (.inr ⟨a', q0, by omega, q2⟩)
                  refine Jn.mk (fun m' => IsSet m' (fun p => (∃ y, y ∈ seen ∧ ∃ act, 0 ≤ act ∧ act < 7 ∧ stepF s taken avoid (tick + n) (rq y) act = (rq p, 0)) ∨ ∃ act', 0 ≤ act' ∧ act' < act + 1 ∧ stepF s taken avoid (tick + n) (rq x) act' = (rq p, 0))) (Ite.mk (fun e1 => ?_) (fun e1 => ?_)) (fun m' hm' => ?_)
                  · simp at e1
                    refine (j2.ins _).cong (ext (fun p => ?_))
                    constructor
                    · rintro rfl
                      exact Prod.ext rfl e1
                    · intro e4
                      cases p
                      simp only [rq, Prod.ext_iff] at e4
                      obtain ⟨⟨e5, e6⟩, _⟩ := e4
                      simp only [RouteStand.mk.injEq]
                      exact ⟨e5.symm, e6.symm⟩
                  · simp at e1
                    refine j2.cong (fun p => ?_)
                    rw [← ext (T := fun _ => False) (fun p => ⟨False.elim, fun e4 => e1 (by rw [show (x.cell, x.rest) = rq x from rfl, e4])⟩) p]
                    simp
                  · simp only []
                    rw [e2]
                    exact ⟨⟨by omega, by omega, hm'⟩, by omega⟩
                · simp only [decide_eq_false_iff_not] at hge
                  have : act = 7 := by omega
                  subst this; exact j2
              · intro nx' hnx
                refine ⟨hnx.cong (fun p => ?_), e⟩
                simp only [List.mem_cons, exists_eq_or_imp]
                constructor
                · rintro (e1 | e1)
                  · exact .inr e1
                  · exact .inl e1
                · rintro (e1 | e1)
                  · exact .inr e1
                  · exact .inl e1
          · rintro next' ⟨hn1, hn2⟩
            refine ⟨⟨fun y hy => ?_, hn1⟩, left_lt cur hxv hns⟩
            rcases List.mem_cons.1 hy with e | e
            · subst e; exact ⟨hR, hn2⟩
            · exact i1 y e
        · have seenAll : ∀ x : RouteStand, Rch s a tick taken avoid n (rq x) → x ∈ seen := fun x hx => hall x (by rw [hcur.all x hx]; simp)
          refine ⟨i2.cong (fun p => ?_), fun q hq => ?_⟩
          · constructor
            · rintro ⟨x, hx, act, a0, a1, e⟩; exact ⟨rq x, act, (i1 x hx).1, a0, a1, e⟩
            · rintro ⟨q, act, hq, a0, a1, e⟩; exact ⟨⟨q.1, q.2⟩, seenAll ⟨q.1, q.2⟩ hq, act, a0, a1, e⟩
          · exact (i1 ⟨q.1, q.2⟩ (seenAll ⟨q.1, q.2⟩ hq)).2
      · rintro next ⟨hn1, hn2⟩
        refine Ite.mk (fun e => ?_) (fun e => ?_)
        · simp at e
          refine hno (fun i q hi hq => ?_)
          by_cases e1 : i = n
          · subst e1; exact hn2 q hq
          · exact hng i q (by omega) hq
        · simp at e
          refine ⟨by omega, ?_⟩
          rw [set_app]
          refine ⟨by simp; omega, by omega, fun i m hi => ?_, hn2⟩
          by_cases e1 : i < all.length
          · rw [List.getElem?_append_left e1] at hi; exact hset i m hi
          · have := (List.getElem?_eq_some_iff.1 hi).1
            simp at this
            have : i = all.length := by omega
            subst this
            rw [List.getElem?_append_right (Nat.le_refl _)] at hi
            simp at hi; subst hi
            rw [hlen]; exact hn1
    · rintro all' ⟨g1, g2, g3, g4⟩
      have e2 : w64 ((n : Int) + 1) = ((n + 1 : Nat) : Int) := by rw [w64_eq (by omega) (by omega)]; omega
      simp only []
      rw [e2]
      refine ⟨⟨by omega, by omega, by simp; omega, g3, fun i q hi hq => ?_⟩, by omega⟩
      by_cases e1 : i = n
      · subst e1; exact g4 q hq
      · exact hng i q (by omega) hq
end
end Go.Taq

/- The mathematics, part H: the search's way back, and its walk. -/
set_option linter.unusedVariables false
namespace Go.Taq
open Go
section
variable {s : ApiSite} {a b tick : Int} {taken : List ApiTaken} {avoid : List Int}
/-- an action leads into a set -/
def Into (s : ApiSite) (taken : List ApiTaken) (avoid : List Int) (t : Int) (q : Int × Int) (S : Int × Int → Prop) (act : Int) : Prop := (stepF s taken avoid t q act).2 = 0 ∧ S (stepF s taken avoid t q act).1

theorem S_on (k : OkApiSite s) (h : RS s) (hav : avoid.length ≤ maxLen) (hl : taken.length ≤ maxLen) (ht : 0 ≤ tick ∧ tick ≤ 20000) {w : RouteWalk} (hw : WalkOf s tick taken avoid w) {n : Int} (hn : 0 ≤ n ∧ n ≤ 300) {q : RouteStand} (hQ : isQ s (rq q)) {into : List (RouteStand × Bool)} {S : Int × Int → Prop} (hS : IsSet into (fun x => S (rq x)))
    {post : Int × RouteStand × Bool → Prop} (hno : (∀ act, 0 ≤ act → act < 7 → ¬ Into s taken avoid (tick + n) (rq q) S act) → ∀ x, post (0, x, false))
    (hyes : ∀ act p, 0 ≤ act → act < 7 → Into s taken avoid (tick + n) (rq q) S act → rq p = (stepF s taken avoid (tick + n) (rq q) act).1 → (∀ a', 0 ≤ a' → a' < act → ¬ Into s taken avoid (tick + n) (rq q) S a') → post (act, p, true)) : V_route_walk_on w q n into post := by
  unfold V_route_walk_on
  refine Jn.mk (fun _ => ∀ act, 0 ≤ act → act < 7 → ¬ Into s taken avoid (tick + n) (rq q) S act) (Loop.mk (fun t : Int => 0 ≤ t ∧ t ≤ 7 ∧ ∀ act, 0 ≤ act → act < t → ¬ Into s taken avoid (tick + n) (rq q) S act) (fun t => (7 - t).toNat) ⟨by omega, by omega, fun act h0 h1 => by omega⟩ ?_) (fun _ hh => hno hh _)
  rintro t ⟨h0, h1, hall⟩
  refine Ite.mk (fun hlt => ?_) (fun hge => ?_)
  · simp only [decide_eq_true_eq] at hlt
    refine S_walk_step k h hav hw hl ht hQ (by omega) (by omega) ?_
    change (fun y => _) _
    generalize hst : stepF s taken avoid (tick + n) (q.cell, q.rest) t = st
    have hst' : stepF s taken avoid (tick + n) (rq q) t = st := hst
    obtain ⟨⟨c, r⟩, e⟩ := st
    simp only []
    refine Jn.mk (fun x => x = true ↔ Into s taken avoid (tick + n) (rq q) S t) (Ite.mk (fun e1 => ?_) (fun e1 => ?_)) (fun x hx => Ite.mk (fun e1 => ?_) (fun e1 => ?_))
    · simp at e1; subst e1
      unfold Into; rw [hst']
      simp only [true_and]
      constructor
      · intro e2
        cases e3 : lk into ({ cell := c, rest := r : RouteStand }) with
        | none => rw [e3] at e2; simp at e2
        | some v => exact (hS.val _ v e3).2
      · intro e2
        rw [hS.all ⟨c, r⟩ e2]; rfl
    · simp at e1
      unfold Into; rw [hst']; simp [e1]
    · exact hyes t ⟨c, r⟩ h0 hlt (hx.1 e1) (by rw [hst']; rfl) hall
    · rw [w64_eq (by omega) (by omega)]
      refine ⟨⟨by omega, by omega, fun act q0 q1 => ?_⟩, by omega⟩
      by_cases e2 : act = t
      · subst e2; exact fun e3 => by rw [hx.2 e3] at e1; cases e1
      · exact hall act q0 (by omega)
  · simp only [decide_eq_false_iff_not] at hge
    exact fun act q0 q1 => hall act q0 (by omega)

/-- so many steps lead to the goal's cell -/
def Lead (s : ApiSite) (b : Int) (taken : List ApiTaken) (avoid : List Int) : Nat → Int → Int × Int → Prop
  | 0, _, q => q.1 = b
  | j + 1, t, q => ∃ act, 0 ≤ act ∧ act < 7 ∧ Into s taken avoid t q (Lead s b taken avoid j (t + 1)) act
/-- at a number of ticks, on a way to the goal -/
def On_ (s : ApiSite) (a b tick : Int) (taken : List ApiTaken) (avoid : List Int) (L i : Nat) (q : Int × Int) : Prop := Rch s a tick taken avoid i q ∧ Lead s b taken avoid (L - i) (tick + i) q
theorem into_on {L i : Nat} (hi : i < L) {q : Int × Int} (hq : Rch s a tick taken avoid i q) {act : Int} (h0 : 0 ≤ act) (h1 : act < 7) :
    Into s taken avoid (tick + i) q (On_ s a b tick taken avoid L (i + 1)) act ↔ Into s taken avoid (tick + i) q (Lead s b taken avoid (L - i - 1) (tick + i + 1)) act := by
  unfold Into On_
  have e : tick + ((i + 1 : Nat) : Int) = tick + i + 1 := by omega
  have e2 : L - (i + 1) = L - i - 1 := by omega
  rw [e, e2]
  constructor
  · rintro ⟨e1, _, e3⟩; exact ⟨e1, e3⟩
  · rintro ⟨e1, e3⟩; exact ⟨e1, ⟨q, act, hq, h0, h1, Prod.ext rfl e1⟩, e3⟩
theorem on_iff {L i : Nat} (hi : i < L) {q : Int × Int} (hq : Rch s a tick taken avoid i q) : On_ s a b tick taken avoid L i q ↔ ∃ act, 0 ≤ act ∧ act < 7 ∧ Into s taken avoid (tick + i) q (On_ s a b tick taken avoid L (i + 1)) act := by
  have e : L - i = (L - i - 1) + 1 := by omega
  unfold On_
  rw [e]
  constructor
  · rintro ⟨_, act, h0, h1, h2⟩
    exact ⟨act, h0, h1, (into_on hi hq h0 h1).2 h2⟩
  · rintro ⟨act, h0, h1, h2⟩
    exact ⟨hq, act, h0, h1, (into_on hi hq h0 h1).1 h2⟩
end
end Go.Taq
