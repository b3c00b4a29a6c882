/- The mathematics, part F: whether a walk is good. -/
import Derived.Test.YtliikemkgfjpaaaME
set_option linter.unusedVariables false
namespace Go.Taq
open Go

/-- the numbers of a walk are within their bounds -/
def rightR (s : ApiSite) (a b tick : Int) : Bool := isC s.Floor a && (kd s.Floor a != 0) && (isC s.Floor b && (kd s.Floor b != 0)) && (decide (0 ≤ tick) && decide (tick ≤ 20000))
def wallR (s : ApiSite) (c : Int) : Bool := !(isC s.Floor c && (kd s.Floor c != 0))
theorem S_route_right {s : ApiSite} (h : RF s.Floor) {a b tick : Int} {post : Bool → Prop} (hp : post (rightR s a b tick)) : V_route_right s a b tick post := by
  unfold V_route_right
  have body : ∀ (x : Int) {k : Bool → Prop}, k (wallR s x) → Jn (fun (J8 : Bool → Prop) => Ite (decide (x < 0)) (J8 true) (Ite (decide (x ≥ (s.Floor.Kind.length : Int))) (J8 true) (∃ x11, idx s.Floor.Kind x = some x11 ∧ J8 (x11 == 0)))) k := fun x k hk => by
    refine Jn.eq (wallR s x) (Ite.mk (fun h1 => ?_) (fun h1 => Ite.mk (fun h2 => ?_) (fun h2 => ?_))) hk
    · simp at h1; unfold wallR isC; simp; omega
    · simp at h1 h2; unfold wallR isC; simp; omega
    · simp at h1 h2
      have hc : isC s.Floor x = true := isC_iff.2 ⟨h1, h2⟩
      refine ⟨_, idx_kd hc, ?_⟩
      unfold wallR; rw [hc]; cases e : (kd s.Floor x == 0) <;> simp [bne, e]
  refine Jn.mk (fun _ => wallR s a = false ∧ wallR s b = false) (Loop.find [a, b] (wallR s) (fun i x hi hx hpx => ?_) (fun i x hi hx hpx hf => ?_) (fun hn hf => ?_)) (fun _ hw => ?_)
  · refine Ite.t (by simp at hi ⊢; omega) ⟨x, idx_of rfl hx, body x (Ite.f hpx ?_)⟩
    simp at hi
    rw [w64_eq (by omega) (by omega)]; omega
  · refine Ite.t (by simp at hi ⊢; omega) ⟨x, idx_of rfl hx, body x (Ite.t hpx ?_)⟩
    have : rightR s a b tick = false := by
      have hx2 := List.mem_of_getElem? hx
      simp only [List.mem_cons, List.not_mem_nil, or_false] at hx2
      unfold wallR at hpx
      unfold rightR
      rcases hx2 with e | e <;> subst e <;> simp only [Bool.not_eq_true'] at hpx <;> rw [hpx] <;> simp
    rw [← this]; exact hp
  · refine Ite.f (by simp) ⟨hn a (by simp), hn b (by simp)⟩
  · refine Jand2 ?_
    have : (decide (tick ≥ 0) && decide (tick ≤ 20000)) = rightR s a b tick := by
      obtain ⟨h1, h2⟩ := hw
      unfold wallR at h1 h2
      simp only [Bool.not_eq_false'] at h1 h2
      unfold rightR; rw [h1, h2]; simp
    rw [this]; exact hp

/-- an action that is none of a walk -/
def foreignA (a : Int) : Bool := decide (a < 0) || decide (a ≥ 7)
/-- a walk, from a place, from a tick on -/
def runF (s : ApiSite) (taken : List ApiTaken) (avoid : List Int) : Int → (Int × Int) → List Int → (Int × Int) × Int
  | _, q, [] => (q, 0)
  | t, q, a :: r => if (stepF s taken avoid t q a).2 = 0 then runF s taken avoid (t + 1) (stepF s taken avoid t q a).1 r else ((0, 0), (stepF s taken avoid t q a).2)
def checkF (s : ApiSite) (a b tick : Int) (taken : List ApiTaken) (avoid acts : List Int) : Int :=
  if rightR s a b tick = false ∨ acts.any foreignA = true then 1
  else if (runF s taken avoid tick (a, 0) acts).2 ≠ 0 then (runF s taken avoid tick (a, 0) acts).2
  else if heldT taken (runF s taken avoid tick (a, 0) acts).1.1 (tick + acts.length) = true then 15
  else if (runF s taken avoid tick (a, 0) acts).1.1 ≠ b then 13 else 0

theorem S_foreign {xs : List Int} (hl : xs.length ≤ maxLen) {post : Bool → Prop} (hp : post (xs.any foreignA)) : V_slices_ContainsFunc_int_int__route_Check_1 xs post := by
  unfold V_slices_ContainsFunc_int_int__route_Check_1 V_slices_IndexFunc_int_int__route_Check_1
  simp only [maxLen] at hl
  rw [← fidx_any] at hp
  have step : ∀ (x : Int) {post : Bool → Prop}, post (foreignA x) → V_route_Check_1 x post := fun x post hp => by unfold V_route_Check_1; exact Jor2 hp
  refine Jn.mk (fun _ => post (decide ((-1 : Int) ≥ 0))) (Loop.find xs foreignA (fun i x hi hx hpx => ?_) (fun i x hi hx hpx hf => ?_) (fun hn hf => ?_)) (fun _ h => h)
  · refine Ite.t (by simp; omega) ⟨x, idx_of rfl hx, step x (Ite.f hpx ?_)⟩
    rw [w64_eq (by omega) (by omega)]; omega
  · refine Ite.t (by simp; omega) ⟨x, idx_of rfl hx, step x (Ite.t hpx ?_)⟩
    rw [fidx, hf] at hp; exact hp
  · refine Ite.f (by simp) ?_
    rw [fidx, hf] at hp; exact hp

theorem S_route_Check {s : ApiSite} {a b tick : Int} {taken : List ApiTaken} {avoid acts : List Int} (k : OkApiSite s) (h : RS s) (hav : avoid.length ≤ maxLen) (hl : taken.length ≤ 1099511627776) (hacts : acts.length ≤ 1000000)
    {post : Int → Prop} (hp : post (checkF s a b tick taken avoid acts)) : V_route_Check s a b tick taken avoid acts post := by
  unfold V_route_Check
  have hl' : taken.length ≤ maxLen := by simp [maxLen]; omega
  refine Jn.eq (!rightR s a b tick || acts.any foreignA) (S_route_right h.fl (Ite.mk (fun h1 => S_foreign (by simp [maxLen]; omega) (by rw [h1]; rfl)) (fun h1 => by rw [h1]; rfl))) (Ite.mk (fun h1 => ?_) (fun h1 => ?_))
  · simp only [Bool.or_eq_true, Bool.not_eq_true'] at h1
    rw [checkF, if_pos h1] at hp; exact hp
  · simp only [Bool.or_eq_false_iff, Bool.not_eq_false'] at h1
    obtain ⟨hr, hf⟩ := h1
    rw [checkF, if_neg (by rw [hr, hf]; decide)] at hp
    have hr' := hr
    simp only [rightR, Bool.and_eq_true, decide_eq_true_eq] at hr'
    have ht : 0 ≤ tick ∧ tick ≤ 20000 := hr'.2
    have hfa : ∀ x, x ∈ acts → 0 ≤ x ∧ x < 7 := fun x hx => by
      have := List.any_eq_false.1 hf x hx
      simp [foreignA] at this; omega
    refine S_newWalk hl (fun w hw => ?_)
    refine Jn.mk (fun q => runF s taken avoid tick (a, 0) acts = (q, 0) ∧ isC s.Floor q.1 = true) (Loop.mk (fun q : Int × Int × Int => 0 ≤ q.2.2 ∧ q.2.2 ≤ acts.length ∧ isQ s (q.1, q.2.1) ∧ runF s taken avoid tick (a, 0) acts = runF s taken avoid (tick + q.2.2) (q.1, q.2.1) (acts.drop q.2.2.toNat)) (fun q => (acts.length - q.2.2).toNat)
      ⟨by simp, by simp, ⟨hr'.1.1.1, by simp, by simp⟩, by simp⟩ ?_) ?_
    · rintro ⟨c, r, i⟩ ⟨h0, h1, hq, he⟩
      simp only at h0 h1 hq he
      obtain ⟨n, rfl⟩ := Int.eq_ofNat_of_zero_le h0
      refine Ite.mk (fun hlt => ?_) (fun hge => ?_)
      · simp only [decide_eq_true_eq] at hlt
        have hn : n < acts.length := by omega
        have hx : acts[n]? = some (acts[n]'hn) := List.getElem?_eq_getElem hn
        generalize hxe : acts[n]'hn = x at hx
        have hd : acts.drop n = x :: acts.drop (n + 1) := by rw [List.drop_eq_getElem_cons hn, hxe]
        have hxa := hfa x (List.mem_of_getElem? hx)
        simp only [Int.toNat_natCast] at he
        rw [hd, runF] at he
        refine ⟨x, idx_of rfl hx, S_walk_step k h hav hw hl' ht hq ⟨by simp, by simp; omega⟩ (by omega) ?_⟩
        refine Ite.mk (fun h2 => ?_) (fun h2 => ?_)
        · simp at h2
          rw [if_neg h2] at he
          rw [he] at hp
          simp only [ne_eq] at hp
          rw [if_pos h2] at hp; exact hp
        · simp at h2
          rw [if_pos h2] at he
          have e2 : w64 ((n : Int) + 1) = ((n + 1 : Nat) : Int) := by rw [w64_eq (by omega) (by omega)]; omega
          simp only []
          rw [e2]
          refine ⟨⟨by omega, by omega, stepF_ok h hq h2, ?_⟩, by omega⟩
          rw [he]
          simp only [Int.toNat_natCast]
          have e3 : tick + (n : Int) + 1 = tick + ((n + 1 : Nat) : Int) := by omega
          rw [e3]
      · simp only [decide_eq_false_iff_not] at hge
        have : n = acts.length := by omega
        subst this
        refine ⟨?_, hq.1⟩
        rw [he]; simp [runF]
    · rintro ⟨c, r⟩ ⟨he, hc⟩
      rw [he] at hp
      simp only [ne_eq, not_true_eq_false, if_false] at hp
      refine S_held hw hl' ht (by omega) (Ite.mk (fun h2 => ?_) (fun h2 => ?_))
      · rw [if_pos h2] at hp; exact hp
      · rw [if_neg (by simp [h2])] at hp
        refine Ite.mk (fun h3 => ?_) (fun h3 => ?_)
        · simp at h3; rw [if_pos h3] at hp; exact hp
        · simp at h3; rw [if_neg (by simp [h3])] at hp; exact hp
end Go.Taq
