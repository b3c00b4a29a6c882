/- The mathematics, several parts in one text. -/
import Derived.Test.YtbkpekodmhkbdaaGreatOH
/- The mathematics, part OI: ActRefuses. -/
set_option linter.unusedVariables false
set_option linter.unusedSimpArgs false
namespace Go.Taq
open Go

section

end
end Go.Taq

/- The mathematics, part OJ: legal actions keep states right, and shelves apart. -/
set_option linter.unusedVariables false
set_option linter.unusedSimpArgs false
namespace Go.Taq
open Go

section
variable {s : ApiSite} {st : ApiState}
theorem carr_at {st : ApiState} {j : Nat} {a : ApiRobot} (hj : st.Robots[j]? = some a) (h0 : 0 ≤ a.Load) (hu : ∀ (k : Nat) z, st.Robots[k]? = some z → z.Load = a.Load → k = j) : carr st a.Load = j := by
  unfold carr
  rw [if_neg (by omega)]
  rcases fidx_cases (fun z : ApiRobot => z.Load == a.Load) st.Robots with ⟨i, x, hi, e, hp, _⟩ | ⟨_, hb⟩
  · rw [e, hu i x hi (by simpa using hp)]
  · have := hb a (List.mem_of_getElem? hj); simp at this
theorem RSt.uniq (h : RSt s st) {j k : Nat} {a z : ApiRobot} (hj : st.Robots[j]? = some a) (hk : st.Robots[k]? = some z) (h0 : 0 ≤ a.Load) (e : z.Load = a.Load) : k = j := by
  have h1 := ((h.rob j a hj).own h0).1
  have h2 := ((h.rob k z hk).own (by omega)).1
  rw [e, h1] at h2; omega
end
end Go.Taq

/- The mathematics, part OK: what legal actions keep, one by one. -/
set_option linter.unusedVariables false
set_option linter.unusedSimpArgs false
namespace Go.Taq
open Go

section

end
end Go.Taq

/- The mathematics, part OM: right states in the program; ActKeeps. -/
set_option linter.unusedVariables false
set_option linter.unusedSimpArgs false
namespace Go.Taq
open Go

theorem V_pass {α : Type} {xs : List α} (hm : xs.length ≤ maxLen) {T : Int → (Bool → Prop) → Prop} {F E : Prop} (hT : ∀ (i : Nat) x, xs[i]? = some x → ∀ {q : Bool → Prop}, q false → T (i : Int) q) (hE : E) :
    Jn (fun (J : Unit → Prop) => Loop (fun (s : Int) Y => Ite (decide (s < (xs.length : Int))) (T s (fun b => Ite b F (Y (w64 (s + 1))))) (J ())) 0) (fun _ => E) :=
  Jn.mk (fun _ => E) (V_loopj hm (fun t => t) (fun _ _ => True) rfl trivial (fun i x t hx ht _ => by rw [ht]; exact hT i x hx (Ite.f rfl ⟨rfl, trivial⟩)) (fun _ _ => hE)) (fun _ h => h)
section
variable {s : ApiSite} {st : ApiState}
theorem S_body_within {x a b : Int} (h : a ≤ x ∧ x ≤ b) {post : Bool → Prop} (hp : post true) : V_body_within x a b post := by
  unfold V_body_within
  refine Jand2 ?_
  rw [decide_eq_true (by omega : x ≥ a), decide_eq_true h.2]; exact hp
theorem S_body_on {f : ApiFloor} {c : Int} {ks : List Int} (hk : ks.length ≤ 10) (h0 : 0 ≤ kx f c) (h : kx f c ∈ ks) {post : Bool → Prop} (hp : post true) : V_body_on f c ks post := by
  have hc : isC f c = true := by
    cases e : isC f c with
    | true => rfl
    | false => unfold kx at h0; rw [e] at h0; simp at h0
  have hb := isC_iff.1 hc
  unfold V_body_on
  unfold kx at h; rw [if_pos hc] at h
  refine Jn.mk' (Ite.t (by simp; omega) (Ite.t (by simp; omega) ⟨_, idx_kd hc, S_slices_Contains (by unfold maxLen; omega) ?_⟩))
  rw [List.contains_iff_mem.2 h]; exact hp
theorem S_body_robots (h : RSt s st) (hz : Sz st) {post : Bool → Prop} (hp : post true) : V_body_robots s st post := by
  unfold V_body_robots
  have q1 := hz.rb
  have q2 := hz.sh
  refine Jn.mk (fun _ => post true) (V_loopc (xs := st.Robots) (by unfold maxLen; omega) (fun t : List (Int × Bool) × Int => t.2) (fun i t => ∀ x, 0 ≤ x → (lk t.1 x).getD false = true → ∃ (k : Nat) (z : ApiRobot), k < i ∧ st.Robots[k]? = some z ∧ z.Load = x) rfl (fun x _ hx => by simp [lk] at hx) (fun i r t hx ht hI => ?_) (fun _ _ => hp)) (fun _ h => h)
  have hR := h.rob i r hx
  have hc := isC_iff.1 hR.cell
  refine Jn.mk (fun b => b = false) (Ite.f (by simp; omega) (Ite.f (by simp; omega) ⟨_, idx_kd hR.cell, Ite.f (by simpa using hR.kind) (S_body_within (by rw [w64_eq (by omega) (by omega)]; have := hR.load; omega) rfl)⟩)) (fun b hb => Ite.f hb ?_)
  refine Jn.mk (fun b => b = false) (S_body_within hR.charge (Ite.t rfl (S_body_within hR.rest (Ite.t rfl (S_body_within hR.mute rfl))))) (fun b hb => Ite.f hb ?_)
  refine Jn.mk (fun b => b = false) (Ite.mk (fun h0 => Ite.mk (fun h1 => ?_) (fun h1 => ?_)) (fun _ => rfl)) (fun b hb => Ite.f hb ⟨by show w64 (t.2 + 1) = _; rw [ht], fun x h0 hx2 => ?_⟩)
  · exfalso
    have h0' : 0 ≤ r.Load := by simpa using h0
    obtain ⟨k, z, hk, hz2, e⟩ := hI _ h0' h1
    have := h.uniq hx hz2 h0' e; omega
  · have h0' : 0 ≤ r.Load := by simpa using h0
    obtain ⟨m, hm⟩ := Int.eq_ofNat_of_zero_le h0'
    have hml : m < st.Shelves.length := by have := hR.load; omega
    have ho := (hR.own h0').2
    have hsx := List.getElem?_eq_getElem hml
    rw [hm] at ho
    have ho2 : st.Shelves.getD m 0 = r.Cell := ho
    rw [getD_i hsx] at ho2
    refine ⟨_, idx_of hm hsx, ?_⟩
    rw [ho2]; simp
  · have hx3 : (lk (upd t.1 r.Load true) x).getD false = true := hx2
    rw [lk_upd] at hx3
    by_cases e : r.Load = x
    · exact ⟨i, r, by omega, hx, e⟩
    · rw [if_neg e] at hx3
      obtain ⟨k, z, hk, hz2, e2⟩ := hI x h0 hx3
      exact ⟨k, z, by omega, hz2, e2⟩
theorem S_body_rest (h : RSt s st) (hz : Sz st) {post : Bool → Prop} (hp : post true) : V_body_rest s.Floor st post := by
  unfold V_body_rest
  have q4 := hz.dd; have q5 := hz.sk
  refine V_pass (xs := st.Dead) (by unfold maxLen; omega) (T := fun i q => ∃ x14, idx st.Dead i = some x14 ∧ Jn (fun (J16 : Bool → Prop) => Ite (decide (x14 < 0)) (J16 true) (Ite (decide (x14 ≥ (s.Floor.Kind.length : Int))) (J16 true) (Ite (decide (i > 0)) (∃ x20, idx st.Dead (w64 (i - 1)) = some x20 ∧ J16 (decide (x14 ≤ x20))) (J16 false)))) q) (fun i x hx q hq => ⟨x, idx_of rfl hx, Jn.mk' ?_⟩) ?_
  · have hc := isC_iff.1 (h.dead i x hx)
    have hil := (List.getElem?_eq_some_iff.1 hx).1
    refine Ite.f (by simp; omega) (Ite.f (by simp; omega) (Ite.mk (fun h1 => ?_) (fun _ => hq)))
    cases i with
    | zero => simp at h1
    | succ j =>
      have hy := List.getElem?_eq_getElem (show j < st.Dead.length by omega)
      refine ⟨_, idx_of (n := j) (by rw [w64_eq (by omega) (by omega)]; omega) hy, ?_⟩
      have := h.deadA j _ x hy hx
      rw [decide_eq_false (by omega)]; exact hq
  refine V_pass (xs := st.Stuck) (by unfold maxLen; omega) (T := fun i q => ∃ x37, idx st.Stuck i = some x37 ∧ Jn (fun (J39 : Bool → Prop) => V_body_on s.Floor x37.Cell ([6] : List Int) (fun x40 => Ite x40 (V_body_within x37.Left 1 20000 (fun x42 => Ite x42 (Ite (decide (i > 0)) (∃ x45, idx st.Stuck (w64 (i - 1)) = some x45 ∧ J39 (decide (x37.Cell ≤ x45.Cell))) (J39 false)) (J39 true))) (J39 true))) q) (fun i x hx q hq => ⟨x, idx_of rfl hx, Jn.mk' ?_⟩) hp
  obtain ⟨k1, k2, k3⟩ := h.stuck i x hx
  have hil := (List.getElem?_eq_some_iff.1 hx).1
  refine S_body_on (by decide) (by omega) (by rw [k1]; decide) (Ite.t rfl (S_body_within ⟨k2, k3⟩ (Ite.t rfl (Ite.mk (fun h1 => ?_) (fun _ => hq)))))
  cases i with
  | zero => simp at h1
  | succ j =>
    have hy := List.getElem?_eq_getElem (show j < st.Stuck.length by omega)
    refine ⟨_, idx_of (n := j) (by rw [w64_eq (by omega) (by omega)]; omega) hy, ?_⟩
    have := h.stuckA j _ x hy hx
    rw [decide_eq_false (by omega)]; exact hq
theorem S_body_Clash {l : List Int} (hl : l.length ≤ 10000) (hn : l.Nodup) {post : Int × Bool → Prop} (hp : post (0, false)) : V_body_Clash l post := by
  unfold V_body_Clash V_slices_Values_int_int V_slices_Sorted_int__slices_Values_int_int_1 V_slices_Collect_int__slices_Values_int_int_1 V_slices_AppendSeq_int_int__o0_slices_Values_int_int_1
  refine ⟨by omega, ?_⟩
  refine Each.inv l (fun i t => t = l.take i) rfl (fun i x t hx ht Y hY => ?_) (fun t ht => ?_)
  · have := (List.getElem?_eq_some_iff.1 hx).1
    refine ⟨by rw [ht]; simp; omega, hY _ ?_⟩
    rw [ht, take_succ hx]
  rw [List.take_length] at ht; subst ht
  unfold V_slices_Sort_int_int__o0
  refine ⟨by omega, ?_⟩
  have hperm := List.mergeSort_perm t (fun x y => decide (x ≤ y))
  have hnd := hperm.nodup_iff.2 hn
  have hlen := hperm.length_eq
  generalize t.mergeSort (fun x y => decide (x ≤ y)) = m at *
  refine Jn.mk (fun _ => post (0, false)) ?_ (fun _ h => h)
  refine Loop.inv (m.length - 1) (fun i q => q = (i : Int) + 1) rfl (fun i q hi hq => ?_) (fun q hq => Ite.f (by subst hq; simp; omega) hp)
  subst hq
  have h1 := List.getElem?_eq_getElem (show i + 1 < m.length by omega)
  have h2 := List.getElem?_eq_getElem (show i < m.length by omega)
  refine Ite.lt (by omega) ⟨_, idx_of (n := i + 1) (by omega) h1, _, idx_of (n := i) (by rw [w64_eq (by omega) (by omega)]; omega) h2, Ite.f ?_ (by rw [w64_eq (by omega) (by omega)]; simp)⟩
  have := List.pairwise_iff_getElem.1 hnd i (i + 1) (by omega) (by omega) (by omega)
  simpa using fun e => this e.symm
theorem S_body_Right (h : RSt s st) (hz : Sz st) {post : Bool → Prop} (hp : post true) : V_body_Right s st post := by
  unfold V_body_Right
  have q1 := hz.sh; have q3 := hz.pp
  refine Jn.mk (fun b => b = false) (S_body_within h.tick (Ite.t rfl (Ite.f (by simp [h.sl]) (Ite.f (by simp [h.rl]) (Ite.f (by have := h.pl; simp; omega) (S_body_robots h hz (Ite.t rfl (S_body_rest h hz rfl)))))))) (fun b hb => Ite.f hb ?_)
  refine V_pass (xs := st.Shelves) (by unfold maxLen; omega) (T := fun i q => ∃ x27, idx st.Shelves i = some x27 ∧ Jn (fun (J29 : Bool → Prop) => V_body_Carrier st i (fun x30 => Ite (decide (x30 < 0)) (V_body_on s.Floor x27 ([1, 2] : List Int) (fun x32 => J29 (!x32))) (J29 false))) q) (fun i x hx q hq => ⟨x, idx_of rfl hx, Jn.mk' (S_body_Carrier hz (Ite.mk (fun h1 => ?_) (fun _ => hq)))⟩) ?_
  · have hc : carB st i = false := by unfold carB; simp at h1 ⊢; omega
    have := h.shel i x hx hc
    refine S_body_on (by decide) (by omega) (by rcases this with e | e <;> rw [e] <;> decide) hq
  refine V_pass (xs := st.People) (by unfold maxLen; omega) (T := fun i q => ∃ x49, idx st.People i = some x49 ∧ V_body_on s.Floor x49 ([4, 5] : List Int) (fun x52 => q (!x52))) (fun i x hx q hq => ⟨x, idx_of rfl hx, ?_⟩) ?_
  · have := h.ppl i x hx
    exact S_body_on (by decide) (by omega) (by rcases this with e | e <;> rw [e] <;> decide) hq
  exact S_body_all hz (S_body_Clash (by have := allS_len hz; omega) h.clash hp)
end
end Go.Taq
