/- The mathematics, part W: the reference of the route: the search. -/
import Derived.Test.YtliikemkgfjpaaaMV
set_option linter.unusedVariables false
namespace Go.Taq
open Go

/-- the greatest speed -/
def slowF (s : ApiSite) : Int := s.Zones.foldl (fun n z => imax n z.Speed) 1
theorem imax_le {a b c : Int} : imax a b ≤ c ↔ a ≤ c ∧ b ≤ c := by unfold imax; split <;> omega
theorem le_imax {a b : Int} : a ≤ imax a b ∧ b ≤ imax a b := by unfold imax; split <;> omega
theorem slow_fold : ∀ (l : List ApiZone) (n : Int), n ≤ l.foldl (fun n z => imax n z.Speed) n ∧ (∀ z, z ∈ l → z.Speed ≤ l.foldl (fun n z => imax n z.Speed) n) ∧ ∀ m, n ≤ m → (∀ z, z ∈ l → z.Speed ≤ m) → l.foldl (fun n z => imax n z.Speed) n ≤ m
  | [], n => ⟨by simp, by simp, fun m h _ => h⟩
  | z :: l, n => by
    obtain ⟨h1, h2, h3⟩ := slow_fold l (imax n z.Speed)
    have := le_imax (a := n) (b := z.Speed)
    refine ⟨Int.le_trans this.1 h1, fun y hy => ?_, fun m hm hz => h3 m (imax_le.2 ⟨hm, hz z (by simp)⟩) (fun y hy => hz y (by simp [hy]))⟩
    rcases List.mem_cons.1 hy with rfl | hy
    · exact Int.le_trans this.2 h1
    · exact h2 y hy
theorem slowF_bd {s : ApiSite} (h : RS s) : 1 ≤ slowF s ∧ slowF s ≤ 100 ∧ ∀ c, spd s c ≤ slowF s := by
  obtain ⟨h1, h2, h3⟩ := slow_fold s.Zones 1
  refine ⟨h1, h3 100 (by omega) (fun z hz => (h.sp z hz).2), fun c => ?_⟩
  unfold spd
  split
  · exact h1
  · exact h2 _ (mem_zn (by omega))
/-- the pair behind a number -/
def dec (W : Int) (i : Nat) : Int × Int := ((i : Int) / W, (i : Int) % W)
theorem dec_of {W c r : Int} (hW : 1 ≤ W) (hc : 0 ≤ c) (hr : 0 ≤ r ∧ r < W) {i : Nat} : (i : Int) = c * W + r ↔ dec W i = (c, r) := by
  unfold dec
  constructor
  · intro e
    rw [e, Int.add_comm, Int.add_mul_ediv_right _ _ (by omega), Int.add_mul_emod_self_right, Int.ediv_eq_zero_of_lt hr.1 hr.2, Int.emod_eq_of_lt hr.1 hr.2]; simp
  · intro e
    simp only [Prod.mk.injEq] at e
    have := Int.mul_ediv_add_emod (i : Int) W
    rw [e.1, e.2, Int.mul_comm] at this; exact this.symm
/-- an array of marks -/
def IsArr (N : Nat) (W : Int) (m : List Bool) (S : Int × Int → Prop) : Prop := m.length = N ∧ ∀ (i : Nat) b, m[i]? = some b → (b = true ↔ S (dec W i))
theorem IsArr.cong {N : Nat} {W : Int} {m : List Bool} {S S' : Int × Int → Prop} (h : IsArr N W m S) (he : ∀ i : Nat, i < N → (S (dec W i) ↔ S' (dec W i))) : IsArr N W m S' :=
  ⟨h.1, fun i b hb => (h.2 i b hb).trans (he i (by rw [← h.1]; exact (List.getElem?_eq_some_iff.1 hb).1))⟩
theorem IsArr.empty {N : Nat} {W : Int} : IsArr N W (List.replicate N false) (fun _ => False) := by
  refine ⟨by simp, fun i b hb => ?_⟩
  obtain ⟨h1, h2⟩ := List.getElem?_eq_some_iff.1 hb
  simp at h2; subst h2; simp
theorem IsArr.put {N : Nat} {W : Int} {m : List Bool} {S : Int × Int → Prop} (h : IsArr N W m S) {c r : Int} (hW : 1 ≤ W) (hc : 0 ≤ c) (hr : 0 ≤ r ∧ r < W) : IsArr N W (m.set (c * W + r).toNat true) (fun q => S q ∨ q = (c, r)) := by
  have h0 : 0 ≤ c * W + r := by have := Int.mul_nonneg hc (by omega : 0 ≤ W); omega
  refine ⟨by simp [h.1], fun i b hb => ?_⟩
  rw [List.getElem?_set] at hb
  split at hb
  · rename_i e
    split at hb
    · cases hb
      have := (dec_of hW hc hr (i := i)).1 (by omega)
      simp [this]
    · cases hb
  · rename_i e
    rw [h.2 i b hb]
    constructor
    · exact .inl
    · rintro (h1 | h1)
      · exact h1
      · have := (dec_of hW hc hr (i := i)).2 h1
        exact absurd (by omega) e
section
variable {s : ApiSite} {a b tick : Int} {taken : List ApiTaken} {avoid : List Int}
theorem step_rest (h : RS s) {t : Int} {q p : Int × Int} {act : Int} (hq : isC s.Floor q.1 = true ∧ 0 ≤ q.2 ∧ q.2 < slowF s) (he : stepF s taken avoid t q act = (p, 0)) : isC s.Floor p.1 = true ∧ 0 ≤ p.2 ∧ p.2 < slowF s := by
  have hb := slowF_bd h
  have hQ : isQ s q := ⟨hq.1, hq.2.1, by omega⟩
  have := stepF_ok h hQ (taken := taken) (avoid := avoid) (t := t) (a := act) (by rw [he])
  rw [he] at this
  refine ⟨this.1, this.2.1, ?_⟩
  unfold stepF at he
  repeat' split at he
  all_goals try (simp only [Prod.mk.injEq] at he; first | (exfalso; revert he; simp; done) | skip)
  · obtain ⟨e, _⟩ := he; rw [← e]; simp only [imax]; split <;> omega
  · obtain ⟨e, _⟩ := he; rw [← e]; simp only []; have := hb.2.2 (nx s.Floor q.1 (act - 1)).1; omega
theorem Rch.rest (h : RS s) (ha : isC s.Floor a = true) : ∀ {k : Nat} {q : Int × Int}, Rch s a tick taken avoid k q → isC s.Floor q.1 = true ∧ 0 ≤ q.2 ∧ q.2 < slowF s
  | 0, q, e => by cases e; have := (slowF_bd h).1; exact ⟨ha, by simp, by simp; omega⟩
  | k + 1, p, ⟨q, act, hq, _, _, e⟩ => step_rest h (Rch.rest h ha hq) e
end
end Go.Taq
