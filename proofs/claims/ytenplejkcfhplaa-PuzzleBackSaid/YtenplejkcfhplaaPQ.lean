/- The laws PuzzleWalks and PuzzleBack, in plain data. -/
import Derived.Test.YtenplejkcfhplaaPN
set_option linter.unusedVariables false
set_option linter.unusedSimpArgs false
namespace Go.Taq
open Go
theorem imax_eq {a b : Int} : imax a b = max a b := by unfold imax; split <;> omega
/-- a pick among shifts -/
theorem pick_ok {bs : List ApiShift} {p : Int} (hb : bs ≠ []) : ∃ s, idx bs ((imax p 0).tmod (bs.length : Int)) = some s ∧ s ∈ bs := by
  have hl : 0 < bs.length := List.length_pos_iff.2 hb
  have h0 : 0 ≤ imax p 0 := by rw [imax_eq]; omega
  have h1 : 0 ≤ (imax p 0).tmod (bs.length : Int) := Int.tmod_nonneg _ h0
  have h2 : (imax p 0).tmod (bs.length : Int) < bs.length := Int.tmod_lt_of_pos _ (by omega)
  exact ⟨_, idx_get h1 h2, List.getElem_mem _⟩
/-- a shift in a region in which one gets in both directions leads at most one further -/
theorem Dst.far {f : ApiFloor} {r : List Int} {n k : Nat} {goal : Int} {t : List Int} (h : Dst f r n k goal t) (hop : ∀ a b, a < n → b < n → getsB f (r.getD a 0) (r.getD b 0) = getsB f (r.getD b 0) (r.getD a 0)) {l : ApiLayout} (hl : LOk n k l) {s : ApiShift} (hs : s ∈ btw f r l true) (h0 : 0 ≤ dT n k t l) : 0 ≤ dT n k t (doS l s) ∧ dT n k t (doS l s) ≤ dT n k t l + 1 := by
  have hl' := hl.doS hs
  obtain ⟨a, b, rfl, ha, hb, hg⟩ := back_ok hs
  have hb' : l.Full[b]? = some false := by simpa using hb
  obtain ⟨e1, e2⟩ := doL_get ha hb'
  have hal := (List.getElem?_eq_some_iff.1 ha).1
  have hbl := (List.getElem?_eq_some_iff.1 hb).1
  rw [hl.len] at hal hbl
  rw [hop a b hal hbl] at hg
  have hs2 : ({ From := (b : Int), To := (a : Int) } : ApiShift) ∈ btw f r (doS l { From := (a : Int), To := (b : Int) }) true := btw_intro (full := true) e2 e1 hg
  have hbk : doS (doS l { From := (a : Int), To := (b : Int) }) { From := (b : Int), To := (a : Int) } = l := doL_back hl ha hb'
  have := h.near hl' hs2
  rw [hbk] at this
  exact this h0
theorem S_open {f : ApiFloor} {r : List Int} (hf : RF f) (hr : r.length ≤ 1000) {post : Bool → Prop} (hF : post false) (hT : (∀ a b, a < r.length → b < r.length → getsB f (r.getD a 0) (r.getD b 0) = getsB f (r.getD b 0) (r.getD a 0)) → post true) : V_taquinlaw26_open f r post := by
  unfold V_taquinlaw26_open
  refine Jn.mk (fun _ => ∀ a b, a < r.length → b < r.length → getsB f (r.getD a 0) (r.getD b 0) = getsB f (r.getD b 0) (r.getD a 0)) (Loop.inv r.length (fun i (s : Int) => s = (i : Int) ∧ ∀ a b, a < i → b < r.length → getsB f (r.getD a 0) (r.getD b 0) = getsB f (r.getD b 0) (r.getD a 0)) ⟨rfl, fun a b h => by omega⟩ (fun i s hi hI => ?_) (fun s hI => ?_)) (fun _ h => hT h)
  · obtain ⟨rfl, hI⟩ := hI
    have hx : r[i]? = some (r.getD i 0) := by rw [List.getD_eq_getElem?_getD, List.getElem?_eq_getElem hi]; rfl
    refine Ite.lt (by omega) (Jn.mk (fun _ => ∀ b, b < r.length → getsB f (r.getD i 0) (r.getD b 0) = getsB f (r.getD b 0) (r.getD i 0)) (Jn.mk (fun _ => ∀ b, b < r.length → getsB f (r.getD i 0) (r.getD b 0) = getsB f (r.getD b 0) (r.getD i 0)) (Loop.inv r.length (fun j (s : Int) => s = (j : Int) ∧ ∀ b, b < j → getsB f (r.getD i 0) (r.getD b 0) = getsB f (r.getD b 0) (r.getD i 0)) ⟨rfl, fun b h => by omega⟩ (fun j s hj hJ => ?_) (fun s hJ => ?_)) (fun _ h => h)) (fun _ h => ⟨w64_1 (by omega), fun a b h1 h2 => ?_⟩))
    · obtain ⟨rfl, hJ⟩ := hJ
      have hy : r[j]? = some (r.getD j 0) := by rw [List.getD_eq_getElem?_getD, List.getElem?_eq_getElem hj]; rfl
      refine Ite.lt (by omega) ⟨_, idx_of rfl hx, _, idx_of rfl hy, S_Gets hf (S_Gets hf (Ite.mk (fun _ => hF) (fun e => ⟨w64_1 (by omega), fun b hb => ?_⟩)))⟩
      by_cases e2 : b = j
      · subst e2; simpa using e
      · exact hJ b (by omega)
    · obtain ⟨rfl, hJ⟩ := hJ
      exact Ite.nlt (by omega) hJ
    · by_cases e : a = i
      · subst e; exact h b h2
      · exact hI a b (by omega) h2
  · obtain ⟨rfl, hI⟩ := hI
    exact Ite.nlt (by omega) hI
end Go.Taq
