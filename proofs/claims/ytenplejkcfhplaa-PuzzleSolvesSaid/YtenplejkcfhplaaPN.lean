/- The mathematics of the puzzle, part N: the small examples; fair arguments; PuzzleTells. -/
import Derived.Test.YtenplejkcfhplaaPM
set_option linter.unusedVariables false
set_option linter.unusedSimpArgs false
namespace Go.Taq
open Go
def deckF (w h : Nat) : ApiFloor := { W := (w : Int), H := (h : Int), D := 1, Kind := List.replicate (w * h) 1, Out := List.replicate (w * h) 63 }
theorem S_deck {w h : Nat} (hw : w * h ≤ 100) {post : ApiFloor → Prop} (hp : post (deckF w h)) : V_taquinlaw26_deck (w : Int) (h : Int) post := by
  unfold V_taquinlaw26_deck
  have hm : w64 ((w : Int) * (h : Int)) = ((w * h : Nat) : Int) := by rw [← Int.natCast_mul, w64_eq (by omega) (by omega)]
  simp only [hm]
  refine Jn.mk (fun t => t = (List.replicate (w * h) 1, List.replicate (w * h) 63)) (Loop.inv (w * h) (fun i (s : List Int × List Int × Int) => s.2.2 = (i : Int) ∧ s.1 = List.replicate i 1 ∧ s.2.1 = List.replicate i 63) ⟨rfl, rfl, rfl⟩ (fun i s hi hI => ?_) (fun s hI => ?_)) (fun t e => by subst e; exact hp)
  · obtain ⟨a, b, c⟩ := s
    obtain ⟨rfl, rfl, rfl⟩ := hI
    refine Ite.lt (by show (i : Int) < (w * h : Nat); omega) ⟨by simp only [List.length_replicate, List.length_cons, List.length_nil]; omega, by simp only [List.length_replicate, List.length_cons, List.length_nil]; omega, w64_1 (by omega), ?_, ?_⟩
    · show List.replicate i (1 : Int) ++ [1] = _
      rw [List.replicate_succ']
    · show List.replicate i (63 : Int) ++ [63] = _
      rw [List.replicate_succ']
  · obtain ⟨a, b, c⟩ := s
    obtain ⟨rfl, rfl, rfl⟩ := hI
    exact Ite.nlt (by show ¬ ((w * h : Nat) : Int) < (w * h : Nat); omega) rfl
theorem RF_deck {w h : Nat} (h1 : 1 ≤ w) (h2 : 1 ≤ h) (h3 : w ≤ 100) (h4 : h ≤ 100) (hw : w * h ≤ 100) : RF (deckF w h) := by
  refine ⟨by show (1 : Int) ≤ w; omega, by show (1 : Int) ≤ h; omega, by show (1 : Int) ≤ 1; omega, by show (1 : Int) ≤ 4; omega, by show (w : Int) ≤ 4096; omega, by show (h : Int) ≤ 4096; omega, ?_, ?_, ?_, fun i x y hx hy => ?_⟩
  · show (w : Int) * h * 1 ≤ 4096
    rw [← Int.natCast_mul]; omega
  · show ((List.replicate (w * h) (1 : Int)).length : Int) = (w : Int) * h * 1
    rw [← Int.natCast_mul]; simp
  · show ((List.replicate (w * h) (63 : Int)).length : Int) = (w : Int) * h * 1
    rw [← Int.natCast_mul]; simp
  · have e1 : x = 1 := List.eq_of_mem_replicate (List.mem_of_getElem? hx)
    have e2 : y = 63 := List.eq_of_mem_replicate (List.mem_of_getElem? hy)
    subst e1; subst e2; omega
theorem S_SameShifts {a : List ApiShift} (ha : a.length ≤ 1000000) {post : Bool → Prop} (hp : post true) : V_taquinref25_SameShifts a a post := by
  unfold V_taquinref25_SameShifts
  refine Ite.f (by simp) (Jn.mk (fun _ => True) (Loop.inv a.length (fun i (s : Int) => s = (i : Int)) rfl (fun i s hi hI => ?_) (fun s hI => ?_)) (fun _ _ => hp))
  · subst hI
    have hx : a[i]? = some (a[i]'hi) := List.getElem?_eq_getElem hi
    exact Ite.lt (by omega) ⟨_, idx_of rfl hx, _, idx_of rfl hx, Ite.f (by simp) (w64_1 (by omega))⟩
  · subst hI; exact Ite.nlt (by omega) trivial
def r6 : List Int := [0, 1, 2, 3, 4, 5]
def lay6 (a b c d e g : Bool) (t : Int) : ApiLayout := { Full := [a, b, c, d, e, g], Target := t }
theorem Asc6 : Asc r6 := by
  intro i j x y hij hx hy
  have hj : j < 6 := (List.getElem?_eq_some_iff.1 hy).1
  have key : ∀ j, j < 6 → ∀ i, i < j → r6.getD i 0 < r6.getD j 0 := by decide +kernel
  have e1 : r6.getD i 0 = x := by rw [List.getD_eq_getElem?_getD, hx]; rfl
  have e2 : r6.getD j 0 = y := by rw [List.getD_eq_getElem?_getD, hy]; rfl
  rw [← e1, ← e2]; exact key j hj i hij
theorem path6 {t : List Int} (hD : Dst (deckF 3 2) r6 6 5 2 t) : 0 ≤ dT 6 5 t (lay6 true true true true true false 0) := by
  have ok : ∀ {a b c d e g : Bool} {x : Int}, (lay6 a b c d e g x).Full.count true = 5 → 0 ≤ x → (lay6 a b c d e g x).Full[x.toNat]? = some true → LOk 6 5 (lay6 a b c d e g x) := fun h1 h2 h3 => ⟨rfl, h1, h2, h3⟩
  have o0 := ok (a := true) (b := true) (c := true) (d := true) (e := true) (g := false) (x := 0) (by decide) (by decide) (by decide)
  have o1 := ok (a := true) (b := true) (c := true) (d := true) (e := false) (g := true) (x := 0) (by decide) (by decide) (by decide)
  have o2 := ok (a := true) (b := false) (c := true) (d := true) (e := true) (g := true) (x := 0) (by decide) (by decide) (by decide)
  have o3 := ok (a := false) (b := true) (c := true) (d := true) (e := true) (g := true) (x := 1) (by decide) (by decide) (by decide)
  have o4 := ok (a := true) (b := true) (c := true) (d := false) (e := true) (g := true) (x := 1) (by decide) (by decide) (by decide)
  have o5 := ok (a := true) (b := true) (c := true) (d := true) (e := false) (g := true) (x := 1) (by decide) (by decide) (by decide)
  have o6 := ok (a := true) (b := true) (c := true) (d := true) (e := true) (g := false) (x := 1) (by decide) (by decide) (by decide)
  have o7 := ok (a := true) (b := true) (c := false) (d := true) (e := true) (g := true) (x := 1) (by decide) (by decide) (by decide)
  have o8 := ok (a := true) (b := false) (c := true) (d := true) (e := true) (g := true) (x := 2) (by decide) (by decide) (by decide)
  have z := (hD.zero o8).2 rfl
  have s8 := hD.near o7 (s := { From := 1, To := 2 }) (by decide +kernel) (by show 0 ≤ dT 6 5 t (lay6 true false true true true true 2); rw [z]; decide)
  have s7 := hD.near o6 (s := { From := 2, To := 5 }) (by decide +kernel) s8.1
  have s6 := hD.near o5 (s := { From := 5, To := 4 }) (by decide +kernel) s7.1
  have s5 := hD.near o4 (s := { From := 4, To := 3 }) (by decide +kernel) s6.1
  have s4 := hD.near o3 (s := { From := 3, To := 0 }) (by decide +kernel) s5.1
  have s3 := hD.near o2 (s := { From := 0, To := 1 }) (by decide +kernel) s4.1
  have s2 := hD.near o1 (s := { From := 1, To := 4 }) (by decide +kernel) s3.1
  have s1 := hD.near o0 (s := { From := 4, To := 5 }) (by decide +kernel) s2.1
  exact s1.1
theorem S_small {post : Bool → Prop} (hp : post true) : V_taquinlaw26_small post := by
  unfold V_taquinlaw26_small
  have h32 : RF (deckF 3 2) := RF_deck (by omega) (by omega) (by omega) (by omega) (by omega)
  have h21 : RF (deckF 2 1) := RF_deck (by omega) (by omega) (by omega) (by omega) (by omega)
  have ok : ∀ x : Int, 0 ≤ x → x < 5 → LOk 6 5 (lay6 true true true true true false x) := fun x h1 h2 => ⟨rfl, by show List.count true [true, true, true, true, true, false] = 5; decide, h1, by
    have : x = 0 ∨ x = 1 ∨ x = 2 ∨ x = 3 ∨ x = 4 := by omega
    rcases this with e | e | e | e | e <;> subst e <;> rfl⟩
  have b4 : btw (deckF 3 2) r6 (lay6 true true true true true false 4) true = [{ From := 2, To := 5 }, { From := 4, To := 5 }] := by decide +kernel
  have b0 : btw (deckF 3 2) r6 (lay6 true true true true true false 0) true = [{ From := 2, To := 5 }, { From := 4, To := 5 }] := by decide +kernel
  refine S_deck (w := 3) (h := 2) (by omega) ?_
  refine S_Least (n := 6) (k := 5) (l := lay6 true true true true true false 2) (ok 2 (by omega) (by omega)) rfl (by omega) h32 Asc6 (fun h => by omega) (fun h h' => by omega)
    (fun _ _ t hD e => by rw [(hD.zero (ok 2 (by omega) (by omega))).2 rfl] at e; omega) (fun _ _ t hD d e => ?_)
  rw [(hD.zero (ok 2 (by omega) (by omega))).2 rfl] at e
  obtain rfl : d = 0 := by omega
  refine S_deck (w := 2) (h := 1) (by omega) ?_
  have okt : LOk 2 2 ({ Full := [true, true], Target := 0 } : ApiLayout) := ⟨rfl, rfl, by decide, rfl⟩
  have a2 : Asc ([0, 1] : List Int) := by
    intro i j x y hij hx hy
    have hj : j < 2 := (List.getElem?_eq_some_iff.1 hy).1
    obtain ⟨rfl, rfl⟩ : i = 0 ∧ j = 1 := by omega
    simp at hx hy; omega
  have bt : btw (deckF 2 1) [0, 1] ({ Full := [true, true], Target := 0 } : ApiLayout) true = [] := by decide +kernel
  refine S_Least (n := 2) (k := 2) okt rfl (by omega) h21 a2 (fun h => by omega) (fun h h' => by omega) (fun _ _ t2 hD2 e2 => ?_) (fun _ _ t2 hD2 d2 e2 => ?_)
  rotate_left
  · exfalso
    cases d2 with
    | zero => have := (hD2.zero okt).1 (by simpa using e2); simp at this
    | succ d2 => obtain ⟨s, hs, _⟩ := hD2.nearer okt e2; rw [bt] at hs; simp at hs
  have ok4 := ok 4 (by omega) (by omega)
  have m45 : ({ From := 4, To := 5 } : ApiShift) ∈ btw (deckF 3 2) r6 (lay6 true true true true true false 4) true := by rw [b4]; simp
  have t4 : ∀ {t : List Int}, Dst (deckF 3 2) r6 6 5 5 t → dT 6 5 t (doS (lay6 true true true true true false 4) { From := 4, To := 5 }) = 0 := fun hD => (hD.zero (ok4.doS m45)).2 rfl
  have d4 : ∀ {t : List Int}, Dst (deckF 3 2) r6 6 5 5 t → dT 6 5 t (lay6 true true true true true false 4) = 1 := fun {t} hD => by
    have h1 := hD.near ok4 m45 (by rw [t4 hD]; omega)
    rw [t4 hD] at h1
    have h2 : dT 6 5 t (lay6 true true true true true false 4) ≠ 0 := fun e => by
      have : (4 : Int) = 5 := (hD.zero ok4).1 e
      omega
    omega
  refine S_Least (n := 6) (k := 5) (l := lay6 true true true true true false 4) ok4 rfl (by omega) h32 Asc6 (fun h => by omega) (fun h h' => by omega) (fun _ _ t3 hD3 e3 => by rw [d4 hD3] at e3; omega) (fun _ _ t3 hD3 d3 e3 => ?_)
  rw [d4 hD3] at e3
  obtain rfl : d3 = 1 := by omega
  refine S_Solve (n := 6) (k := 5) (l := lay6 true true true true true false 4) ok4 rfl (by omega) h32 Asc6 (fun h => by omega) (fun h h' => by omega) (fun _ _ t3 hD3 e3 => by rw [d4 hD3] at e3; omega) (fun _ _ t5 hD5 d5 e5 => ?_)
  rw [d4 hD5] at e5
  obtain rfl : d5 = 1 := by omega
  have hsl : slv (deckF 3 2) r6 6 5 t5 1 (lay6 true true true true true false 4) = [{ From := 4, To := 5 }] := by
    have m25 : ({ From := 2, To := 5 } : ApiShift) ∈ btw (deckF 3 2) r6 (lay6 true true true true true false 4) true := by rw [b4]; simp
    have n25 : ¬ dT 6 5 t5 (doS (lay6 true true true true true false 4) { From := 2, To := 5 }) = ((0 : Nat) : Int) := fun e => by
      have : (4 : Int) = 5 := (hD5.zero (ok4.doS m25)).1 e
      omega
    have y45 : dT 6 5 t5 (doS (lay6 true true true true true false 4) { From := 4, To := 5 }) = ((0 : Nat) : Int) := t4 hD5
    unfold slv
    rw [b4, List.find?_cons_of_neg (by simpa using n25), List.find?_cons_of_pos (by simpa using y45)]
    rfl
  rw [hsl]
  have ok0 := ok 0 (by omega) (by omega)
  refine S_Least (n := 6) (k := 5) (l := lay6 true true true true true false 0) ok0 rfl (by omega) h32 Asc6 (fun h => by omega) (fun h h' => by omega) (fun _ _ t6 hD6 e6 => by have := path6 hD6; omega) (fun _ _ t6 hD6 d6 e6 => ?_)
  have hd6 : 1 < d6 := by
    rcases Nat.lt_or_ge 1 d6 with h | h
    · exact h
    · exfalso
      have : d6 = 0 ∨ d6 = 1 := by omega
      rcases this with e | e
      · subst e
        have : (0 : Int) = 2 := (hD6.zero ok0).1 (by simpa using e6)
        omega
      · subst e
        obtain ⟨s, hs, h0⟩ := hD6.nearer (d := 0) ok0 (by simpa using e6)
        have := (hD6.zero (ok0.doS hs)).1 (by simpa using h0)
        rw [b0] at hs
        simp only [List.mem_cons, List.not_mem_nil, or_false] at hs
        rcases hs with e | e <;> subst e <;> exact absurd this (by decide)
  refine Jn.mk (fun b => b = true) (Ite.t (by simp) (Ite.t (by simp) (Ite.t (by simp) (Ite.t (by simp) (Ite.t (by simp) (S_SameShifts (by simp) (Ite.t rfl (Ite.t (by simp) (Ite.t (by simp; omega) (by simp))))))))) ) (fun b e => by subst e; exact hp)
/-- fair arguments -/
theorem S_fair {f : ApiFloor} {r : List Int} {l : ApiLayout} {post : Bool → Prop} (hF : post false) (hT : RF f → r.length ≤ 14 → Asc r → LOk r.length (l.Full.count true) l → post true) : V_taquinlaw26_fair f r l post := by
  unfold V_taquinlaw26_fair
  refine Jn.mk' (S_ref07_Few (Ite.f rfl hF) (fun h1 h2 => Ite.t rfl (S_ref07_Right (Ite.f rfl hF) (fun hf => Ite.t rfl (Ite.mk (fun h3 => ?_) (fun _ => hF))))))
  have h3' : (r.length : Int) ≤ 14 := of_decide_eq_true h3
  refine S_r08_Right (by omega) (Ite.f rfl hF) (fun ha => Ite.t rfl (S_rLRight (Ite.f rfl hF) (fun hl hok => Ite.t rfl ?_)))
  cases hb : ((l.Full.length : Int) == (r.length : Int)) with
  | false => exact hF
  | true =>
    have : (l.Full.length : Int) = (r.length : Int) := by simpa using hb
    have : l.Full.length = r.length := by omega
    rw [this] at hok
    exact hT hf (by omega) ha hok
section
variable {f : ApiFloor} {r : List Int} {n k : Nat} {goal : Int} {l : ApiLayout}
theorem Dst.eq {t u : List Int} (h1 : Dst f r n k goal t) (h2 : Dst f r n k goal u) : t = u := h1.ok.eq h2.ok
variable (hl : LOk n k l) (hr : r.length = n) (hn : n ≤ 24) (hf : RF f) (ha : Asc r)
include hl hr hn hf ha
end
end Go.Taq
