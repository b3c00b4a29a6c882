/- The mathematics, part S: right sites, whole. -/
import Derived.Test.YtpcdibgbijddlaaMR
import Derived.Test.YtpcdibgbijddlaaMD
set_option linter.unusedVariables false
namespace Go.Taq
open Go

/-- a zone is right, after some others -/
structure RZone (s : ApiSite) (before : List ApiZone) (z : ApiZone) : Prop where
  named : 1 ≤ z.Name.size ∧ z.Name.size ≤ 20
  name : ∀ y, y ∈ before → seq y.Name z.Name = false
  ne : z.Cells ≠ []
  sp : 1 ≤ z.Speed ∧ z.Speed ≤ 100
  keep : 0 ≤ z.Keep
  spans : spansFrom 0 z.Shut
  cell : ∀ c, c ∈ z.Cells → isC s.Floor c = true ∧ zonedK (kd s.Floor c) = true ∧ zAt before c = false
  asc : ∀ (i : Nat) x y, z.Cells[i]? = some x → z.Cells[i + 1]? = some y → x < y
theorem asc_of {l : List Int} (h : ∀ (i : Nat) x y, l[i]? = some x → l[i + 1]? = some y → x < y) : Asc l := by
  have key : ∀ (d i : Nat) x y, l[i]? = some x → l[i + d + 1]? = some y → x < y := by
    intro d
    induction d with
    | zero => intro i x y hx hy; exact h i x y hx hy
    | succ d ih =>
      intro i x y hx hy
      have hlt := (List.getElem?_eq_some_iff.1 hy).1
      have hz : l[i + d + 1]? = some (l[i + d + 1]'(by omega)) := List.getElem?_eq_getElem _
      exact Int.lt_trans (ih i x _ hx hz) (h (i + d + 1) _ y hz (by rw [← hy]; congr 1))
  intro i j x y hij hx hy
  exact key (j - i - 1) i x y hx (by rw [← hy]; congr 1; omega)
theorem RZone.ascL {s : ApiSite} {b : List ApiZone} {z : ApiZone} (h : RZone s b z) : Asc z.Cells := asc_of h.asc
/-- a shelf is near an earlier one from whose class its class is apart -/
def badSh (s : ApiSite) (i : Nat) (d : Int) : Prop := ∃ x y, s.Shelves[i]? = some x ∧ 0 ≤ nbr s.Floor x.Cell d ∧ 0 ≤ shAt s.Shelves (nbr s.Floor x.Cell d) ∧ shAt s.Shelves (nbr s.Floor x.Cell d) < i ∧ idx s.Shelves (shAt s.Shelves (nbr s.Floor x.Cell d)) = some y ∧ apB s.Aparts x.Class y.Class = true
/-- a right site -/
structure RSite (s : ApiSite) : Prop where
  fl : RF s.Floor
  z64 : s.Zones.length ≤ 64
  zone : ∀ (i : Nat) z, s.Zones[i]? = some z → RZone s (s.Zones.take i) z
  sh3 : s.Shelves.length ≤ 3000
  r2 : s.Robots.length ≤ 200
  ap : ∀ (i : Nat) x, s.Aparts[i]? = some x → 1 ≤ x.A.size ∧ 1 ≤ x.B.size ∧ apB (s.Aparts.take i) x.A x.B = false
  sh : ∀ (i : Nat) x, s.Shelves[i]? = some x → isC s.Floor x.Cell = true ∧ standK (kd s.Floor x.Cell) = true ∧ shAt (s.Shelves.take i) x.Cell < 0
  rb : ∀ (i : Nat) x, s.Robots[i]? = some x → isC s.Floor x.Cell = true ∧ 0 ≤ x.Charge ∧ x.Charge ≤ 1000000 ∧ kd s.Floor x.Cell ≠ 0 ∧ rbAt (s.Robots.take i) x.Cell = false
  room : ∀ z, z ∈ s.Zones → z.Keep ≤ (z.Cells.countP (blankB s) : Nat)
  apart : ∀ (i : Nat) (d : Int), 0 ≤ d → d < 4 → ¬ badSh s i d
  charger : s.Floor.Kind.contains 3 = true
theorem RSite.zm {s : ApiSite} (h : RSite s) {z : ApiZone} (hz : z ∈ s.Zones) : ∃ i : Nat, RZone s (s.Zones.take i) z := by
  obtain ⟨i, hi⟩ := List.getElem?_of_mem hz
  exact ⟨i, h.zone i z hi⟩
theorem RSite.rs {s : ApiSite} (h : RSite s) : RS s where
  fl := h.fl
  asc z hz := (h.zm hz).elim fun _ q => q.ascL
  zc z hz c hc := (h.zm hz).elim fun _ q => (q.cell c hc).1
  sp z hz := (h.zm hz).elim fun _ q => q.sp

theorem S_ref07_Few {f : ApiFloor} {n : Int} {post : Bool → Prop} (hF : post false) (hT : f.Kind.length ≤ n → f.Out.length ≤ n → post true) : V_taquinref07_Few f n post := by
  unfold V_taquinref07_Few
  refine Jn.mk' (Ite.mk (fun h1 => ?_) (fun h1 => hF))
  simp at h1
  cases hb : decide ((f.Out.length : Int) ≤ n)
  · exact hF
  · exact hT h1 (by simpa using hb)
/-- few -/
structure FewS (s : ApiSite) (cells most : Int) : Prop where
  kind : s.Floor.Kind.length ≤ cells
  zones : s.Zones.length ≤ most
  aparts : s.Aparts.length ≤ most
  shelves : s.Shelves.length ≤ most
  robots : s.Robots.length ≤ most
  zone : ∀ z, z ∈ s.Zones → z.Cells.length ≤ cells ∧ z.Shut.length ≤ 20
theorem S_ref11_Few {s : ApiSite} (k : OkApiSite s) {cells most : Int} (hm : 0 ≤ most ∧ most ≤ 1000000) {post : Bool → Prop} (hF : post false) (hT : FewS s cells most → post true) : V_taquinref11_Few s cells most post := by
  unfold V_taquinref11_Few
  refine V_few s.Zones k.Zones.1 (T := fun s3 q => Jn (fun (J10 : Bool → Prop) => ∃ x11, idx s.Zones s3 = some x11 ∧ Ite (decide ((x11.Cells.length : Int) > cells)) (J10 true) (Ite (decide ((x11.Shut.length : Int) > 20)) (J10 true) (J10 (decide ((x11.Name.size : Int) > 40))))) q) (fun z => z.Cells.length ≤ cells ∧ z.Shut.length ≤ 20) (fun i x hx q q1 q2 => Jn.ex x hx (Jor3 ?_)) hF (fun hz => ?_)
  · cases hb : (decide ((x.Cells.length : Int) > cells) || decide ((x.Shut.length : Int) > 20) || decide ((x.Name.size : Int) > 40))
    · simp only [Bool.or_eq_false_iff, decide_eq_false_iff_not] at hb
      exact q2 ⟨by omega, by omega⟩
    · exact q1
  refine V_few s.Aparts k.Aparts.1 (T := fun s3 q => Jn (fun (J10 : Bool → Prop) => ∃ x11, idx s.Aparts s3 = some x11 ∧ Ite (decide ((x11.A.size : Int) > 40)) (J10 true) (J10 (decide ((x11.B.size : Int) > 40)))) q) (fun z => True) (fun i x hx q q1 q2 => Jn.ex x hx (Jor2 ?_)) hF (fun _ => ?_)
  · cases hb : (decide ((x.A.size : Int) > 40) || decide ((x.B.size : Int) > 40))
    · exact q2 trivial
    · exact q1
  refine V_few s.Shelves k.Shelves.1 (T := fun s3 q => ∃ x11, idx s.Shelves s3 = some x11 ∧ q (decide ((x11.Class.size : Int) > 40))) (fun z => True) (fun i x hx q q1 q2 => ⟨x, hx, ?_⟩) hF (fun _ => ?_)
  · cases hb : (decide ((x.Class.size : Int) > 40))
    · exact q2 trivial
    · exact q1
  refine Jn.mk' (S_ref07_Few (Ite.f rfl hF) (fun f1 f2 => Ite.t rfl (Ite.mk (fun h1 => Ite.mk (fun h2 => Ite.mk (fun h3 => ?_) (fun _ => hF)) (fun _ => hF)) (fun _ => hF))))
  simp at h1 h2 h3
  cases hb : decide ((s.Robots.length : Int) ≤ most)
  · exact hF
  · exact hT ⟨f1, h1, h2, h3, by simpa using hb, hz h1⟩
end Go.Taq
