/- The mathematics, part D: zones, what is open, what is taken; a step of a walk. -/
import Derived.Test.YtpcdibgbijddlaaMB
import Derived.Test.YtpcdibgbijddlaaMC
set_option linter.unusedVariables false
namespace Go.Taq
open Go

/-- what of a right site is needed most -/
structure RS (s : ApiSite) : Prop where
  fl : RF s.Floor
  asc : ∀ z, z ∈ s.Zones → Asc z.Cells
  zc : ∀ z, z ∈ s.Zones → ∀ c, c ∈ z.Cells → isC s.Floor c = true
  sp : ∀ z, z ∈ s.Zones → 1 ≤ z.Speed ∧ z.Speed ≤ 100

/-- the zone of a cell -/
def zn (s : ApiSite) (c : Int) : Int := fidx (fun z : ApiZone => z.Cells.contains c) s.Zones
def inS (t : Int) (x : ApiSpan) : Bool := decide (x.From ≤ t) && decide (t < x.To)
def spd (s : ApiSite) (c : Int) : Int := if zn s c < 0 then 1 else (s.Zones.getD (zn s c).toNat default).Speed
def opn (s : ApiSite) (c t : Int) : Bool := isC s.Floor c && (decide (zn s c < 0) || !((s.Zones.getD (zn s c).toNat default).Shut.any (inS t)))
theorem zn_lt {s : ApiSite} {c : Int} : -1 ≤ zn s c ∧ zn s c < s.Zones.length := fidx_lt
theorem idx_zn {s : ApiSite} {c : Int} (h : 0 ≤ zn s c) : idx s.Zones (zn s c) = some (s.Zones.getD (zn s c).toNat default) := by
  have := zn_lt (s := s) (c := c)
  rw [idx_get h (by omega), List.getD_eq_getElem?_getD, List.getElem?_eq_getElem (by omega)]; rfl
theorem mem_zn {s : ApiSite} {c : Int} (h : 0 ≤ zn s c) : s.Zones.getD (zn s c).toNat default ∈ s.Zones := by
  have := zn_lt (s := s) (c := c)
  rw [List.getD_eq_getElem?_getD, List.getElem?_eq_getElem (by omega)]; exact List.getElem_mem _
theorem S_rules_ZoneOf {s : ApiSite} (k : OkApiSite s) (h : RS s) {c : Int} {post : Int → Prop} (hp : post (zn s c)) : V_rules_ZoneOf s c post := by
  unfold V_rules_ZoneOf V_slices_IndexFunc_api_Zone_api_Zone__rules_ZoneOf_1
  have hl := k.Zones.1
  simp only [maxLen] at hl
  have step : ∀ (x : ApiZone), x ∈ s.Zones → ∀ {post : Bool → Prop}, post (x.Cells.contains c) → V_rules_ZoneOf_1 x c post := fun x hx post hp => by
    unfold V_rules_ZoneOf_1
    exact S_slices_BinarySearch (k.Zones.2 x hx).Cells.1 (h.asc x hx) (fun _ => hp)
  refine Jn.mk (fun _ => post (-1)) (Loop.find s.Zones (fun z : ApiZone => z.Cells.contains c) (fun i x hi hx hpx => ?_) (fun i x hi hx hpx hf => ?_) (fun hn hf => ?_)) (fun _ h => h)
  · refine Ite.t (by simp; omega) ⟨x, idx_of rfl hx, step x (List.mem_of_getElem? hx) (Ite.f hpx ?_)⟩
    rw [w64_eq (by omega) (by omega)]; omega
  · refine Ite.t (by simp; omega) ⟨x, idx_of rfl hx, step x (List.mem_of_getElem? hx) (Ite.t hpx ?_)⟩
    rw [zn, fidx, hf] at hp; exact hp
  · refine Ite.f (by simp) ?_
    rw [zn, fidx, hf] at hp; exact hp
theorem S_rules_isCell {s : ApiSite} {c : Int} {post : Bool → Prop} (hp : post (isC s.Floor c)) : V_rules_isCell s c post := by
  unfold V_rules_isCell
  refine Jand2 ?_
  have : (decide (c ≥ 0) && decide (c < (s.Floor.Kind.length : Int))) = isC s.Floor c := rfl
  rw [this]; exact hp
theorem S_rules_Speed {s : ApiSite} (k : OkApiSite s) (h : RS s) {c : Int} {post : Int → Prop} (hp : post (spd s c)) : V_rules_Speed s c post := by
  unfold V_rules_Speed
  refine S_rules_ZoneOf k h (Ite.mk (fun h1 => ⟨_, idx_zn (by simpa using h1), ?_⟩) (fun h1 => ?_))
  · simp at h1; rw [spd, if_neg (by omega)] at hp; exact hp
  · simp at h1; rw [spd, if_pos (by omega)] at hp; exact hp
theorem S_spans_rules {xs : List ApiSpan} {t : Int} (hl : xs.length ≤ maxLen) {post : Bool → Prop} (hp : post (xs.any (inS t))) : V_slices_ContainsFunc_api_Span_api_Span__rules_Open_1 xs t post := by
  unfold V_slices_ContainsFunc_api_Span_api_Span__rules_Open_1 V_slices_IndexFunc_api_Span_api_Span__rules_Open_1
  simp only [maxLen] at hl
  rw [← fidx_any] at hp
  have step : ∀ (x : ApiSpan) {post : Bool → Prop}, post (inS t x) → V_rules_Open_1 x t post := fun x post hp => by unfold V_rules_Open_1; exact Jand2 hp
  refine Jn.mk (fun _ => post (decide ((-1 : Int) ≥ 0))) (Loop.find xs (inS t) (fun i x hi hx hpx => ?_) (fun i x hi hx hpx hf => ?_) (fun hn hf => ?_)) (fun _ h => h)
  · refine Ite.t (by simp; omega) ⟨x, idx_of rfl hx, step x (Ite.f hpx ?_)⟩
    rw [w64_eq (by omega) (by omega)]; omega
  · refine Ite.t (by simp; omega) ⟨x, idx_of rfl hx, step x (Ite.t hpx ?_)⟩
    rw [fidx, hf] at hp; exact hp
  · refine Ite.f (by simp) ?_
    rw [fidx, hf] at hp; exact hp
theorem S_rules_Open {s : ApiSite} (k : OkApiSite s) (h : RS s) {c t : Int} {post : Bool → Prop} (hp : post (opn s c t)) : V_rules_Open s c t post := by
  unfold V_rules_Open
  refine S_rules_ZoneOf k h ?_
  refine Jn.eq (!isC s.Floor c || decide (zn s c < 0)) (S_rules_isCell (Ite.mk (fun h1 => by rw [h1]; rfl) (fun h1 => by rw [h1]; rfl))) (Ite.mk (fun h1 => S_rules_isCell ?_) (fun h1 => ?_))
  · have : opn s c t = isC s.Floor c := by
      unfold opn
      cases hc : isC s.Floor c
      · rfl
      · rw [hc] at h1; simp only [Bool.not_true, Bool.false_or] at h1; simp [h1]
    rw [← this]; exact hp
  · simp only [Bool.or_eq_false_iff, Bool.not_eq_false', decide_eq_false_iff_not, Int.not_lt] at h1
    refine ⟨_, idx_zn h1.2, S_spans_rules (k.Zones.2 _ (mem_zn h1.2)).Shut.1 ?_⟩
    have : opn s c t = !((s.Zones.getD (zn s c).toNat default).Shut.any (inS t)) := by
      unfold opn; rw [h1.1, decide_eq_false (Int.not_lt.2 h1.2)]; rfl
    rw [← this]; exact hp

/-! ## what is taken -/
end Go.Taq
