/- The mathematics, part NG: being near is symmetric; zones are apart; what changes where a shelf is put. -/
import Derived.Test.YtpcdibgbijddlaaNF
set_option linter.unusedVariables false
set_option linter.unusedSimpArgs false
namespace Go.Taq
open Go

/-- the zone of a cell is the only one that has it -/
theorem zn_iff {s : ApiSite} (hr : RSite s) {i : Nat} {z : ApiZone} (hz : s.Zones[i]? = some z) {c : Int} : z.Cells.contains c = true ↔ zn s c = i := by
  have hi := (List.getElem?_eq_some_iff.1 hz).1
  constructor
  · intro h
    rcases fidx_cases (fun z : ApiZone => z.Cells.contains c) s.Zones with ⟨j, y, hy, e, hp, hb⟩ | ⟨e, hb⟩
    · have h1 : ¬ i < j := fun hlt => by have := hb i z hlt hz; rw [h] at this; cases this
      have h2 : ¬ j < i := fun hlt => by
        have := ((hr.zone i z hz).cell c (by simpa using h)).2.2
        unfold zAt at this
        rw [List.any_eq_false] at this
        exact this y (List.mem_of_getElem? (i := j) (by rw [List.getElem?_take, if_pos hlt]; exact hy)) hp
      unfold zn; rw [e]; omega
    · have := hb z (List.mem_of_getElem? hz); rw [h] at this; cases this
  · intro h
    rcases fidx_cases (fun z : ApiZone => z.Cells.contains c) s.Zones with ⟨j, y, hy, e, hp, hb⟩ | ⟨e, hb⟩
    · unfold zn at h; rw [e] at h
      have : j = i := by omega
      subst this; rw [hz] at hy; cases hy; exact hp
    · unfold zn at h; rw [e] at h; omega

section

end
end Go.Taq
