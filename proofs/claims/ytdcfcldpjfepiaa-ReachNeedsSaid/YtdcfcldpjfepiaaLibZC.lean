/- The library of the generated walks, part ZC: slices.Sort at numbers, strings.IndexByte, by the kit's contracts. -/
import Derived.Test.YtdcfcldpjfepiaaLibZA
import Derived.Shelf.Sort.Plain
import Derived.Shelf.Slices.In.SortNone
import Derived.Shelf.Small.Strs
set_option linter.unusedVariables false
set_option linter.unusedSimpArgs false
namespace Go.Taq
open Go Go.Shelf Go.RowKit Go.Lib Go.Sort Go.Proofs
section
variable {P : Program} {ρ : Ren}
theorem Tr.indexByte (L : Lays.n137 P ρ) (s : ByteArray) (c : Int) {post : Int → Prop} (hpost : post (idxByte s c)) :
    Tr P (ρ.f 137) [.v (.string s), .v (.int .u8 c)] [] 0 (fun A H' k' => ∃ y, post y ∧ A = (.i y) ∧ H' = [] ∧ k' = 0) := by
  intro w ok F β vs hβ hok hF hH hd
  have hvs : vs = #[.string s, .int .u8 c] := by
    have h0 := (hd.2 0 _ rfl).v_inv
    have h1 := (hd.2 1 _ rfl).v_inv
    have hs := hd.1
    apply Array.ext
    · simpa using hs.symm
    · intro i hi1 hi2
      have hi : i = 0 ∨ i = 1 := by simp at hi2; omega
      rcases hi with rfl | rfl
      · simp [Array.getD_eq_getD_getElem?, Array.getElem?_eq_getElem hi1] at h0
        simp [h0]
      · simp [Array.getD_eq_getD_getElem?, Array.getElem?_eq_getElem hi1] at h1
        simp [h1]
  subst hvs
  refine (Any.strings_IndexByte L s c w).mono fun e w' ⟨he, hw⟩ => ?_
  subst hw
  exact ⟨_, .i (idxByte s c), [], β, F, ok, he, ⟨_, hpost, rfl, rfl, hβ⟩, fun _ _ h => h, fun l x b hl hx _ => (by rw [List.getElem?_eq_none (by omega)] at hx; cases hx), .refl _ _, fun _ h => h, fun b hb => ⟨.inl hb, (hok b hb).1⟩, fun b hb => ⟨.inl hb, hF b hb, fun ho => (hok b ho).2 hb⟩, trivial, .ro (.v _)⟩
end
end Go.Taq
