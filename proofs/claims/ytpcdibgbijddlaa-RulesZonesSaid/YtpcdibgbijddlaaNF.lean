/- The mathematics, part NF: the rules' statements: examples, RulesApart. -/
import Derived.Test.YtpcdibgbijddlaaNE
set_option linter.unusedVariables false
set_option linter.unusedSimpArgs false
namespace Go.Taq
open Go

theorem e12n : nev e12S (clsS e12S 1) (clsS e12S 0) = true := by rw [e12nev]; decide
theorem e12drop : dropS e12S e12T 1 1 = 17 := by
  unfold dropS
  rw [if_neg (by decide), if_neg (by decide), if_neg (by decide), if_pos]
  refine any_range_mem (i := 0) (by decide) ?_
  unfold dAp
  rw [show clsS e12S ((0 : Nat) : Int) = clsS e12S 0 from rfl, e12n]
  decide
theorem e12ap : (apartS e12S e12T).2.2 = false := by
  have h : ∀ a, partner e12S e12T a = -1 := fun a => fnat_none fun b hb => by
    unfold badP
    have hb' : b = 0 ∨ b = 1 := by have : b < 2 := hb; omega
    rcases hb' with rfl | rfl
    · simp
    · by_cases h0 : a < 1
      · obtain rfl : a = 0 := by omega
        have : nearB e12S.Floor (e12T.Shelves.getD 0 0) (e12T.Shelves.getD 1 0) = false := by decide
        rw [this]; simp
      · simp [h0]
  unfold apartS
  rw [fnat_none (fun i _ => by simp [h i])]
  rfl
theorem S_law12_small {post : Bool → Prop} (hp : post true) : V_taquinlaw12_small post := by
  unfold V_taquinlaw12_small V_taquinlaw12_sample
  refine S_rules_Apart (s := e12S) (st := e12T) e12Ok e12OkT e12RF (by decide) (fun c hc => ?_) (Jn.mk' (S_rules_Speed (s := e12S) e12Ok e12RS (Ite.t (by decide) (S_rules_Speed (s := e12S) e12Ok e12RS (Ite.t (by decide) (S_rules_Open (s := e12S) e12Ok e12RS (Ite.f (by decide) (S_rules_Open (s := e12S) e12Ok e12RS (Ite.t (by decide)
    (S_rules_Room (s := e12S) (st := e12T) e12Ok e12OkT (by decide) (fun z hz => ?_) (Ite.t (by decide) (S_rules_Drop (s := e12S) (st := e12T) e12Ok e12OkT e12RF (by decide) (Ite.t (by rw [e12drop]; decide) ?_)))))))))))))
  · have : c = 0 ∨ c = 2 := by simpa [e12T] using hc
    rcases this with rfl | rfl <;> decide
  · simp only [e12S, List.mem_singleton] at hz; subst hz; decide
  · show post (!(apartS e12S e12T).2.2)
    rw [e12ap]; exact hp

end Go.Taq
