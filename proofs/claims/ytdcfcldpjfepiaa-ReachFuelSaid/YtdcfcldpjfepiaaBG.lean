/- The mathematics, several parts in one text. -/
import Derived.Test.YtdcfcldpjfepiaaBC
/- The mathematics, part BD: all home, Safe, Check. -/
set_option linter.unusedVariables false
set_option linter.unusedSimpArgs false
namespace Go.Taq
open Go

theorem nodup_len : ∀ (n : Nat) (o : List Int), o.Nodup → (∀ x, x ∈ o → 0 ≤ x ∧ x < n) → o.length ≤ n
  | 0, o, _, h => by
    cases o with
    | nil => simp
    | cons x r => have := h x (by simp); omega
  | n + 1, o, hn, h => by
    by_cases hm : (n : Int) ∈ o
    · have h1 := nodup_len n (o.erase n) (hn.erase _) (fun x hx => by
        have h2 := (hn.mem_erase_iff).1 hx
        have := h x h2.2
        have := h2.1
        omega)
      rw [List.length_erase_of_mem hm] at h1
      omega
    · have := nodup_len n o hn (fun x hx => by
        have := h x hx
        have : x ≠ n := fun e => hm (e ▸ hx)
        omega)
      omega
section

end
end Go.Taq

/- The mathematics, part BE: Way; BankGrows but for the examples. -/
set_option linter.unusedVariables false
set_option linter.unusedSimpArgs false
namespace Go.Taq
open Go

section

end
end Go.Taq

/- The mathematics, part BF: Check; the examples of chapter 21; BankGrows. -/
set_option linter.unusedVariables false
set_option linter.unusedSimpArgs false
namespace Go.Taq
open Go

section

end
end Go.Taq

/- The mathematics, part BG: BankFinds. -/
set_option linter.unusedVariables false
set_option linter.unusedSimpArgs false
namespace Go.Taq
open Go

section

end
end Go.Taq
