/- The encodings of the data, and the types' table (written by a program of the prover). -/
import Derived.Test.YtlaehjhkcanffaaLibZQ
import Derived.Test.YtlaehjhkcanffaaLibZX
import Derived.Test.YtlaehjhkcanffaaVc
import Derived.Test.YtlaehjhkcanffaaChecked
import Derived.Test.YtlaehjhkcanffaaLibZC
import Derived.Test.YtlaehjhkcanffaaLibZR
import Derived.Test.YtlaehjhkcanffaaLibZS
import Derived.RangeFuncLeaves
import Derived.WalkKit
import Derived.OwnWalkIn
import Derived.TacticsInMore
import Derived.LoopNIn
import Derived.LoopIn
import Derived.KernelRfl
set_option maxRecDepth 100000
set_option maxHeartbeats 8000000
set_option linter.unusedVariables false
set_option linter.unusedSimpArgs false
namespace Go.Proofs.Ytlaehjhkcanffaa
open Go Go.Taq
@[reducible] def eI (x : Int) : List AVal := [.i x]
@[reducible] def eLeI (x : List Int) : List AVal := [.sl 1 eI x]
def kI (x : Int) : Value := .int .i64 x
def veI (x : Int) : AVal := .i x
@[reducible] def eB (x : Bool) : List AVal := [.b x]
def veB (x : Bool) : AVal := .b x
@[reducible] def eOeI (x : List Int) : List AVal := [.os 1 eI x]
@[reducible] def eLeLeI (x : List (List Int)) : List AVal := [.sl 1 eLeI x]
def te3 : TE := ⟨.int .i64, 1, 8, [.int .i64 0]⟩
theorem teok3 : TEok Try.prog 3 te3 := ⟨⟨_, Try.underlying3, rfl⟩, Try.t3, _, (by kernel_rfl : Try.prog.info? 3 = some Try.t3), rfl, rfl, rfl, rfl, (fun h => by cases h), rfl, by decide⟩
def te4 : TE := ⟨.bool, 1, 1, [.bool false]⟩
theorem teok4 : TEok Try.prog 4 te4 := ⟨⟨_, Try.underlying4, rfl⟩, Try.t4, _, (by kernel_rfl : Try.prog.info? 4 = some Try.t4), rfl, rfl, rfl, rfl, (fun h => by cases h), rfl, by decide⟩
def te22 : TE := ⟨.sl 23, 1, 24, [.slice none 0 0]⟩
theorem teok22 : TEok Try.prog 22 te22 := ⟨⟨_, Try.underlying22, rfl⟩, Try.t22, _, (by kernel_rfl : Try.prog.info? 22 = some Try.t22), rfl, rfl, rfl, rfl, (fun h => by cases h), rfl, by decide⟩
def te23 : TE := ⟨.sl 3, 1, 24, [.slice none 0 0]⟩
theorem teok23 : TEok Try.prog 23 te23 := ⟨⟨_, Try.underlying23, rfl⟩, Try.t23, _, (by kernel_rfl : Try.prog.info? 23 = some Try.t23), rfl, rfl, rfl, rfl, (fun h => by cases h), rfl, by decide⟩
def te29 : TE := ⟨.sl 4, 1, 24, [.slice none 0 0]⟩
theorem teok29 : TEok Try.prog 29 te29 := ⟨⟨_, Try.underlying29, rfl⟩, Try.t29, _, (by kernel_rfl : Try.prog.info? 29 = some Try.t29), rfl, rfl, rfl, rfl, (fun h => by cases h), rfl, by decide⟩
def te56 : TE := ⟨.fn, 1, 8, [.nilFunc]⟩
theorem teok56 : TEok Try.prog 56 te56 := ⟨⟨_, Try.underlying56, ⟨_, _, _, rfl⟩⟩, Try.t56, _, (by kernel_rfl : Try.prog.info? 56 = some Try.t56), rfl, rfl, rfl, rfl, (fun h => by cases h), rfl, by decide⟩
def te59 : TE := ⟨.fn, 1, 8, [.nilFunc]⟩
theorem teok59 : TEok Try.prog 59 te59 := ⟨⟨_, Try.underlying59, ⟨_, _, _, rfl⟩⟩, Try.t59, _, (by kernel_rfl : Try.prog.info? 59 = some Try.t59), rfl, rfl, rfl, rfl, (fun h => by cases h), rfl, by decide⟩
def te85 : TE := ⟨.pt 88, 1, 8, [.pointer none]⟩
theorem teok85 : TEok Try.prog 85 te85 := ⟨⟨_, Try.underlying85, rfl⟩, Try.t85, _, (by kernel_rfl : Try.prog.info? 85 = some Try.t85), rfl, rfl, rfl, rfl, (fun h => by cases h), rfl, by decide⟩
def te86 : TE := ⟨.mp 3 3, 1, 8, [.map none]⟩
theorem teok86 : TEok Try.prog 86 te86 := ⟨⟨_, Try.underlying86, rfl⟩, Try.t86, _, (by kernel_rfl : Try.prog.info? 86 = some Try.t86), rfl, rfl, rfl, rfl, (fun h => by cases h), rfl, by decide⟩
def te88 : TE := ⟨.st [(0, 22), (1, 86)], 2, 32, [.slice none 0 0, .map none]⟩
theorem teok88 : TEok Try.prog 88 te88 := ⟨⟨_, Try.underlying88, ⟨_, rfl, rfl⟩⟩, Try.t88, _, (by kernel_rfl : Try.prog.info? 88 = some Try.t88), rfl, rfl, rfl, rfl, (fun _ => ⟨_, rfl⟩), rfl, by decide⟩
def te115 : TE := ⟨.mp 3 4, 1, 8, [.map none]⟩
theorem teok115 : TEok Try.prog 115 te115 := ⟨⟨_, Try.underlying115, rfl⟩, Try.t115, _, (by kernel_rfl : Try.prog.info? 115 = some Try.t115), rfl, rfl, rfl, rfl, (fun h => by cases h), rfl, by decide⟩
def tab : Tab := [(3, te3), (4, te4), (22, te22), (23, te23), (29, te29), (56, te56), (59, te59), (85, te85), (86, te86), (88, te88), (115, te115)]
theorem T : TabOk Try.prog tab := (.cons teok3 (.cons teok4 (.cons teok22 (.cons teok23 (.cons teok29 (.cons teok56 (.cons teok59 (.cons teok85 (.cons teok86 (.cons teok88 (.cons teok115 TabOk.nil)))))))))))
theorem kt3 : KeyT Try.prog 3 kI := KeyT.int Try.underlying3
theorem zt3 : ZeroT Try.prog 3 veI 0 := ⟨(.int .i64 0), fun w => by kernel_rfl, fun _ _ => (.v _)⟩
theorem zt4 : ZeroT Try.prog 4 veB false := ⟨(.bool false), fun w => by kernel_rfl, fun _ _ => (.v _)⟩
theorem mix : Try.prog.follows .mixedOrders = true := by kernel_rfl
theorem en6 : Entered Try.prog 6 := fun args w => Try.call6 args w
theorem en7 : Entered Try.prog 7 := fun args w => Try.call7 args w
theorem en8 : Entered Try.prog 8 := fun args w => Try.call8 args w
theorem en9 : Entered Try.prog 9 := fun args w => Try.call9 args w
theorem en10 : Entered Try.prog 10 := fun args w => Try.call10 args w
theorem en11 : Entered Try.prog 11 := fun args w => Try.call11 args w
theorem en19 : Entered Try.prog 19 := fun args w => Try.call19 args w
theorem en21 : Entered Try.prog 21 := fun args w => Try.call21 args w
theorem en22 : Entered Try.prog 22 := fun args w => Try.call22 args w
theorem en23 : Entered Try.prog 23 := fun args w => Try.call23 args w
theorem en24 : Entered Try.prog 24 := fun args w => Try.call24 args w
theorem en25 : Entered Try.prog 25 := fun args w => Try.call25 args w
theorem en26 : Entered Try.prog 26 := fun args w => Try.call26 args w
theorem en27 : Entered Try.prog 27 := fun args w => Try.call27 args w
theorem en28 : Entered Try.prog 28 := fun args w => Try.call28 args w
theorem en29 : Entered Try.prog 29 := fun args w => Try.call29 args w
theorem en52 : Entered Try.prog 52 := fun args w => Try.call52 args w
theorem en53 : Entered Try.prog 53 := fun args w => Try.call53 args w
theorem en54 : Entered Try.prog 54 := fun args w => Try.call54 args w
theorem en55 : Entered Try.prog 55 := fun args w => Try.call55 args w
theorem en56 : Entered Try.prog 56 := fun args w => Try.call56 args w
theorem en57 : Entered Try.prog 57 := fun args w => Try.call57 args w
theorem en73 : Entered Try.prog 73 := fun args w => Try.call73 args w
theorem en74 : Entered Try.prog 74 := fun args w => Try.call74 args w
theorem op3 : Opens Try.prog 3 eI I64 := Opens.i64 Try.underlying3
theorem op23 : Opens Try.prog 23 eLeI (OkL I64) := Opens.slice Try.underlying23 (n := 1) (by kernel_rfl) (by decide) op3
theorem op22 : Opens Try.prog 22 eLeLeI (OkL (OkL I64)) := Opens.slice Try.underlying22 (n := 1) (by kernel_rfl) (by decide) op23
theorem itb55 (xs : List Int) (l : Nat) (J : Nat → World → Prop) (Jx : World → Prop) (S : Nat → Prop) (w W : World) (b off cap : Nat) (p0 : Option Addr) (hlen : xs.length ≤ 1099511627776) (hS : S b)
    (hY : ∀ m x W1, xs[m]? = some x → J m W1 → YieldAt Fence.wide 1 Try.prog l #[.int .i64 x] W1 fun e W' => (e = .returned (.bool true) ∧ J (m + 1) W' ∧ KS S W1 W') ∨ (e = .returned (.bool false) ∧ Jx W'))
    (hc : W.cell? ⟨b, off, none⟩ = some (.slice p0 xs.length cap)) (hL : RowAt S W p0 xs) (h0 : J 0 W) :
    CallsIn Fence.wide 2 Try.prog 55 #[.func (.yield l) #[] #[], .pointer (some ⟨b, off, none⟩)] W fun e W' => (∃ v, e = .returned v) ∧ (J xs.length W' ∨ Jx W') := by
  refine callsIn_of_wp Try.func55 rfl trivial ?_ rfl
  simp only [Try.ntmps55, List.size_toArray, List.length_cons, List.length_nil, Nat.reduceAdd, Nat.reduceSub, Array.replicate_succ, Array.replicate_zero, List.push_toArray, List.append_toArray, List.nil_append, List.cons_append]
  gi_wp2
  gi_loopw [7] (fun p wr => ∃ (m : Nat), m ≤ xs.length ∧ p = .int .i64 (m : Int) ∧ RowAt S wr p0 xs ∧ J m wr)
    (fun p wr => match p with | .int _ i => xs.length - i.toNat | _ => 0)
  case atStart => exact ⟨0, Nat.zero_le _, rfl, hL, h0⟩
  case round =>
    obtain ⟨m, hm, rfl, hl, hJs⟩ := hrel
    by_cases hlt : m < xs.length
    · have hx : xs[m]? = some (xs.getD m 0) := by rw [List.getD_eq_getElem?_getD, List.getElem?_eq_getElem hlt]; rfl
      obtain ⟨b', off', rfl, hb, hv⟩ := hl m _ hx
      obtain ⟨fn, tmps, assign, body, hy, hR⟩ := hY m (xs.getD m 0) wr hx hJs
      generalize xs.getD m 0 = x0 at *
      gi_wp2
      refine hR.mono ?_
      rintro e W3 (⟨rfl, hJ3, hk3⟩ | ⟨rfl, hJx3⟩)
      · gi_wp2
        go_roundw
        case rel => exact ⟨m + 1, by omega, rfl, hl.keep hk3, hJ3⟩
        case measure => simp; omega
      · gi_wp2
        refine bodyPost_ret (results_none rfl _ _ _) rfl ?_
        exact ⟨⟨_, rfl⟩, .inr hJx3⟩
    · obtain rfl : m = xs.length := by omega
      gi_wp2
      go_end0
      exact ⟨⟨_, rfl⟩, .inl hJs⟩
theorem it55 (xs : List Int) (hlen : xs.length ≤ 1099511627776) : Iter Try.prog 55 [.rp [.sl 1 eI xs]] (fun x : Int => [.int .i64 x]) xs := fun w ok β lb hlb l J Jx W hW hY h0 => by
  obtain ⟨b, off, p, cap, rfl, hb, hc, hr⟩ := capRow hlb
  exact itb55 xs l J Jx ok w W b off cap p hlen hb hY ((hW.cell hb).trans hc) (hr.keep hW) h0

end Go.Proofs.Ytlaehjhkcanffaa
