/- The mathematics, several parts in one text. -/
import Derived.Test.YtbpbennpgnjbkaaGreatOK
/- The mathematics, part OM: right states in the program; ActKeeps. -/
set_option linter.unusedVariables false
set_option linter.unusedSimpArgs false
namespace Go.Taq
open Go

section

end
def stOf (t : Int × List Int × List ApiRobot × List Int × List Int × List ApiStuck × Int) : ApiState := { Tick := t.1, Shelves := t.2.1, Robots := t.2.2.1, People := t.2.2.2.1, Dead := t.2.2.2.2.1, Stuck := t.2.2.2.2.2.1 }
end Go.Taq

/- The mathematics, part AA: what moves, whether slots clash, whether acts may be begun (arena.Check and its reference). -/
set_option linter.unusedVariables false
set_option linter.unusedSimpArgs false
namespace Go.Taq
open Go

/-- the slots of a robot at a cell -/
def slAt (r : ApiRobot) (c : Int) : List Int := if 0 ≤ r.Load then [low c, high c] else [low c]
theorem slAt_len (r : ApiRobot) (c : Int) : (slAt r c).length ≤ 2 := by unfold slAt; split <;> simp
theorem S_body_at' {r : ApiRobot} {c : Int} {post : List Int → Prop} (hp : post (slAt r c)) : V_body_at r c post := by
  unfold V_body_at V_body_Low V_body_High
  unfold slAt low high at hp
  refine Ite.mk (fun h => ?_) (fun h => ?_) <;> simp at h
  · rw [if_pos h] at hp; exact hp
  · rw [if_neg (by omega)] at hp; exact hp
/-- the slots to which a robot moves -/
def mvS (f : ApiFloor) (st : ApiState) (acts : List Int) (i : Nat) : List Int :=
  if ((st.Robots.getD i default).Dead || !mvB (acts.getD i 0)) = true then []
  else if (nx f (st.Robots.getD i default).Cell (acts.getD i 0 - 1)).2 = true then slAt (st.Robots.getD i default) (nx f (st.Robots.getD i default).Cell (acts.getD i 0 - 1)).1 else []
def movL (f : ApiFloor) (st : ApiState) (acts : List Int) : List Int := allS st ++ (List.range st.Robots.length).flatMap (mvS f st acts)
theorem mvS_len (f : ApiFloor) (st : ApiState) (acts : List Int) (i : Nat) : (mvS f st acts i).length ≤ 2 := by
  unfold mvS; split
  · simp
  · split
    · exact slAt_len _ _
    · simp
section
variable {s : ApiSite} {st : ApiState}
theorem movL_len (hz : Sz st) (f : ApiFloor) (acts : List Int) : (movL f st acts).length ≤ 9000 := by
  have h1 := flat_len (n := st.Robots.length) (f := mvS f st acts) (fun i _ => mvS_len ..)
  have h2 := allS_len hz
  have := hz.rb
  unfold movL; rw [List.length_append]; omega
theorem flat_succ {f : Nat → List Int} {i : Nat} : (List.range (i + 1)).flatMap f = (List.range i).flatMap f ++ f i := by
  rw [List.range_succ, List.flatMap_append]; simp
theorem S_body_Moving (hf : RF s.Floor) (hz : Sz st) {acts : List Int} (hl : acts.length = st.Robots.length) {post : List Int → Prop} (hp : ∀ l, List.Perm l (movL s.Floor st acts) → post l) : V_body_Moving s.Floor st acts post := by
  unfold V_body_Moving V_slices_Sort_int_int__o0
  have h1 := movL_len hz s.Floor acts
  have hrb := hz.rb
  refine S_body_all hz (Jn.mk (fun l => l = movL s.Floor st acts) (V_upto st.Robots.length (fun t : List Int × Int => t.2) (fun i t => t.1 = allS st ++ (List.range i).flatMap (mvS s.Floor st acts)) (by unfold maxLen; omega) rfl (by simp) (fun i t hi ht hI => ?_) (fun t h => h)) (fun l hl => by subst hl; exact ⟨by omega, hp _ (List.mergeSort_perm _ _)⟩))
  rw [ht]
  have hx := List.getElem?_eq_getElem hi
  generalize st.Robots[i] = r at hx
  have ha := List.getElem?_eq_getElem (show i < acts.length by omega)
  generalize acts[i]'_ = a at ha
  have hlen : t.1.length ≤ 10000 := by
    have h3 := flat_len (n := i) (f := mvS s.Floor st acts) (fun i _ => mvS_len ..)
    have := allS_len hz
    rw [hI, List.length_append]; omega
  refine Jn.mk (fun l => l = t.1 ++ mvS s.Floor st acts i) ⟨r, idx_of rfl hx, ?_⟩ (fun l hl => ⟨rfl, by show l = _; rw [hl, hI, flat_succ, List.append_assoc]⟩)
  have em : mvS s.Floor st acts i = if (r.Dead || !mvB a) = true then [] else if (nx s.Floor r.Cell (a - 1)).2 = true then slAt r (nx s.Floor r.Cell (a - 1)).1 else [] := by
    unfold mvS; rw [getD_r hx, getD_i ha]
  rw [em]
  refine Jn.mk (fun b => b = (r.Dead || !mvB a)) (Ite.f (by simp; omega) (Ite.mk (fun h => by rw [h]; rfl) (fun h => ⟨a, idx_of rfl ha, ?_⟩))) (fun b hb => ?_)
  · rw [h, Bool.false_or]
    refine Ite.mk (fun h2 => ?_) (fun h2 => ?_)
    · have : mvB a = false := by have := @mvB_iff a; simp at h2; cases hm : mvB a <;> simp_all; omega
      rw [this]; rfl
    · simp at h2
      by_cases h3 : a ≥ 7
      · have : mvB a = false := by have := @mvB_iff a; cases hm : mvB a <;> simp_all; omega
        rw [this]; simpa using h3
      · have : mvB a = true := mvB_iff.2 (by omega)
        rw [this]; simpa using h3
  · refine Ite.mk (fun h => ?_) (fun h => ?_)
    · rw [if_pos (by rw [← hb]; exact h)]; simp
    · rw [if_neg (by rw [← hb, h]; simp)]
      have hm : mvB a = true := by rw [h] at hb; simpa using (Bool.or_eq_false_iff.1 hb.symm).2
      have hm' := mvB_iff.1 hm
      refine ⟨a, idx_of rfl ha, ?_⟩
      rw [w64_eq (by omega) (by omega)]
      refine S_floor_Next hf (Jn.mk' (Ite.mk (fun h2 => ?_) (fun h2 => ?_)))
      · rw [if_pos h2]
        exact S_body_at' ⟨by have := slAt_len r (nx s.Floor r.Cell (a - 1)).1; omega, rfl⟩
      · rw [if_neg (by rw [h2]; simp)]; simp
/-! ## clashes -/
theorem adj_nodup {m : List Int} (hs : m.Pairwise (· ≤ ·)) (ha : ∀ (i : Nat) x y, m[i]? = some x → m[i + 1]? = some y → x ≠ y) : m.Nodup := by
  have : m.Pairwise (· < ·) := by
    induction m with
    | nil => exact .nil
    | cons x m ih =>
      have hs' := List.pairwise_cons.1 hs
      have ih' := ih hs'.2 (fun i a b h1 h2 => ha (i + 1) a b (by simpa using h1) (by simpa using h2))
      refine List.pairwise_cons.2 ⟨fun y hy => ?_, ih'⟩
      cases m with
      | nil => cases hy
      | cons z m =>
        have h0 := ha 0 x z rfl rfl
        have h1 := hs'.1 z (by simp)
        rcases List.mem_cons.1 hy with e | e
        · subst e; omega
        · have := (List.pairwise_cons.1 ih').1 y e; omega
  exact this.imp (fun h => by omega)
theorem S_body_ClashI {l : List Int} (hl : l.length ≤ 10000) {post : Int × Bool → Prop} (hp : ∀ n b, (b = true ↔ ¬ l.Nodup) → post (n, b)) : V_body_Clash l post := by
  unfold V_body_Clash V_slices_Values_int_int V_slices_Sorted_int__slices_Values_int_int_1 V_slices_Collect_int__slices_Values_int_int_1 V_slices_AppendSeq_int_int__o0_slices_Values_int_int_1
  refine ⟨by omega, ?_⟩
  refine Each.inv l (fun i t => t = l.take i) rfl (fun i x t hx ht Y hY => ?_) (fun t ht => ?_)
  · have := (List.getElem?_eq_some_iff.1 hx).1
    refine ⟨by rw [ht]; simp; omega, hY _ ?_⟩
    rw [ht, take_succ hx]
  rw [List.take_length] at ht; subst ht
  unfold V_slices_Sort_int_int__o0
  refine ⟨by omega, ?_⟩
  have hperm := List.mergeSort_perm t (fun x y => decide (x ≤ y))
  have hsort : (t.mergeSort fun x y => decide (x ≤ y)).Pairwise (· ≤ ·) := by
    have := List.pairwise_mergeSort (le := fun x y : Int => decide (x ≤ y)) (fun a b c h1 h2 => by simp at *; omega) (fun a b => by simp; omega) t
    exact this.imp (fun h => by simpa using h)
  have hlen := hperm.length_eq
  have hnd := hperm.nodup_iff
  generalize t.mergeSort (fun x y => decide (x ≤ y)) = m at *
  refine Jn.mk (fun _ => m.Nodup) ?_ (fun _ h => hp 0 false (by simp [← hnd, h]))
  refine Loop.inv (m.length - 1) (fun i q => q = (i : Int) + 1 ∧ ∀ (j : Nat) x y, j < i → m[j]? = some x → m[j + 1]? = some y → x ≠ y) ⟨rfl, fun j x y h => by omega⟩ (fun i q hi hq => ?_) (fun q hq => Ite.f (by rw [hq.1]; simp; omega) (adj_nodup hsort (fun j x y h1 h2 => hq.2 j x y (by have := (List.getElem?_eq_some_iff.1 h2).1; omega) h1 h2)))
  obtain ⟨hq, hI⟩ := hq
  subst hq
  have h1 := List.getElem?_eq_getElem (show i + 1 < m.length by omega)
  have h2 := List.getElem?_eq_getElem (show i < m.length by omega)
  refine Ite.lt (by omega) ⟨_, idx_of (n := i + 1) (by omega) h1, _, idx_of (n := i) (by rw [w64_eq (by omega) (by omega)]; omega) h2, Ite.mk (fun h3 => ?_) (fun h3 => ?_)⟩
  · refine hp _ true ⟨fun _ hn => ?_, fun _ => rfl⟩
    have := List.pairwise_iff_getElem.1 (hnd.2 hn) i (i + 1) (by omega) (by omega) (by omega)
    exact this (by simpa using h3 : m[i + 1] = m[i]).symm
  · refine ⟨by rw [w64_eq (by omega) (by omega)]; simp, fun j x y hj hx hy => ?_⟩
    by_cases e : j = i
    · subst e; rw [h2] at hx; rw [h1] at hy; cases hx; cases hy
      intro e; rw [e] at h3; simp at h3
    · exact hI j x y (by omega) hx hy
/-! ## Check -/
/-- the first act that is not legal -/
def fstB (s : ApiSite) (st : ApiState) (acts : List Int) : Nat → Nat → Int
  | 0, _ => 0
  | n + 1, i => if legS s st i (acts.getD i 0) = 0 then fstB s st acts n (i + 1) else legS s st i (acts.getD i 0)
/-- .. one after the other -/
def seqB (s : ApiSite) (acts : List Int) : Nat → Nat → ApiState → Int
  | 0, _, _ => 0
  | n + 1, i, st => if legS s st i (acts.getD i 0) = 0 then seqB s acts n (i + 1) (doS s st i (acts.getD i 0)) else legS s st i (acts.getD i 0)
open Classical in
noncomputable def chkS (s : ApiSite) (st : ApiState) (acts : List Int) : Int :=
  if st.Tick ≥ 20000 then 28 else if (acts.length : Int) ≠ st.Robots.length then 1
  else if fstB s st acts acts.length 0 ≠ 0 then fstB s st acts acts.length 0
  else if ¬ (movL s.Floor st acts).Nodup then 15 else seqB s acts acts.length 0 st
theorem legS_lt {s : ApiSite} {st : ApiState} {i a : Int} (h : legS s st i a = 0) : 0 ≤ a ∧ a < 10 := (legS_ok h).2
/-- the two loops of a check, whatever they call -/
theorem V_check {s : ApiSite} {st : ApiState} {acts : List Int} (k : OkApiState st) (h : LS s st) (hm : acts.length ≤ maxLen) {post : Int → Prop}
    {L : ApiState → Int → Int → (Int → Prop) → Prop} (hL : ∀ st, OkApiState st → LS s st → ∀ i a {q : Int → Prop}, q (legS s st i a) → L st i a q)
    {D : ApiState → Int → Int → (ApiState → Prop) → Prop} (hD : ∀ st, OkApiState st → LS s st → ∀ i a {q : ApiState → Prop}, 0 ≤ a → a < 10 → q (doS s st i a) → D st i a q)
    {M : (List Int → Prop) → Prop} (hM : ∀ {q : List Int → Prop}, acts.length = st.Robots.length → (∀ l, List.Perm l (movL s.Floor st acts) → q l) → M q)
    {C : List Int → (Int × Bool → Prop) → Prop} (hC : ∀ l {q : Int × Bool → Prop}, l.length ≤ 10000 → (∀ n b, (b = true ↔ ¬ l.Nodup) → q (n, b)) → C l q) (hp : post (chkS s st acts)) :
    Ite (decide (st.Tick ≥ 20000)) (post 28) (Ite ((acts.length : Int) != (st.Robots.length : Int)) (post 1)
      (Jn (fun (J : Unit → Prop) => Loop (fun (t : Int) Y => Ite (decide (t < (acts.length : Int))) (∃ x, idx acts t = some x ∧ L st t x (fun y => Ite (y != 0) (post y) (Y (w64 (t + 1))))) (J ())) 0)
        (fun (_ : Unit) => M (fun l => C l (fun c => Ite c.2 (post 15)
          (Jn (fun (J : Unit → Prop) => Loop (fun (t : Int × List Int × List ApiRobot × List Int × List Int × List ApiStuck × Int) Y => Ite (decide (t.2.2.2.2.2.2 < (acts.length : Int)))
            (∃ x, idx acts t.2.2.2.2.2.2 = some x ∧ L (stOf t) t.2.2.2.2.2.2 x (fun y => Ite (y != 0) (post y) (D (stOf t) t.2.2.2.2.2.2 x (fun z => Y (z.Tick, z.Shelves, z.Robots, z.People, z.Dead, z.Stuck, w64 (t.2.2.2.2.2.2 + 1)))))) (J ())) (st.Tick, st.Shelves, st.Robots, st.People, st.Dead, st.Stuck, 0)) (fun _ => post 0))))))) := by
  unfold chkS at hp
  refine Ite.mk (fun h1 => by rw [if_pos (by simpa using h1)] at hp; exact hp) (fun h1 => ?_)
  rw [if_neg (by simpa using h1)] at hp
  refine Ite.mk (fun h2 => by rw [if_pos (by simpa using h2)] at hp; exact hp) (fun h2 => ?_)
  rw [if_neg (by simpa using h2)] at hp
  have hl : acts.length = st.Robots.length := by simp at h2; omega
  refine Jn.mk (fun _ => fstB s st acts acts.length 0 = 0) (Loop.inv acts.length (fun i t => t = (i : Int) ∧ fstB s st acts acts.length 0 = fstB s st acts (acts.length - i) i) ⟨rfl, rfl⟩ (fun i t hi hI => ?_) (fun t hI => ?_)) (fun _ h3 => ?_)
  · obtain ⟨ht, hI⟩ := hI
    have hx := List.getElem?_eq_getElem hi
    generalize acts[i] = a at hx
    have hn : acts.length - i = (acts.length - (i + 1)) + 1 := by omega
    rw [hn, fstB, getD_i hx] at hI
    subst ht
    refine Ite.lt (by omega) ⟨a, idx_of rfl hx, hL st k h i a (Ite.mk (fun h4 => ?_) (fun h4 => ?_))⟩
    · have h4' : legS s st i a ≠ 0 := by simpa using h4
      rw [if_neg h4'] at hI
      rw [if_pos (by rw [hI]; exact h4'), hI] at hp
      exact hp
    · have h4' : legS s st i a = 0 := by simpa using h4
      rw [if_pos h4'] at hI
      exact ⟨w64_nat hi hm, hI⟩
  · obtain ⟨ht, hI⟩ := hI
    rw [Nat.sub_self, fstB] at hI
    exact Ite.nlt (by omega) hI
  · rw [if_neg (by simpa using h3)] at hp
    refine hM hl (fun l hperm => hC l (by rw [hperm.length_eq]; have := movL_len h.sz s.Floor acts; omega) (fun n b hb => Ite.mk (fun h4 => ?_) (fun h4 => ?_)))
    · rw [if_pos (by rw [← hperm.nodup_iff]; exact hb.1 h4)] at hp; exact hp
    · rw [if_neg (by rw [← hperm.nodup_iff]; intro hn; have := hb.2 hn; simp only at h4; rw [h4] at this; cases this)] at hp
      refine Jn.mk (fun _ => seqB s acts acts.length 0 st = 0) (Loop.inv acts.length (fun i t => t.2.2.2.2.2.2 = (i : Int) ∧ OkApiState (stOf t) ∧ LS s (stOf t) ∧ seqB s acts acts.length 0 st = seqB s acts (acts.length - i) i (stOf t)) ⟨rfl, k, h, rfl⟩ (fun i t hi hI => ?_) (fun t hI => ?_)) (fun _ h5 => by rw [h5] at hp; exact hp)
      · obtain ⟨ht, hk, hls, hI⟩ := hI
        have hx := List.getElem?_eq_getElem hi
        generalize acts[i] = a at hx
        have hn' : acts.length - i = (acts.length - (i + 1)) + 1 := by omega
        rw [hn', seqB, getD_i hx] at hI
        rw [ht]
        refine Ite.lt (by omega) ⟨a, idx_of rfl hx, hL _ hk hls i a (Ite.mk (fun h6 => ?_) (fun h6 => ?_))⟩
        · have h6' : legS s (stOf t) i a ≠ 0 := by simpa using h6
          rw [if_neg h6'] at hI
          rw [hI] at hp; exact hp
        · have h6' : legS s (stOf t) i a = 0 := by simpa using h6
          rw [if_pos h6'] at hI
          have ha := legS_lt h6'
          have hd := doS_ls hk hls (i : Int) a
          exact hD _ hk hls i a ha.1 ha.2 ⟨w64_nat hi hm, hd.2, hd.1, hI⟩
      · obtain ⟨ht, hk, hls, hI⟩ := hI
        rw [Nat.sub_self, seqB] at hI
        exact Ite.nlt (by omega) hI
theorem S_arena_Check (ks : OkApiSite s) (k : OkApiState st) (h : LS s st) {acts : List Int} (ka : OkL I64 acts) {post : Int → Prop} (hp : post (chkS s st acts)) : V_arena_Check s st acts post := by
  unfold V_arena_Check
  exact V_check k h ka.1 (L := fun st i a q => V_act_Legal s st i a q) (fun st k h i a q hq => S_act_Legal ks k h hq) (D := fun st i a q => V_act_Do s st i a q) (fun st k h i a q h0 h9 hq => S_act_Do ks k h h0 h9 hq)
    (M := fun q => V_body_Moving s.Floor st acts q) (fun {q} hl hq => S_body_Moving h.fl h.sz hl hq) (C := fun l q => V_body_Clash l q) (fun l q hl hq => S_body_ClashI hl hq) hp
end
end Go.Taq

/- The mathematics, part AB: faults: which can happen, and what they do (arena.Possible, Happen and their references). -/
set_option linter.unusedVariables false
set_option linter.unusedSimpArgs false
namespace Go.Taq
open Go

def k0 (f : ApiFloor) (c : Int) : Int := if isC f c = true then kd f c else 0
def liveB (st : ApiState) (i : Int) : Bool := decide (0 ≤ i) && decide (i < st.Robots.length) && !(st.Robots.getD i.toNat default).Dead
def longB (n : Int) : Bool := decide (n ≥ 1) && decide (n ≤ 20000)
def stepB (s : ApiSite) (st : ApiState) (a c : Int) : Bool :=
  (k0 s.Floor c == 4 || k0 s.Floor c == 5) && (!(allS st).contains (low c) && !(allS st).contains (high c)) &&
  (if a = st.People.length then k0 s.Floor c == 5 && decide (a < 20) else decide (0 ≤ a) && decide (a < st.People.length) && nearB s.Floor (st.People.getD a.toNat 0) c)
def possB (s : ApiSite) (st : ApiState) (f : ApiFault) : Bool :=
  if f.Kind = 0 then true else if f.Kind = 1 then liveB st f.A else if f.Kind = 2 then k0 s.Floor f.A != 0 && !st.Dead.contains f.A
  else if f.Kind = 3 then liveB st f.A && longB f.N else if f.Kind = 4 then k0 s.Floor f.A == 6 && longB f.N else if f.Kind = 5 then stepB s st f.A f.N else false
section
variable {s : ApiSite} {st : ApiState}
theorem getD_ri {i : Int} {n : Nat} {r : ApiRobot} (hi : i = n) (h : st.Robots[n]? = some r) : st.Robots.getD i.toNat default = r := by subst hi; exact getD_r h
theorem S_arena_live {i : Int} {post : Bool → Prop} (hp : post (liveB st i)) : V_arena_live st i post := by
  unfold V_arena_live
  refine Jn.mk' (Ite.mk (fun h1 => Ite.mk (fun h2 => ?_) (fun h2 => ?_)) (fun h1 => ?_))
  · have h1' : 0 ≤ i := by simpa using h1
    obtain ⟨n, hn⟩ := Int.eq_ofNat_of_zero_le h1'
    have h2' : i < (st.Robots.length : Int) := by simpa using h2
    have hx := List.getElem?_eq_getElem (show n < st.Robots.length by omega)
    refine ⟨_, idx_of hn hx, ?_⟩
    have : liveB st i = !(st.Robots[n]).Dead := by unfold liveB; rw [getD_ri hn hx]; simp [h1', h2']
    rw [← this]; exact hp
  · have : liveB st i = false := by unfold liveB; rw [h2]; simp
    rw [← this]; exact hp
  · have : liveB st i = false := by unfold liveB; have : decide (0 ≤ i) = false := by simpa using h1
                                    rw [this]; simp
    rw [← this]; exact hp
theorem V_kind0 {f : ApiFloor} {c : Int} {post : Int → Prop} (hp : post (k0 f c)) :
    Jn (fun (J4 : Bool → Prop) => Ite (decide (c < 0)) (J4 true) (J4 (decide (c ≥ (f.Kind.length : Int))))) (fun (x3 : Bool) => Ite x3 (post 0) (∃ x11, idx f.Kind c = some x11 ∧ post x11)) := by
  unfold k0 at hp
  refine Jn.mk (fun b => b = !isC f c) (Ite.mk (fun h => ?_) (fun h => ?_)) (fun b hb => Ite.mk (fun h => ?_) (fun h => ?_))
  · rw [isC_not.2 (by simp at h; omega)]; rfl
  · cases e : isC f c with
    | true => have := isC_iff.1 e; simp; omega
    | false => have := isC_not.1 e; simp at h ⊢; omega
  · rw [h] at hb
    have : isC f c = false := by simpa using hb.symm
    rw [this] at hp; exact hp
  · rw [h] at hb
    have : isC f c = true := by simpa using hb.symm
    rw [if_pos this] at hp
    exact ⟨_, idx_kd this, hp⟩
theorem S_arena_kind {f : ApiFloor} {c : Int} {post : Int → Prop} (hp : post (k0 f c)) : V_arena_kind f c post := by unfold V_arena_kind; exact V_kind0 hp
theorem S_arena_steps (hf : RF s.Floor) (hz : Sz st) {a c : Int} {post : Bool → Prop} (hp : post (stepB s st a c)) : V_arena_steps s st a c post := by
  unfold V_arena_steps V_body_Low V_body_High
  unfold stepB at hp
  refine S_arena_kind (Jn.mk (fun b => b = !(k0 s.Floor c == 4 || k0 s.Floor c == 5)) (Ite.mk (fun h => ?_) (fun h => ?_)) (fun b hb => Ite.mk (fun h => ?_) (fun h => ?_)))
  · have : (k0 s.Floor c == 4) = false := by simpa using h
    rw [this]; simp [bne]
  · have : (k0 s.Floor c == 4) = true := by simpa using h
    rw [this]; rfl
  · rw [h] at hb
    have : (k0 s.Floor c == 4 || k0 s.Floor c == 5) = false := by cases e : (k0 s.Floor c == 4 || k0 s.Floor c == 5) with
      | false => rfl
      | true => rw [e] at hb; cases hb
    rw [this] at hp; simpa using hp
  · rw [h] at hb
    have : (k0 s.Floor c == 4 || k0 s.Floor c == 5) = true := by cases e : (k0 s.Floor c == 4 || k0 s.Floor c == 5) with
      | true => rfl
      | false => rw [e] at hb; cases hb
    rw [this, Bool.true_and] at hp
    refine S_body_All hz (fun l hl => ?_)
    rw [← perm_contains hl, ← perm_contains hl] at hp
    have hll : l.length ≤ maxLen := by have := hl.length_eq; have := allS_len hz; unfold maxLen; omega
    have hany : (l.any fun x => x == low c || x == high c) = !(!l.contains (low c) && !l.contains (high c)) := by
      cases e1 : l.contains (low c) with
      | true =>
        have h1 : low c ∈ l := by simpa using e1
        show _ = true
        exact List.any_eq_true.2 ⟨_, h1, by simp⟩
      | false =>
        cases e2 : l.contains (high c) with
        | true =>
          have h1 : high c ∈ l := by simpa using e2
          show _ = true
          exact List.any_eq_true.2 ⟨_, h1, by simp⟩
        | false =>
          have h1 : low c ∉ l := by simpa using e1
          have h2 : high c ∉ l := by simpa using e2
          show _ = false
          cases e3 : (l.any fun x => x == low c || x == high c) with
          | false => rfl
          | true =>
            obtain ⟨x, hx, h⟩ := List.any_eq_true.1 e3
            simp at h
            rcases h with h | h <;> subst h
            · exact absurd hx h1
            · exact absurd hx h2
    refine Jn.mk (fun _ => (l.any fun x => x == low c || x == high c) = false) (V_loopc (xs := l) hll (fun t : Int => t) (fun i _ => ∀ x, x ∈ l.take i → (x == low c || x == high c) = false) rfl (fun x hx => by simp at hx) (fun i x t hx ht hI => ?_) (fun t hI => ?_)) (fun _ hn => ?_)
    · refine Jn.mk (fun b => b = (x == low c || x == high c)) (Ite.mk (fun h1 => ?_) (fun h1 => ?_)) (fun b hb => Ite.mk (fun h2 => ?_) (fun h2 => ⟨by rw [ht], fun y hy => ?_⟩))
      · have : (x == low c) = true := h1
        rw [this]; rfl
      · have : (x == low c) = false := h1
        rw [this]; rfl
      · have : (l.any fun x => x == low c || x == high c) = true := List.any_eq_true.2 ⟨x, List.mem_of_getElem? hx, by rw [← hb]; exact h2⟩
        rw [hany] at this
        have : (!l.contains (low c) && !l.contains (high c)) = false := by
          cases e : (!l.contains (low c) && !l.contains (high c)) with
          | false => rfl
          | true => rw [e] at this; cases this
        rw [this] at hp; exact hp
      · rw [take_succ hx] at hy
        rcases List.mem_append.1 hy with h | h
        · exact hI y h
        · simp at h; subst h; rw [← hb]; exact h2
    · rw [List.take_length] at hI
      cases e : (l.any fun x => x == low c || x == high c) with
      | false => rfl
      | true => obtain ⟨x, hx, h⟩ := List.any_eq_true.1 e; rw [hI x hx] at h; cases h
    · rw [hany] at hn
      have : (!l.contains (low c) && !l.contains (high c)) = true := by
        cases e : (!l.contains (low c) && !l.contains (high c)) with
        | true => rfl
        | false => rw [e] at hn; cases hn
      rw [this, Bool.true_and] at hp
      refine Ite.mk (fun h1 => ?_) (fun h1 => ?_)
      · rw [if_pos (by simpa using h1)] at hp
        exact Jand2 hp
      · rw [if_neg (by simpa using h1)] at hp
        refine Jn.mk' (Ite.mk (fun h2 => Ite.mk (fun h3 => ?_) (fun h3 => ?_)) (fun h2 => ?_))
        · have h2' : 0 ≤ a := by simpa using h2
          obtain ⟨n, hn⟩ := Int.eq_ofNat_of_zero_le h2'
          have h3' : a < (st.People.length : Int) := by simpa using h3
          have hx := List.getElem?_eq_getElem (show n < st.People.length by omega)
          have e : ∀ y, st.People[n]? = some y → st.People.getD a.toNat 0 = y := fun y hy => by rw [hn]; exact getD_i hy
          rw [e _ hx] at hp
          refine ⟨_, idx_of hn hx, S_floor_Near hf ?_⟩
          rw [decide_eq_true h2', decide_eq_true h3'] at hp; exact hp
        · rw [h3] at hp; simpa using hp
        · have : decide (0 ≤ a) = false := by simpa using h2
          rw [this] at hp; simpa using hp
theorem possB_0 {f : ApiFault} (h : f.Kind = 0) : possB s st f = true := by unfold possB; rw [if_pos h]
theorem possB_1 {f : ApiFault} (h : f.Kind = 1) : possB s st f = liveB st f.A := by unfold possB; rw [if_neg (by omega), if_pos h]
theorem possB_2 {f : ApiFault} (h : f.Kind = 2) : possB s st f = (k0 s.Floor f.A != 0 && !st.Dead.contains f.A) := by unfold possB; rw [if_neg (by omega), if_neg (by omega), if_pos h]
theorem possB_3 {f : ApiFault} (h : f.Kind = 3) : possB s st f = (liveB st f.A && longB f.N) := by unfold possB; rw [if_neg (by omega), if_neg (by omega), if_neg (by omega), if_pos h]
theorem possB_4 {f : ApiFault} (h : f.Kind = 4) : possB s st f = (k0 s.Floor f.A == 6 && longB f.N) := by unfold possB; rw [if_neg (by omega), if_neg (by omega), if_neg (by omega), if_neg (by omega), if_pos h]
theorem possB_5 {f : ApiFault} (h : f.Kind = 5) : possB s st f = stepB s st f.A f.N := by unfold possB; rw [if_neg (by omega), if_neg (by omega), if_neg (by omega), if_neg (by omega), if_neg (by omega), if_pos h]
theorem possB_n {f : ApiFault} (h0 : f.Kind ≠ 0) (h1 : f.Kind ≠ 1) (h2 : f.Kind ≠ 2) (h3 : f.Kind ≠ 3) (h4 : f.Kind ≠ 4) (h5 : f.Kind ≠ 5) : possB s st f = false := by
  unfold possB; rw [if_neg h0, if_neg h1, if_neg h2, if_neg h3, if_neg h4, if_neg h5]
def possS (s : ApiSite) (st : ApiState) (f : ApiFault) : Int := if possB s st f = true then 0 else 26
theorem S_arena_Possible (hf : RF s.Floor) (hz : Sz st) {f : ApiFault} {post : Int → Prop} (hp : post (possS s st f)) : V_arena_Possible s st f post := by
  unfold V_arena_Possible
  refine Jn.mk (fun b => b = longB f.N) (Ite.mk (fun h => ?_) (fun h => ?_)) (fun lg hlg => ?_)
  · unfold longB; rw [h]; rfl
  · unfold longB; rw [h]; rfl
  refine Jn.mk (fun b => b = possB s st f) ?_ (fun b hb => ?_)
  rotate_left
  · unfold possS at hp
    refine Ite.mk (fun h => ?_) (fun h => ?_)
    · have : b = false := by simpa using h
      rw [this] at hb; rw [← hb, if_neg (by simp)] at hp; exact hp
    · have : b = true := by simpa using h
      rw [this] at hb; rw [← hb, if_pos rfl] at hp; exact hp
  refine Ite.mk (fun h => (possB_0 (by simpa using h)).symm) (fun h0 => Jn.mk' (Ite.mk (fun h => ?_) (fun h1 => Jn.mk' (Ite.mk (fun h => ?_) (fun h2 => Jn.mk' (Ite.mk (fun h => ?_) (fun h3 => Jn.mk' (Ite.mk (fun h => ?_) (fun h4 => Jn.mk' (Ite.mk (fun h => ?_) (fun h5 => ?_)))))))))))
  · exact S_arena_live (possB_1 (by simpa using h)).symm
  · have e := possB_2 (s := s) (st := st) (f := f) (by simpa using h)
    refine Jn.mk' (S_arena_kind (Ite.mk (fun h => S_slices_Contains (by have := hz.dd; unfold maxLen; omega) ?_) (fun h => ?_)))
    · show _ = possB s st f
      rw [e, h]; rfl
    · show _ = possB s st f
      rw [e, h]; rfl
  · have e := possB_3 (s := s) (st := st) (f := f) (by simpa using h)
    refine Jn.mk' (S_arena_live (Ite.mk (fun h => ?_) (fun h => ?_)))
    · show _ = possB s st f
      rw [e, h, hlg]; rfl
    · show _ = possB s st f
      rw [e, h]; rfl
  · have e := possB_4 (s := s) (st := st) (f := f) (by simpa using h)
    refine Jn.mk' (S_arena_kind (Ite.mk (fun h => ?_) (fun h => ?_)))
    · show _ = possB s st f
      rw [e, h, hlg]; rfl
    · show _ = possB s st f
      rw [e, h]; rfl
  · exact S_arena_steps hf hz (possB_5 (by simpa using h)).symm
  · exact (possB_n (by simpa using h0) (by simpa using h1) (by simpa using h2) (by simpa using h3) (by simpa using h4) (by simpa using h5)).symm
/-! ## what happens -/
def srtI (l : List Int) : List Int := l.mergeSort fun x y => decide (x ≤ y)
theorem srtI_perm (l : List Int) : List.Perm (srtI l) l := List.mergeSort_perm _ _
theorem srtI_pw (l : List Int) : (srtI l).Pairwise (· ≤ ·) := by
  have := List.pairwise_mergeSort (le := fun x y : Int => decide (x ≤ y)) (fun a b c h1 h2 => by simp at *; omega) (fun a b => by simp; omega) l
  exact this.imp (fun h => by simpa using h)
/-- a further stuck lift -/
def stickS (c n : Int) : List ApiStuck → List ApiStuck
  | [] => [{ Cell := c, Left := n }]
  | x :: r => if x.Cell < c then x :: stickS c n r else if x.Cell = c then { Cell := c, Left := imax x.Left n } :: r else { Cell := c, Left := n } :: x :: r
theorem stickS_app {c n : Int} : ∀ {p : List ApiStuck} (q : List ApiStuck), (∀ x, x ∈ p → x.Cell < c) → stickS c n (p ++ q) = p ++ stickS c n q
  | [], _, _ => rfl
  | x :: p, q, h => by
    show stickS c n (x :: (p ++ q)) = _
    rw [stickS, if_pos (h x (by simp)), stickS_app q (fun y hy => h y (by simp [hy]))]; rfl
theorem stickS_len (c n : Int) : ∀ l : List ApiStuck, l.length ≤ (stickS c n l).length ∧ (stickS c n l).length ≤ l.length + 1
  | [] => by simp [stickS]
  | x :: r => by
    have := stickS_len c n r
    unfold stickS; split
    · simp; omega
    · split <;> simp
theorem S_arena_stick {c n : Int} {l : List ApiStuck} (hl : l.length ≤ 1000) {post : List ApiStuck → Prop} (hp : post (stickS c n l)) : V_arena_stick__o0 c n l post := by
  unfold V_arena_stick__o0 V_slices_IndexFunc_api_Stuck_api_Stuck__arena_stick_1
  refine V_fidxc (xs := l) (by unfold maxLen; omega) (fun x : ApiStuck => decide (x.Cell ≥ c)) (T := fun x q => V_arena_stick_1 x c q) (fun x _ q hq => by unfold V_arena_stick_1; exact hq) (post := fun m => Ite (decide (m < 0)) _ _) ?_
  rcases fidx_cases (fun x : ApiStuck => decide (x.Cell ≥ c)) l with ⟨i, x, hx, e, hpx, hb⟩ | ⟨e, hb⟩
  · rw [e]
    have hlt := (List.getElem?_eq_some_iff.1 hx).1
    have hsplit : l = l.take i ++ x :: l.drop (i + 1) := by
      have h1 := (List.getElem?_eq_some_iff.1 hx).2
      conv => lhs; rw [← List.take_append_drop i l]
      rw [List.drop_eq_getElem_cons hlt, h1]
    have hlow : ∀ y, y ∈ l.take i → y.Cell < c := fun y hy => by
      obtain ⟨j, hj⟩ := List.getElem?_of_mem hy
      have hjl := (List.getElem?_eq_some_iff.1 hj).1
      rw [List.length_take] at hjl
      rw [List.getElem?_take, if_pos (by omega)] at hj
      have := hb j y (by omega) hj
      simpa using this
    have hpx' : c ≤ x.Cell := by simpa using hpx
    have est : stickS c n l = l.take i ++ stickS c n (x :: l.drop (i + 1)) := by
      conv => lhs; rw [hsplit]
      exact stickS_app _ hlow
    refine Ite.f (decide_eq_false (by omega)) ⟨x, idx_of rfl hx, Ite.mk (fun h => ?_) (fun h => ?_)⟩
    · have hc : x.Cell = c := by simpa using h
      have : l.set (Int.toNat (i : Int)) { Cell := x.Cell, Left := imax x.Left n } = stickS c n l := by
        rw [est, stickS, if_neg (by omega), if_pos hc]
        show l.set i _ = _
        conv => lhs; rw [hsplit]
        have hti : (l.take i).length = i := by rw [List.length_take]; omega
        rw [List.set_append, if_neg (by omega), hti, Nat.sub_self, List.set_cons_zero, hc]
      rw [this]; exact hp
    · have hc : x.Cell ≠ c := by simpa using h
      unfold V_slices_Insert_api_Stuck_api_Stuck__o0_o1
      refine ⟨by omega, by simp, by rw [List.length_singleton]; omega, ?_⟩
      have : l.take (Int.toNat (i : Int)) ++ ([{ Cell := c, Left := n }] ++ l.drop (Int.toNat (i : Int))) = stickS c n l := by
        rw [est, stickS, if_neg (by omega), if_neg hc]
        show l.take i ++ ([_] ++ l.drop i) = _
        rw [List.drop_eq_getElem_cons hlt, (List.getElem?_eq_some_iff.1 hx).2]; rfl
      rw [this]; exact hp
  · rw [e]
    refine Ite.t (by decide) ⟨by simp; omega, ?_⟩
    have : stickS c n l = l ++ stickS c n [] := by
      have := stickS_app (n := n) (p := l) [] (fun x hx => by simpa using hb x hx)
      simpa using this
    rw [this] at hp; exact hp
end
end Go.Taq

/- The mathematics, part AC: what a fault does (arena.Happen and its reference). -/
set_option linter.unusedVariables false
set_option linter.unusedSimpArgs false
namespace Go.Taq
open Go

def setR (st : ApiState) (i : Int) (r : ApiRobot) : ApiState := { st with Robots := st.Robots.set i.toNat r }
def rAt (st : ApiState) (i : Int) : ApiRobot := st.Robots.getD i.toNat default
def happS (s : ApiSite) (st : ApiState) (f : ApiFault) : ApiState :=
  if possB s st f = false then st
  else if f.Kind = 1 then setR st f.A { rAt st f.A with Dead := true }
  else if f.Kind = 2 then { st with Dead := srtI (st.Dead ++ [f.A]) }
  else if f.Kind = 3 then setR st f.A { rAt st f.A with Mute := f.N }
  else if f.Kind = 4 then { st with Stuck := stickS f.A f.N st.Stuck }
  else if f.Kind = 5 then { st with People := if f.A = st.People.length then st.People ++ [f.N] else st.People.set f.A.toNat f.N }
  else st
theorem adj_lt {α : Type} {l : List α} {g : α → Int} (h : ∀ (i : Nat) x y, l[i]? = some x → l[i + 1]? = some y → g x < g y) : ∀ (i j : Nat) x y, i < j → l[i]? = some x → l[j]? = some y → g x < g y := by
  intro i j
  induction j with
  | zero => intro x y h0; omega
  | succ j ih =>
    intro x y hij hx hy
    by_cases e : i = j
    · subst e; exact h i x y hx hy
    · have hjl := (List.getElem?_eq_some_iff.1 hy).1
      have hz := List.getElem?_eq_getElem (show j < l.length by omega)
      have h1 := ih x _ (by omega) hx hz
      have h2 := h j _ y hz hy
      omega
section
variable {s : ApiSite} {st : ApiState}
theorem happ_no {f : ApiFault} (h : possB s st f = false) : happS s st f = st := by unfold happS; rw [if_pos h]
theorem happ_0 {f : ApiFault} (h : f.Kind = 0) : happS s st f = st := by unfold happS; rw [if_neg (by rw [possB_0 h]; simp), if_neg (by omega), if_neg (by omega), if_neg (by omega), if_neg (by omega), if_neg (by omega)]
theorem happ_1 {f : ApiFault} (hb : possB s st f = true) (h : f.Kind = 1) : happS s st f = setR st f.A { rAt st f.A with Dead := true } := by unfold happS; rw [if_neg (by rw [hb]; simp), if_pos h]
theorem happ_2 {f : ApiFault} (hb : possB s st f = true) (h : f.Kind = 2) : happS s st f = { st with Dead := srtI (st.Dead ++ [f.A]) } := by unfold happS; rw [if_neg (by rw [hb]; simp), if_neg (by omega), if_pos h]
theorem happ_3 {f : ApiFault} (hb : possB s st f = true) (h : f.Kind = 3) : happS s st f = setR st f.A { rAt st f.A with Mute := f.N } := by unfold happS; rw [if_neg (by rw [hb]; simp), if_neg (by omega), if_neg (by omega), if_pos h]
theorem happ_4 {f : ApiFault} (hb : possB s st f = true) (h : f.Kind = 4) : happS s st f = { st with Stuck := stickS f.A f.N st.Stuck } := by unfold happS; rw [if_neg (by rw [hb]; simp), if_neg (by omega), if_neg (by omega), if_neg (by omega), if_pos h]
theorem happ_5 {f : ApiFault} (hb : possB s st f = true) (h : f.Kind = 5) : happS s st f = { st with People := if f.A = st.People.length then st.People ++ [f.N] else st.People.set f.A.toNat f.N } := by unfold happS; rw [if_neg (by rw [hb]; simp), if_neg (by omega), if_neg (by omega), if_neg (by omega), if_neg (by omega), if_pos h]
theorem liveB_iff {i : Int} (h : liveB st i = true) : ∃ (n : Nat) (r : ApiRobot), i = n ∧ st.Robots[n]? = some r ∧ r.Dead = false ∧ rAt st i = r := by
  unfold liveB at h
  simp only [Bool.and_eq_true, decide_eq_true_eq] at h
  obtain ⟨⟨h1, h2⟩, h3⟩ := h
  obtain ⟨n, hn⟩ := Int.eq_ofNat_of_zero_le h1
  have hx := List.getElem?_eq_getElem (show n < st.Robots.length by omega)
  rw [getD_ri hn hx] at h3
  exact ⟨n, _, hn, hx, by simpa using h3, getD_ri hn hx⟩
theorem stepB_A {a c : Int} (h : stepB s st a c = true) : a = st.People.length ∨ ∃ n : Nat, a = n ∧ n < st.People.length := by
  unfold stepB at h
  simp only [Bool.and_eq_true] at h
  by_cases e : a = st.People.length
  · exact .inl e
  · rw [if_neg e] at h
    simp only [Bool.and_eq_true, decide_eq_true_eq] at h
    obtain ⟨n, hn⟩ := Int.eq_ofNat_of_zero_le h.2.1.1
    exact .inr ⟨n, hn, by omega⟩
theorem possS_iff {f : ApiFault} : possS s st f = 0 ↔ possB s st f = true := by
  unfold possS; cases possB s st f <;> simp
def st4 (st : ApiState) (t : List ApiRobot × List Int × List Int × List ApiStuck) : ApiState := { st with Robots := t.1, People := t.2.1, Dead := t.2.2.1, Stuck := t.2.2.2 }
theorem S_arena_Happen (hf : RF s.Floor) (hz : Sz st) {f : ApiFault} {post : ApiState → Prop} (hp : post (happS s st f)) : V_arena_Happen s st f post := by
  unfold V_arena_Happen
  refine S_body_Clone hz (S_arena_Possible hf hz (Ite.mk (fun h => ?_) (fun h => ?_)))
  · have : possB s st f = false := by
      have h1 : possS s st f ≠ 0 := by simpa using h
      cases e : possB s st f with
      | false => rfl
      | true => exact absurd (possS_iff.2 e) h1
    rw [happ_no this] at hp; exact hp
  have hb : possB s st f = true := possS_iff.1 (by simpa using h)
  have q3 := hz.pp; have q4 := hz.dd; have q5 := hz.sk
  refine Jn.mk (fun t => st4 st t = happS s st f) ?_ (fun t ht => by rw [← ht] at hp; exact hp)
  refine Ite.mk (fun h1 => ?_) (fun h1 => Jn.mk' (Ite.mk (fun h2 => ?_) (fun h2 => Jn.mk' (Ite.mk (fun h3 => ?_) (fun h3 => Jn.mk' (Ite.mk (fun h4 => ?_) (fun h4 => Jn.mk' (Ite.mk (fun h5 => ?_) (fun h5 => ?_)))))))))
  · have e : f.Kind = 1 := by simpa using h1
    have hl := hb; rw [possB_1 e] at hl
    obtain ⟨n, r, hn, hx, _, hr⟩ := liveB_iff hl
    refine ⟨r, idx_of hn hx, ?_⟩
    rw [happ_1 hb e, hr]; rfl
  · have e : f.Kind = 2 := by simpa using h2
    unfold V_slices_Sort_int_int__o0
    refine ⟨by simp; omega, by simp; omega, ?_⟩
    show st4 st _ = _
    rw [happ_2 hb e]; rfl
  · have e : f.Kind = 3 := by simpa using h3
    have hl := hb; rw [possB_3 e, Bool.and_eq_true] at hl
    obtain ⟨n, r, hn, hx, _, hr⟩ := liveB_iff hl.1
    refine ⟨r, idx_of hn hx, ?_⟩
    show st4 st _ = _
    rw [happ_3 hb e, hr]; rfl
  · have e : f.Kind = 4 := by simpa using h4
    refine S_arena_stick q5 ?_
    show st4 st _ = _
    rw [happ_4 hb e]; rfl
  · have e : f.Kind = 5 := by simpa using h5
    have hl := hb; rw [possB_5 e] at hl
    refine Jn.mk (fun l => l = if f.A = st.People.length then st.People ++ [f.N] else st.People) (Ite.mk (fun h6 => ⟨by simp; omega, by rw [if_pos (by simpa using h6)]⟩) (fun h6 => by rw [if_neg (by simpa using h6)])) (fun l hl2 => ?_)
    rcases stepB_A hl with hA | ⟨n, hA, hn⟩
    · rw [if_pos hA] at hl2
      refine ⟨f.N, ?_, ?_⟩
      · rw [hl2]; exact idx_of hA (by simp)
      · show st4 st _ = _
        rw [happ_5 hb e, if_pos hA, hl2, hA]
        show st4 st (st.Robots, (st.People ++ [f.N]).set st.People.length f.N, st.Dead, st.Stuck) = _
        rw [set_app]; rfl
    · rw [if_neg (by omega)] at hl2
      subst hl2
      refine ⟨_, idx_of hA (List.getElem?_eq_getElem hn), ?_⟩
      show st4 st _ = _
      rw [happ_5 hb e, if_neg (by omega)]; rfl
  · show st4 st _ = _
    by_cases e : f.Kind = 0
    · rw [happ_0 e]; rfl
    · have := possB_n (s := s) (st := st) e (by simpa using h1) (by simpa using h2) (by simpa using h3) (by simpa using h4) (by simpa using h5)
      rw [this] at hb; cases hb
end
end Go.Taq
