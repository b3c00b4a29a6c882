/- The mathematics, several parts in one text. -/
import Derived.Test.YthbeknnkokooiaaFG
/- The mathematics of relocation, part CA: the search, followed at the examples. -/
set_option linter.unusedVariables false
set_option linter.unusedSimpArgs false
namespace Go.Taq
open Go
def tC : List Int := [2, 1, 0, 1]
def tD : List Int := [4, 3, 2, 1, 2, 1, 0, 0, 0, 1, 1, 2]
theorem chkC : chkT 4 (preT rowF r4 4 1) (srcT 4 1 2) tC = true := by decide +kernel
theorem chkD : chkT 12 (preT rowF r4 4 2) (srcT 4 2 2) tD = true := by decide +kernel
theorem row_tables2 {ts : List (List Int)} (h : Db rowF r4 4 1 2 ts) : ts = [tC, tD] := by
  have a1 : ts.getD 0 [] = tC := (h.tb 0 (by omega)).eq (TOk.chk (preT_lt (by decide) (by decide)) chkC)
  have a2 : ts.getD 1 [] = tD := (h.tb 1 (by omega)).eq (TOk.chk (preT_lt (by decide) (by decide)) chkD)
  have hl := h.len
  match ts, hl with
  | [t, u], _ => simp at a1 a2; rw [a1, a2]
/-! ## binary search -/
def bsl (p : Nat → Bool) : Nat → Nat → Nat → Nat
  | 0, i, _ => i
  | fuel + 1, i, j => if i < j then (if p ((i + j) / 2) then bsl p fuel ((i + j) / 2 + 1) j else bsl p fuel i ((i + j) / 2)) else i
theorem bsl_le (p : Nat → Bool) : ∀ fuel i j, i ≤ j → bsl p fuel i j ≤ j
  | 0, i, j, h => h
  | fuel + 1, i, j, h => by
    rw [bsl]
    split
    · split
      · exact bsl_le p fuel _ _ (by omega)
      · exact Nat.le_trans (bsl_le p fuel _ _ (by omega)) (by omega)
    · exact h
def smallN (a : RelocateNode) : Bool := decide (-1000000 ≤ a.whole) && decide (a.whole ≤ 1000000) && (decide (-1000000 ≤ a.did) && decide (a.did ≤ 1000000))
def cmpN (a b : RelocateNode) : Int := if a.whole != b.whole then b.whole - a.whole else a.did - b.did
theorem smallN_iff {a : RelocateNode} : smallN a = true ↔ (-1000000 ≤ a.whole ∧ a.whole ≤ 1000000) ∧ (-1000000 ≤ a.did ∧ a.did ≤ 1000000) := by simp [smallN]
theorem S_cmpN {a b : RelocateNode} (ha : smallN a = true) (hb : smallN b = true) {post : Int → Prop} (hp : post (cmpN a b)) : V_relocate_search_add_1 a b post := by
  rw [smallN_iff] at ha hb
  unfold V_relocate_search_add_1
  unfold cmpN at hp
  refine Ite.mk (fun e => ?_) (fun e => ?_)
  · rw [if_pos e] at hp; rw [w64_eq (by omega) (by omega)]; exact hp
  · rw [if_neg (by rw [e]; simp)] at hp; rw [w64_eq (by omega) (by omega)]; exact hp
theorem half28 {i j : Nat} (h : i + j ≤ 1000000) : IntKind.wrap .i64 (shrI .u64 (IntKind.wrap .u64 (w64 ((i : Int) + (j : Int)))) 1) = (((i + j) / 2 : Nat) : Int) := by
  have e1 : IntKind.wrap .u64 (w64 ((i : Int) + (j : Int))) = (((i + j : Nat)) : Int) := by
    rw [w64_eq (by omega) (by omega), wu64 (by omega) (by omega)]; omega
  rw [e1, shrI]
  have e2 : (2 : Int) ^ (min (1 : Int).toNat IntKind.u64.bits) = 2 := by decide
  rw [e2, Int.fdiv_eq_ediv_of_nonneg _ (by decide)]
  exact (w64_eq (by omega) (by omega)).trans (by omega)
theorem S_bsf {xs : List RelocateNode} {m : RelocateNode} (hx : ∀ a, a ∈ xs → smallN a = true) (hm : smallN m = true) (hl : xs.length ≤ 1000) {post : Int × Bool → Prop} (hp : ∀ b, post ((bsl (fun h => decide (cmpN (xs.getD h m) m < 0)) xs.length 0 xs.length : Nat), b)) :
    V_slices_BinarySearchFunc_relocate_node_relocate_node_relocate_node__relocate_search_add_1 xs m post := by
  unfold V_slices_BinarySearchFunc_relocate_node_relocate_node_relocate_node__relocate_search_add_1
  have hget : ∀ h, h < xs.length → xs[h]? = some (xs.getD h m) := fun h hh => by rw [List.getD_eq_getElem?_getD, List.getElem?_eq_getElem hh]; rfl
  have hsm : ∀ h, h < xs.length → smallN (xs.getD h m) = true := fun h hh => hx _ (List.mem_of_getElem? (hget h hh))
  refine Jn.mk (fun x => x = ((bsl (fun h => decide (cmpN (xs.getD h m) m < 0)) xs.length 0 xs.length : Nat) : Int)) ?_ (fun x e => ?_)
  · intro X hX
    have key : ∀ fuel i j, i ≤ j → j ≤ xs.length → j - i ≤ fuel → bsl (fun h => decide (cmpN (xs.getD h m) m < 0)) fuel i j = bsl (fun h => decide (cmpN (xs.getD h m) m < 0)) xs.length 0 xs.length → X ((i : Int), (j : Int)) := by
      intro fuel
      induction fuel with
      | zero =>
        intro i j h1 h2 h3 h4
        refine hX _ X (Ite.nlt (by show ¬ (i : Int) < (j : Int); omega) ?_) (fun _ h => h)
        show (i : Int) = _
        rw [← h4]; rfl
      | succ fuel ih =>
        intro i j h1 h2 h3 h4
        rw [bsl] at h4
        by_cases c : i < j
        · rw [if_pos c] at h4
          refine hX _ X (Ite.lt (by show (i : Int) < (j : Int); omega) ?_) (fun _ h => h)
          simp only [half28 (i := i) (j := j) (by omega)]
          refine ⟨_, idx_of rfl (hget ((i + j) / 2) (by omega)), S_cmpN (hsm _ (by omega)) hm (Jn.mk (fun t => X t) (Ite.mk (fun e => ?_) (fun e => ?_)) (fun t ht => ht))⟩
          · rw [if_pos e] at h4
            have w : w64 ((((i + j) / 2 : Nat) : Int) + 1) = (((i + j) / 2 + 1 : Nat) : Int) := w64_1 (by omega)
            rw [w]
            exact ih _ _ (by omega) h2 (by omega) h4
          · rw [if_neg (by rw [e]; simp)] at h4
            exact ih _ _ (by omega) (by omega) (by omega) h4
        · rw [if_neg c] at h4
          refine hX _ X (Ite.nlt (by show ¬ (i : Int) < (j : Int); omega) ?_) (fun _ h => h)
          show (i : Int) = _
          rw [← h4]
    exact key xs.length 0 xs.length (Nat.zero_le _) (Nat.le_refl _) (by omega) rfl
  · subst e
    have hb := bsl_le (fun h => decide (cmpN (xs.getD h m) m < 0)) xs.length 0 xs.length (Nat.zero_le _)
    refine Jn.mk (fun _ => True) (Ite.mk (fun e => ?_) (fun _ => trivial)) (fun b _ => hp b)
    have e' : (((bsl (fun h => decide (cmpN (xs.getD h m) m < 0)) xs.length 0 xs.length : Nat)) : Int) < (xs.length : Int) := of_decide_eq_true e
    exact ⟨_, idx_of rfl (hget _ (by omega)), S_cmpN (hsm _ (by omega)) hm trivial⟩
/-! ## the search, followed -/
def okB (l : ApiLayout) : Bool := decide (l.Full.length = 4) && decide (l.Full.count true = 2) && (decide (0 ≤ l.Target) && decide (l.Full[l.Target.toNat]? = some true))
theorem okB_ok {l : ApiLayout} (h : okB l = true) : LOk 4 2 l := by
  unfold okB at h
  simp only [Bool.and_eq_true, decide_eq_true_eq] at h
  exact ⟨h.1.1, h.1.2, h.2.1, h.2.2⟩
abbrev RSt := List RelocateNode × List (Int × Int)
/-- a node is added -/
def addM (ts : List (List Int)) (n : RelocateNode) (s : RSt) : RSt :=
  let b := bnd 4 2 1 ts n.l
  if b < 0 ∨ ((lk s.2 n.rank).isSome = true ∧ (lk s.2 n.rank).getD 0 ≤ n.did) then s else
  let m : RelocateNode := { l := n.l, rank := n.rank, did := n.did, whole := n.did + b, before := n.before, shift := n.shift }
  let i := bsl (fun h => decide (cmpN (s.1.getD h m) m < 0)) s.1.length 0 s.1.length
  (s.1.take i ++ (m :: s.1.drop i), upd s.2 n.rank n.did)
theorem S_insertN {i : Nat} {xs : List RelocateNode} {m : RelocateNode} (hi : i ≤ xs.length) (hl : xs.length ≤ 1000) {post : List RelocateNode → Prop} (hp : post (xs.take i ++ (m :: xs.drop i))) : V_slices_Insert_relocate_node_relocate_node__o0_o1 (i : Int) xs [m] post := by
  unfold V_slices_Insert_relocate_node_relocate_node__o0_o1
  by_cases c : i = xs.length
  · left
    unfold V_slices_Insert_relocate_node_relocate_node__o0_o1_end
    refine ⟨⟨by omega, by omega, by omega⟩, Ite.f (by simp) (Ite.t (by simp [c]) ⟨by simp; omega, ?_⟩)⟩
    subst c
    rw [List.take_length, List.drop_length] at hp; exact hp
  · right
    refine ⟨⟨by omega, by omega⟩, by simp, by simp; omega, ?_⟩
    rw [Int.toNat_natCast]; exact hp
section
variable {ts : List (List Int)} {goal c : Int} {n : RelocateNode} {op : List RelocateNode} {be : List (Int × Int)}
/-- it may be followed -/
def addOk (ts : List (List Int)) (n : RelocateNode) (op : List RelocateNode) : Bool := okB n.l && (op.all smallN && decide (op.length ≤ 1000)) && (decide (0 ≤ n.did) && decide (n.did ≤ 1000)) && decide (bnd 4 2 1 ts n.l ≤ 1000)
theorem S_addN (h : Db rowF r4 4 1 goal ts) (hok : addOk ts n op = true) {W H D : Int} {kd ot r : List Int} {g : Int} {dn : List (Int × RelocateNode)} {post : (Int × Int × Int × List Int × List Int × List Int × Int × List RelocateNode × List (Int × RelocateNode) × List (Int × Int) × PatternDB) → Prop}
    (hp : post (W, H, D, kd, ot, r, g, (addM ts n (op, be)).1, dn, (addM ts n (op, be)).2, { cells := c, goal := goal, tables := ts })) : V_relocate_search_add__p0_v2 n W H D kd ot r g op dn be { cells := c, goal := goal, tables := ts } post := by
  unfold addOk at hok
  simp only [Bool.and_eq_true, decide_eq_true_eq, List.all_eq_true] at hok
  obtain ⟨⟨⟨h1, h2, h3⟩, h4, h5⟩, h6⟩ := hok
  unfold V_relocate_search_add__p0_v2
  refine S_Bound h (okB_ok h1) ?_
  unfold addM at hp
  simp only at hp
  have hlow : -1 ≤ bnd 4 2 1 ts n.l := by rcases bnd_is (K := 1) (ts := ts) (okB_ok h1) with ⟨_, e⟩ | ⟨_, e, _⟩ <;> omega
  generalize bnd 4 2 1 ts n.l = b at *
  have hno : (b < 0 ∨ ((lk be n.rank).isSome = true ∧ (lk be n.rank).getD 0 ≤ n.did)) → post (W, H, D, kd, ot, r, g, op, dn, be, { cells := c, goal := goal, tables := ts }) := fun e => by rw [if_pos e] at hp; exact hp
  refine Jn.mk (fun x => x = decide (b < 0 ∨ ((lk be n.rank).isSome = true ∧ (lk be n.rank).getD 0 ≤ n.did))) (Ite.mk (fun e => ?_) (fun e => Ite.mk (fun e2 => ?_) (fun e2 => ?_))) (fun x e => Ite.mk (fun e2 => ?_) (fun e2 => ?_))
  · exact (decide_eq_true (.inl (of_decide_eq_true e))).symm
  · have e' := of_decide_eq_false e
    show decide _ = decide _
    simp [e', e2]
  · have e' := of_decide_eq_false e
    exact (decide_eq_false (by rintro (h | ⟨h, _⟩); exact e' h; rw [e2] at h; cases h)).symm
  · rw [e] at e2; exact hno (of_decide_eq_true e2)
  · rw [e] at e2
    have e3 := of_decide_eq_false e2
    rw [if_neg e3] at hp
    have w : w64 (n.did + b) = n.did + b := w64_eq (by omega) (by omega)
    rw [w]
    refine S_bsf h2 (smallN_iff.2 ⟨⟨by show -1000000 ≤ n.did + b; omega, by show n.did + b ≤ 1000000; omega⟩, by show -1000000 ≤ n.did; omega, by show n.did ≤ 1000000; omega⟩) h3 (fun bb => S_insertN (bsl_le _ _ _ _ (Nat.zero_le _)) h3 hp)
end
/-- the shifts of a node, one after the other -/
def simI (ts : List (List Int)) (x : RelocateNode) : List ApiShift → RSt → Option RSt
  | [], s => some s
  | q :: qs, s =>
    let l' := doL x.l q.From.toNat q.To.toNat
    let nn : RelocateNode := { l := l', rank := (rank 4 2 l' : Nat), did := x.did + 1, whole := 0, before := x.rank, shift := q }
    if addOk ts nn s.1 = true then simI ts x qs (addM ts nn s) else none
def nodeZ : RelocateNode := { l := { Full := [], Target := 0 }, rank := 0, did := 0, whole := 0, before := 0, shift := { From := 0, To := 0 } }
/-- how long the way to a node is -/
def wayN (dn : List (Int × RelocateNode)) : Nat → RelocateNode → Option Nat
  | 0, _ => none
  | fuel + 1, n => if n.before ≥ 0 then (wayN dn fuel ((lk dn n.before).getD nodeZ)).map (· + 1) else some 0
/-- the search: how long the solution is; none if there is none -/
def sim (ts : List (List Int)) (goal : Int) : Nat → List RelocateNode → List (Int × RelocateNode) → List (Int × Int) → Option (Option Nat)
  | 0, _, _, _ => none
  | fuel + 1, op, dn, be =>
    if op.length = 0 then some none else
    let x := op.getD (op.length - 1) nodeZ
    let op' := op.take (op.length - 1)
    if op.length ≤ 1000 ∧ okB x.l = true ∧ 0 ≤ x.did ∧ x.did ≤ 900 then
      if x.did > (lk be x.rank).getD 0 then sim ts goal fuel op' dn be else
      if x.l.Target = goal then (wayN dn 100 x).map some else
      match simI ts x (btw rowF r4 x.l true) (op', be) with
      | some s => sim ts goal fuel s.1 (upd dn x.rank x) s.2
      | none => none
    else none
theorem S_reverseS {xs : List ApiShift} (hl : xs.length ≤ 1000) {post : List ApiShift → Prop} (hp : ∀ ys, ys.length = xs.length → post ys) : V_slices_Reverse_api_Shift_api_Shift__o0 xs post := by
  unfold V_slices_Reverse_api_Shift_api_Shift__o0
  refine Jn.mk (fun ys => ys.length = xs.length) (Loop.mk (fun (s : List ApiShift × Int × Int) => s.1.length = xs.length ∧ 0 ≤ s.2.1 ∧ s.2.2 < xs.length ∧ s.2.1 ≤ 1000) (fun s => (s.2.2 - s.2.1).toNat) ⟨rfl, by simp, by show w64 ((xs.length : Int) - 1) < xs.length; rw [w64_eq (by omega) (by omega)]; omega, by simp⟩ (fun s hI => ?_)) (fun ys h => hp ys h)
  obtain ⟨l, i, j⟩ := s
  obtain ⟨h1, h2, h3, h4⟩ := hI
  replace h1 : l.length = xs.length := h1
  replace h2 : 0 ≤ i := h2
  replace h3 : j < xs.length := h3
  refine Ite.mk (fun e => ?_) (fun e => h1)
  have e' : i < j := of_decide_eq_true e
  obtain ⟨a, rfl⟩ : ∃ a : Nat, i = (a : Int) := ⟨i.toNat, by omega⟩
  obtain ⟨b, rfl⟩ : ∃ b : Nat, j = (b : Int) := ⟨j.toNat, by omega⟩
  have ha : l[a]? = some (l[a]'(by omega)) := List.getElem?_eq_getElem _
  have hb : l[b]? = some (l[b]'(by omega)) := List.getElem?_eq_getElem _
  have hc : (l.set a (l[b]'(by omega)))[b]? = some (l[b]'(by omega)) := by rw [List.getElem?_set_ne (by omega)]; exact hb
  refine ⟨_, idx_of rfl hb, _, idx_of rfl ha, _, idx_of rfl hc, ⟨by simp [h1], ?_, ?_, ?_⟩, ?_⟩
  · show 0 ≤ w64 ((a : Int) + 1); rw [w64_eq (by omega) (by omega)]; omega
  · show w64 ((b : Int) - 1) < _; rw [w64_eq (by omega) (by omega)]; omega
  · show w64 ((a : Int) + 1) ≤ 1000; rw [w64_eq (by omega) (by omega)]; omega
  · show (w64 ((b : Int) - 1) - w64 ((a : Int) + 1)).toNat < ((b : Int) - (a : Int)).toNat
    rw [w64_eq (by omega) (by omega), w64_eq (by omega) (by omega)]; omega
theorem S_wayN {s : RelocateSearch} {fuel k : Nat} (hf : fuel ≤ 1000) {n : RelocateNode} (h : wayN s.done fuel n = some k) {post : List ApiShift → Prop} (hp : ∀ ys, ys.length = k → post ys) : V_relocate_search_way s n post := by
  unfold V_relocate_search_way
  refine Jn.mk (fun ys => ys.length = k) ?_ (fun ys hy => S_reverseS (by
    have : ∀ fuel n k, wayN s.done fuel n = some k → k ≤ fuel := by
      intro fuel
      induction fuel with
      | zero => intro n k h; cases h
      | succ fuel ih =>
        intro n k h
        rw [wayN] at h
        split at h
        · obtain ⟨k', h1, h2⟩ := Option.map_eq_some_iff.1 h
          have := ih _ _ h1; omega
        · cases h; omega
    have := this _ _ _ h; omega) (fun zs hz => hp zs (hz.trans hy)))
  intro X hX
  have key : ∀ (fuel : Nat) (n : RelocateNode) (k0 : Nat) (acc : List ApiShift), wayN s.done fuel n = some k0 → acc.length + k0 = k → acc.length + fuel ≤ 2000 → X (n.l.Full, n.l.Target, n.rank, n.did, n.whole, n.before, n.shift.From, n.shift.To, acc) := by
    intro fuel
    induction fuel with
    | zero => intro n k0 acc h; cases h
    | succ fuel ih =>
      intro n k0 acc h h2 h3
      rw [wayN] at h
      refine hX _ X (Ite.mk (fun e => ?_) (fun e => ?_)) (fun _ h => h)
      · have e' : n.before ≥ 0 := of_decide_eq_true e
        rw [if_pos e'] at h
        obtain ⟨k', h4, h5⟩ := Option.map_eq_some_iff.1 h
        refine ⟨by show acc.length + 1 ≤ _; omega, ?_⟩
        exact ih ((lk s.done n.before).getD nodeZ) k' _ h4 (by simp; omega) (by simp; omega)
      · have e' : ¬ n.before ≥ 0 := of_decide_eq_false e
        rw [if_neg e'] at h
        cases h
        show acc.length = k; omega
  exact key fuel n k [] h (by simp) (by simp; omega)
end Go.Taq

/- The mathematics of relocation, part CB: the search, followed at the examples; they hold. -/
set_option linter.unusedVariables false
set_option linter.unusedSimpArgs false
namespace Go.Taq
open Go
theorem S_run {ts : List (List Int)} {goal : Int} (h : Db rowF r4 4 1 goal ts) {l : ApiLayout} (hl : okB l = true) {k : Option Nat} {fuel : Nat} (hf : fuel ≤ 1000)
    (h0 : addOk ts { l := l, rank := (rank 4 2 l : Nat), did := 0, whole := 0, before := -1, shift := { From := 0, To := 0 } } [] = true)
    (hs : sim ts goal fuel (addM ts { l := l, rank := (rank 4 2 l : Nat), did := 0, whole := 0, before := -1, shift := { From := 0, To := 0 } } ([], [])).1 [] (addM ts { l := l, rank := (rank 4 2 l : Nat), did := 0, whole := 0, before := -1, shift := { From := 0, To := 0 } } ([], [])).2 = some k)
    {post : (List ApiShift × Bool × Int × Int × Int × List Int × List Int × List Int × Int × List RelocateNode × List (Int × RelocateNode) × List (Int × Int) × PatternDB) → Prop}
    (hN : k = none → ∀ y, post ([], false, y)) (hY : ∀ m, k = some m → ∀ xs : List ApiShift, xs.length = m → ∀ y, post (xs, true, y)) :
    V_relocate_search_run__p0_v2 l rowF.W rowF.H rowF.D rowF.Kind rowF.Out r4 goal [] [] [] { cells := (4 : Nat), goal := goal, tables := ts } post := by
  unfold V_relocate_search_run__p0_v2
  have hlo := okB_ok hl
  refine S_Rank (n := 4) (k := 2) (by decide) (by decide) (by decide) hlo (S_addN h h0 ?_)
  refine Jn.mk (fun (x : Int × Int × Int × List Int × List Int × List Int × Int × Int × Int × List (List Int) × List RelocateNode × List (Int × RelocateNode) × List (Int × Int)) => k = none) ?_ (fun x hx => hN hx _)
  intro X hX
  have key : ∀ (fuel : Nat) (op : List RelocateNode) (dn : List (Int × RelocateNode)) (be : List (Int × Int)), sim ts goal fuel op dn be = some k → X (rowF.W, rowF.H, rowF.D, rowF.Kind, rowF.Out, r4, goal, ((4 : Nat) : Int), goal, ts, op, dn, be) := by
    intro fuel
    induction fuel with
    | zero => intro op dn be h; cases h
    | succ fuel ih =>
      intro op dn be hsim
      rw [sim] at hsim
      by_cases c0 : op.length = 0
      · rw [if_pos c0] at hsim
        refine hX _ X (Ite.f (by show decide ((op.length : Int) > 0) = false; rw [c0]; decide) ?_) (fun _ h => h)
        exact (Option.some.inj hsim).symm
      · rw [if_neg c0] at hsim
        simp only at hsim
        by_cases c1 : op.length ≤ 1000 ∧ okB (op.getD (op.length - 1) nodeZ).l = true ∧ 0 ≤ (op.getD (op.length - 1) nodeZ).did ∧ (op.getD (op.length - 1) nodeZ).did ≤ 900
        · rw [if_pos c1] at hsim
          obtain ⟨b1, b2, b3, b4⟩ := c1
          have hx : op[op.length - 1]? = some (op.getD (op.length - 1) nodeZ) := by rw [List.getD_eq_getElem?_getD, List.getElem?_eq_getElem (by omega)]; rfl
          generalize op.getD (op.length - 1) nodeZ = x at hsim b2 b3 b4 hx
          have hlx := okB_ok b2
          have w : w64 ((op.length : Int) - 1) = ((op.length - 1 : Nat) : Int) := by rw [w64_eq (by omega) (by omega)]; omega
          have hsub : sub op 0 ((op.length - 1 : Nat) : Int) = op.take (op.length - 1) := by
            simp only [sub]
            show (List.drop 0 op).take _ = _
            rw [List.drop_zero]; congr 1
          refine hX _ X (Ite.t (by show decide ((op.length : Int) > 0) = true; simp; omega) ?_) (fun _ h => h)
          simp only [w, hsub]
          refine Jn.mk (fun t => X t) ⟨x, idx_of rfl hx, ⟨by omega, by omega, by omega⟩, ?_⟩ (fun t ht => ht)
          by_cases c2 : x.did > (lk be x.rank).getD 0
          · rw [if_pos c2] at hsim
            exact Ite.t (decide_eq_true c2) (ih _ _ _ hsim)
          · rw [if_neg c2] at hsim
            refine Ite.f (decide_eq_false c2) ?_
            by_cases c3 : x.l.Target = goal
            · rw [if_pos c3] at hsim
              obtain ⟨m, h1, h2⟩ := Option.map_eq_some_iff.1 hsim
              exact Ite.t (by simpa using c3) (S_wayN (fuel := 100) (by decide) h1 (fun ys hy => hY m h2.symm ys hy _))
            · rw [if_neg c3] at hsim
              refine Ite.f (by simpa using c3) ?_
              unfold V_layout_Shifts
              refine S_shifts (f := rowF) (r := r4) (l := x.l) RF_row (by rw [hlx.len]; rfl) (by rw [hlx.len]; decide) Asc_r4 ?_
              have hbl := btw_len (f := rowF) (r := r4) (l := x.l) (full := true) (by rw [hlx.len]; decide)
              have hbk : ∀ s, s ∈ btw rowF r4 x.l true → ∃ a b : Nat, s = { From := (a : Int), To := (b : Int) } ∧ x.l.Full[a]? = some true ∧ x.l.Full[b]? = some false := fun s hs => by
                obtain ⟨a, b, e1, e2, e3, _⟩ := back_ok hs
                exact ⟨a, b, e1, e2, by simpa using e3⟩
              generalize btw rowF r4 x.l true = qs at hsim hbl hbk
              cases hI : simI ts x qs (op.take (op.length - 1), be) with
              | none => rw [hI] at hsim; cases hsim
              | some s =>
                rw [hI] at hsim
                have w900 : w64 (x.did + 1) = x.did + 1 := w64_eq (by omega) (by omega)
                refine Jn.mk (fun t => t = (rowF.W, rowF.H, rowF.D, rowF.Kind, rowF.Out, r4, goal, ((4 : Nat) : Int), goal, ts, s.1, upd dn x.rank x, s.2)) ?_ (fun t e => by subst e; exact ih _ _ _ hsim)
                refine Loop.inv qs.length (fun i (t : Int × Int × Int × List Int × List Int × List Int × Int × Int × Int × List (List Int) × List RelocateNode × List (Int × RelocateNode) × List (Int × Int) × Int) =>
                  ∃ u : RSt, t = (rowF.W, rowF.H, rowF.D, rowF.Kind, rowF.Out, r4, goal, ((4 : Nat) : Int), goal, ts, u.1, upd dn x.rank x, u.2, (i : Int)) ∧ simI ts x (qs.drop i) u = some s) ⟨_, rfl, hI⟩ (fun i t hi hT => ?_) (fun t hT => ?_)
                · obtain ⟨u, rfl, hu⟩ := hT
                  have hq : qs[i]? = some (qs[i]'hi) := List.getElem?_eq_getElem hi
                  have hmem := List.mem_of_getElem? hq
                  rw [List.drop_eq_getElem_cons hi, simI] at hu
                  generalize qs[i]'hi = q at hq hmem hu
                  obtain ⟨a, b, rfl, h1, h2⟩ := hbk q hmem
                  simp only [Int.toNat_natCast] at hu
                  split at hu
                  · rename_i hadd
                    have hdl := hlx.doL h1 h2
                    have w1 : w64 ((i : Int) + 1) = ((i + 1 : Nat) : Int) := w64_1 (by omega)
                    refine Ite.lt (by show (i : Int) < _; omega) ⟨_, idx_of rfl hq, S_Do h1 h2 (by rw [hlx.len]; decide) (S_Rank (n := 4) (k := 2) (l := doL x.l a b) (by decide) (by decide) (by decide) hdl ?_)⟩
                    simp only [w900, w1]
                    exact S_addN h hadd ⟨_, rfl, hu⟩
                  · cases hu
                · obtain ⟨u, rfl, hu⟩ := hT
                  rw [List.drop_length, simI] at hu
                  cases hu
                  exact Ite.nlt (by show ¬ (qs.length : Int) < _; omega) rfl
        · rw [if_neg c1] at hsim; cases hsim
  exact key fuel _ _ _ hs
def l28 : ApiLayout := { Full := [true, true, false, false], Target := 0 }
theorem row_tables3 {ts : List (List Int)} (h : Db rowF r4 4 1 3 ts) : ts = [tA, tB] := by
  have := row_tables (by decide) h
  rw [if_neg (by decide)] at this; exact this
theorem S_containsS {xs : List ApiShift} (hl : xs.length ≤ 1000) {v : ApiShift} (hv : v ∈ xs) {post : Bool → Prop} (hp : post true) : V_slices_Contains_api_Shift_api_Shift xs v post := by
  unfold V_slices_Contains_api_Shift_api_Shift V_slices_Index_api_Shift_api_Shift
  refine Jn.mk (fun _ => False) (Loop.inv xs.length (fun i (s : Int) => s = (i : Int) ∧ ∀ j, j < i → xs[j]? ≠ some v) ⟨rfl, fun j h => by omega⟩ (fun i s hi hI => ?_) (fun s hI => ?_)) (fun _ h => h.elim)
  · obtain ⟨rfl, hI⟩ := hI
    have hx : xs[i]? = some (xs[i]'hi) := List.getElem?_eq_getElem hi
    generalize xs[i]'hi = x at hx
    refine Ite.lt (by omega) ⟨x, idx_of rfl hx, Ite.mk (fun e => ?_) (fun e => ⟨w64_1 (by omega), fun j hj => ?_⟩)⟩
    · have : decide ((i : Int) ≥ 0) = true := decide_eq_true (by omega)
      show post (decide ((i : Int) ≥ 0))
      rw [this]; exact hp
    · by_cases e2 : j = i
      · subst e2
        rw [hx]; intro h
        cases h
        simp at e
      · exact hI j (by omega)
  · obtain ⟨rfl, hI⟩ := hI
    obtain ⟨j, hj, e⟩ := List.mem_iff_getElem.1 hv
    exact absurd (by rw [List.getElem?_eq_getElem hj, e]) (hI j hj)
theorem S_SameTrips {a : List (List Int)} (ha : a.length ≤ 1000) (hr : ∀ x, x ∈ a → x.length ≤ 1000) {post : Bool → Prop} (hp : post true) : V_taquinref28_SameTrips a a post := by
  unfold V_taquinref28_SameTrips
  refine Ite.f (by simp) (Jn.mk (fun _ => True) (Loop.inv a.length (fun i (s : Int) => s = (i : Int)) rfl (fun i s hi hI => ?_) (fun s hI => ?_)) (fun _ _ => hp))
  · subst hI
    have hx : a[i]? = some (a[i]'hi) := List.getElem?_eq_getElem hi
    have hxl := hr _ (List.mem_of_getElem? hx)
    generalize a[i]'hi = x at hx hxl
    refine Ite.lt (by omega) (Jn.mk (fun _ => True) ⟨x, idx_of rfl hx, x, idx_of rfl hx, Ite.f (by simp) (Jn.mk (fun _ => True) (Loop.inv x.length (fun j (s : Int) => s = (j : Int)) rfl (fun j s hj hJ => ?_) (fun s hJ => ?_)) (fun _ _ => trivial))⟩ (fun _ _ => w64_1 (by omega)))
    · subst hJ
      have hy : x[j]? = some (x[j]'hj) := List.getElem?_eq_getElem hj
      exact ⟨x, idx_of rfl hx, Ite.lt (by omega) ⟨_, idx_of rfl hy, x, idx_of rfl hx, _, idx_of rfl hy, Ite.f (by simp) (w64_1 (by omega))⟩⟩
    · subst hJ; exact ⟨x, idx_of rfl hx, Ite.nlt (by omega) trivial⟩
  · subst hI; exact Ite.nlt (by omega) trivial
/-! ## trips -/
/-- the trip of some shifts, each of which begins where the one before it ends -/
def Trip (seg : List ApiShift) (row : List Int) : Prop := 1 ≤ seg.length ∧ row.length = seg.length + 1 ∧ ∀ (k : Nat) (s : ApiShift), seg[k]? = some s → row[k]? = some s.From ∧ row[k + 1]? = some s.To
theorem Trip.one (s : ApiShift) : Trip [s] [s.From, s.To] := by
  refine ⟨by simp, rfl, fun k q h => ?_⟩
  cases k with
  | zero => simp at h; subst h; exact ⟨rfl, rfl⟩
  | succ k => simp at h
theorem Trip.snoc {seg : List ApiShift} {row : List Int} (h : Trip seg row) {s : ApiShift} (hs : row[row.length - 1]? = some s.From) : Trip (seg ++ [s]) (row ++ [s.To]) := by
  obtain ⟨h1, h2, h3⟩ := h
  refine ⟨by simp, by simp [h2], fun k q hq => ?_⟩
  by_cases c : k < seg.length
  · rw [List.getElem?_append_left c] at hq
    obtain ⟨a, b⟩ := h3 k q hq
    exact ⟨by rw [List.getElem?_append_left (by omega)]; exact a, by rw [List.getElem?_append_left (by omega)]; exact b⟩
  · rw [List.getElem?_append_right (by omega)] at hq
    have hk : k = seg.length := by
      have := (List.getElem?_eq_some_iff.1 hq).1
      simp at this; omega
    subst hk
    simp at hq; subst hq
    refine ⟨?_, ?_⟩
    · rw [List.getElem?_append_left (by omega)]
      rw [show row.length - 1 = seg.length by omega] at hs; exact hs
    · rw [List.getElem?_append_right (by omega), h2, Nat.sub_self]; rfl
/-- the trips of shifts -/
structure TrI (p : List ApiShift) (t : List (List Int)) (segs : List (List ApiShift)) : Prop where
  fl : segs.flatten = p
  ln : segs.length = t.length
  tr : ∀ (i : Nat) (seg : List ApiShift) (row : List Int), segs[i]? = some seg → t[i]? = some row → Trip seg row
  ap : ∀ (i : Nat) (a b : List Int), t[i]? = some a → t[i + 1]? = some b → b[0]? ≠ a[a.length - 1]?
theorem TrI.nil : TrI [] [] [] := ⟨rfl, rfl, fun i seg row h => by simp at h, fun i a b h => by simp at h⟩
theorem TrI.last {p : List ApiShift} {t : List (List Int)} {segs : List (List ApiShift)} (h : TrI p t segs) {s : ApiShift} (hs : p.getLast? = some s) : ∃ segs' seg t' row, segs = segs' ++ [seg] ∧ t = t' ++ [row] ∧ segs'.length = t'.length ∧ Trip seg row ∧ row[row.length - 1]? = some s.To := by
  have hne : segs ≠ [] := by
    rintro rfl
    have := h.fl
    simp at this; subst this; simp at hs
  obtain ⟨segs', seg, rfl⟩ : ∃ a b, segs = a ++ [b] := ⟨segs.dropLast, segs.getLast hne, (List.dropLast_concat_getLast hne).symm⟩
  have hln := h.ln
  have hne2 : t ≠ [] := by rintro rfl; simp at hln
  obtain ⟨t', row, rfl⟩ : ∃ a b, t = a ++ [b] := ⟨t.dropLast, t.getLast hne2, (List.dropLast_concat_getLast hne2).symm⟩
  have hl : segs'.length = t'.length := by simpa using hln
  have hT : Trip seg row := h.tr segs'.length seg row (by simp) (by rw [hl]; simp)
  refine ⟨segs', seg, t', row, rfl, rfl, hl, hT, ?_⟩
  obtain ⟨h1, h2, h3⟩ := hT
  have hfl := h.fl
  have hsegne : seg ≠ [] := by rintro rfl; simp at h1
  have hq : seg[seg.length - 1]? = some s := by
    rw [← hfl] at hs
    rw [List.flatten_append] at hs
    simp only [List.flatten_cons, List.flatten_nil, List.append_nil] at hs
    rw [List.getLast?_append, List.getLast?_eq_getElem? (l := seg)] at hs
    have hx : seg[seg.length - 1]? = some (seg[seg.length - 1]'(by omega)) := List.getElem?_eq_getElem _
    rw [hx] at hs ⊢
    simpa using hs
  have := (h3 _ _ hq).2
  rw [show row.length - 1 = seg.length - 1 + 1 by omega]; exact this
theorem TrI.new {p : List ApiShift} {t : List (List Int)} {segs : List (List ApiShift)} (h : TrI p t segs) {s : ApiShift} (hs : ∀ q, p.getLast? = some q → q.To ≠ s.From) : TrI (p ++ [s]) (t ++ [[s.From, s.To]]) (segs ++ [[s]]) := by
  refine ⟨by simp [h.fl], by simp [h.ln], fun i seg row h1 h2 => ?_, fun i a b h1 h2 => ?_⟩
  · by_cases c : i < segs.length
    · rw [List.getElem?_append_left c] at h1
      rw [List.getElem?_append_left (by rw [← h.ln]; exact c)] at h2
      exact h.tr i seg row h1 h2
    · rw [List.getElem?_append_right (by omega)] at h1
      rw [List.getElem?_append_right (by rw [← h.ln]; omega)] at h2
      have hi : i = segs.length := by have := (List.getElem?_eq_some_iff.1 h1).1; simp at this; omega
      subst hi
      rw [h.ln] at h1 h2
      simp at h1 h2; subst h1; subst h2
      exact .one s
  · by_cases c : i + 1 < t.length
    · rw [List.getElem?_append_left (by omega)] at h1
      rw [List.getElem?_append_left c] at h2
      exact h.ap i a b h1 h2
    · rw [List.getElem?_append_right (by omega)] at h2
      have hi : i + 1 = t.length := by have := (List.getElem?_eq_some_iff.1 h2).1; simp at this; omega
      rw [hi, Nat.sub_self] at h2
      simp at h2; subst h2
      rw [List.getElem?_append_left (by omega)] at h1
      have hpne : p ≠ [] := by
        rintro rfl
        have h3 := h.fl
        have h4 : segs = [] := by
          cases segs with
          | nil => rfl
          | cons x xs =>
            exfalso
            have hx0 : t[0]? = some (t[0]'(by omega)) := List.getElem?_eq_getElem _
            have := (h.tr 0 x _ rfl hx0).1
            simp at h3
            rw [h3.1] at this; simp at this
        have := h.ln
        rw [h4] at this; simp at this; omega
      have hg : p.getLast? = some (p.getLast hpne) := List.getLast?_eq_some_getLast hpne
      obtain ⟨segs', seg, t', row, _, ht, hl, _, hrow⟩ := h.last hg
      have ha : a = row := by
        rw [ht] at h1 hi
        have : i = t'.length := by simp at hi; omega
        rw [this] at h1; simp at h1; exact h1.symm
      rw [ha, hrow]
      show some s.From ≠ _
      intro e
      exact hs _ hg (Option.some.inj e).symm
theorem TrI.go {p : List ApiShift} {t : List (List Int)} {segs : List (List ApiShift)} (h : TrI p t segs) {s q : ApiShift} (hq : p.getLast? = some q) (hs : q.To = s.From) : ∃ t' row segs', t = t' ++ [row] ∧ TrI (p ++ [s]) (t' ++ [row ++ [s.To]]) segs' := by
  obtain ⟨segs', seg, t', row, rfl, rfl, hl, hT, hrow⟩ := h.last hq
  refine ⟨t', row, segs' ++ [seg ++ [s]], rfl, ⟨?_, by simp [hl], fun i sg rw' h1 h2 => ?_, fun i a b h1 h2 => ?_⟩⟩
  · have := h.fl
    rw [← this]; simp
  · by_cases c : i < segs'.length
    · rw [List.getElem?_append_left c] at h1
      rw [List.getElem?_append_left (by omega)] at h2
      exact h.tr i sg rw' (by rw [List.getElem?_append_left c]; exact h1) (by rw [List.getElem?_append_left (by omega)]; exact h2)
    · rw [List.getElem?_append_right (by omega)] at h1
      rw [List.getElem?_append_right (by omega)] at h2
      have hi : i = segs'.length := by have := (List.getElem?_eq_some_iff.1 h1).1; simp at this; omega
      subst hi
      rw [Nat.sub_self] at h1
      rw [hl, Nat.sub_self] at h2
      simp at h1 h2; subst h1; subst h2
      exact hT.snoc (by rw [hrow, hs])
  · have hlr : row ≠ [] := by rintro rfl; have := hT.2.1; simp at this
    by_cases c : i + 1 < t'.length
    · rw [List.getElem?_append_left (by omega)] at h1
      rw [List.getElem?_append_left c] at h2
      exact h.ap i a b (by rw [List.getElem?_append_left (by omega)]; exact h1) (by rw [List.getElem?_append_left c]; exact h2)
    · rw [List.getElem?_append_right (by omega)] at h2
      have hi : i + 1 = t'.length := by have := (List.getElem?_eq_some_iff.1 h2).1; simp at this; omega
      rw [hi, Nat.sub_self] at h2
      simp at h2; subst h2
      rw [List.getElem?_append_left (by omega)] at h1
      have := h.ap i a row (by rw [List.getElem?_append_left (by omega)]; exact h1) (by rw [List.getElem?_append_right (by omega), hi, Nat.sub_self]; rfl)
      rw [List.getElem?_append_left (List.length_pos_iff.2 hlr)]; exact this
theorem S_Trips {shifts : List ApiShift} (hl : shifts.length ≤ 1000) {post : List (List Int) → Prop} (hp : ∀ t segs, TrI shifts t segs → post t) : V_relocate_Trips shifts post := by
  unfold V_relocate_Trips
  refine Jn.mk (fun t => ∃ segs, TrI shifts t segs) (Loop.inv shifts.length (fun i (s : List (List Int) × Int) => s.2 = (i : Int) ∧ s.1.length ≤ i ∧ (∀ row, row ∈ s.1 → row.length ≤ i + 1) ∧ ∃ segs, TrI (shifts.take i) s.1 segs) ⟨rfl, Nat.le_refl _, fun row h => by simp at h, [], by simpa using TrI.nil⟩ (fun i s hi hI => ?_) (fun s hI => ?_)) (fun t ⟨segs, h⟩ => hp t segs h)
  · obtain ⟨t, c⟩ := s
    obtain ⟨rfl, hlen, hrow, segs, hT⟩ := hI
    replace hlen : t.length ≤ i := hlen
    replace hrow : ∀ row, row ∈ t → row.length ≤ i + 1 := hrow
    have hx : shifts[i]? = some (shifts[i]'hi) := List.getElem?_eq_getElem hi
    have htk : shifts.take (i + 1) = shifts.take i ++ [shifts[i]'hi] := by rw [List.take_add_one, hx]; rfl
    generalize shifts[i]'hi = x at hx htk
    have w1 : w64 ((i : Int) + 1) = ((i + 1 : Nat) : Int) := w64_1 (by omega)
    simp only [w1]
    refine Ite.lt (by show (i : Int) < _; omega) ⟨x, idx_of rfl hx, ?_⟩
    have hlast : ∀ q, (shifts.take i).getLast? = some q → 0 < i ∧ shifts[i - 1]? = some q := fun q hq => by
      rw [List.getLast?_eq_getElem?, List.length_take] at hq
      have h0 : 0 < i := by
        rcases Nat.eq_zero_or_pos i with h | h
        · subst h; simp at hq
        · exact h
      rw [show min i shifts.length - 1 = i - 1 by omega, List.getElem?_take_of_lt (by omega)] at hq
      exact ⟨h0, hq⟩
    refine Jn.mk (fun b => (b = true → ∃ q, (shifts.take i).getLast? = some q ∧ q.To = x.From) ∧ (b = false → ∀ q, (shifts.take i).getLast? = some q → q.To ≠ x.From)) ?_ (fun b hb => ?_)
    · refine Ite.mk (fun e => ?_) (fun e => ⟨fun h => (by cases h), fun _ q hq => ?_⟩)
      · have h0 : 0 < i := by have := of_decide_eq_true e; omega
        have hy : shifts[i - 1]? = some (shifts[i - 1]'(by omega)) := List.getElem?_eq_getElem _
        have hgl : (shifts.take i).getLast? = some (shifts[i - 1]'(by omega)) := by
          rw [List.getLast?_eq_getElem?, List.length_take, show min i shifts.length - 1 = i - 1 by omega, List.getElem?_take_of_lt (by omega)]; exact hy
        generalize shifts[i - 1]'(by omega) = y at hy hgl
        refine ⟨y, by rw [w64_p (by omega) (by omega)]; exact idx_of rfl hy, fun h => ⟨y, hgl, by simpa using h⟩, fun h q hq => ?_⟩
        rw [hgl] at hq; cases hq; simpa using h
      · have := (hlast q hq).1
        have h' := of_decide_eq_false e
        omega
    · refine Jn.mk (fun (t' : List (List Int)) => t'.length ≤ i + 1 ∧ (∀ row, row ∈ t' → row.length ≤ i + 2) ∧ ∃ segs, TrI (shifts.take (i + 1)) t' segs) (Ite.mk (fun e => ?_) (fun e => ?_)) (fun t' ht' => ⟨trivial, ht'⟩)
      · obtain ⟨q, hq, hqs⟩ := hb.1 e
        obtain ⟨t', row, segs', rfl, hN⟩ := hT.go hq hqs
        have hl' : t'.length + 1 ≤ i := by simpa using hlen
        have w : w64 ((((t' ++ [row]).length : Nat) : Int) - 1) = (t'.length : Int) := by
          have e1 : (((t' ++ [row]).length : Nat) : Int) = (t'.length : Int) + 1 := by simp
          rw [e1, w64_eq (by omega) (by omega)]; omega
        have hrl : row.length ≤ i + 1 := hrow row (by simp)
        simp only [w, Int.toNat_natCast]
        refine ⟨row, idx_of rfl (by simp), by simp; omega, ?_⟩
        have hset : (t' ++ [row]).set t'.length (row ++ [x.To]) = t' ++ [row ++ [x.To]] := by simp
        rw [hset]
        refine ⟨by simp; omega, fun r' hr' => ?_, segs', by rw [htk]; exact hN⟩
        rcases List.mem_append.1 hr' with h | h
        · have := hrow r' (by simp [h]); omega
        · simp at h; subst h; simp; omega
      · have hN := hT.new (s := x) (hb.2 e)
        have hset : (t ++ [[x.From, x.To]]).set t.length [x.From, x.To] = t ++ [[x.From, x.To]] := by simp
        refine ⟨by show t.length + 1 ≤ _; omega, ?_⟩
        show ((t ++ [[x.From, x.To]]).set t.length [x.From, x.To]).length ≤ i + 1 ∧ _
        rw [hset]
        refine ⟨by simp; omega, fun r' hr' => ?_, segs ++ [[x]], by rw [htk]; exact hN⟩
        rcases List.mem_append.1 hr' with h | h
        · have := hrow r' h; omega
        · simp at h; subst h; simp
  · obtain ⟨t, c⟩ := s
    obtain ⟨rfl, _, _, segs, hT⟩ := hI
    rw [List.take_length] at hT
    exact Ite.nlt (by show ¬ (shifts.length : Int) < _; omega) ⟨segs, hT⟩
end Go.Taq

/- The law RelocateTrips, in plain data. -/
set_option linter.unusedVariables false
set_option linter.unusedSimpArgs false
namespace Go.Taq
open Go
def ex28 : List ApiShift := [{ From := 1, To := 2 }, { From := 2, To := 3 }, { From := 0, To := 1 }, { From := 1, To := 2 }]
theorem row28 : ({ W := 4, H := 1, D := 1, Kind := ([1, 1, 1, 1] : List Int), Out := ([1, w64 (1 + 4), w64 (1 + 4), 4] : List Int) } : ApiFloor) = rowF := by decide +kernel
theorem solve_head {goal : Int} (hg : 0 ≤ goal ∧ goal < 4) {post : (List ApiShift × Int) → Prop} (hrun : ∀ ts, Db rowF r4 4 1 goal ts → V_relocate_search_run__p0_v2 l28 rowF.W rowF.H rowF.D rowF.Kind rowF.Out r4 goal [] [] [] { cells := (4 : Nat), goal := goal, tables := ts } (fun x42 => Ite (!x42.2.1) (post ([], 14)) (post (x42.1, 0)))) : V_relocate_Solve__o0 rowF l28 goal 1 r4 post := by
  unfold V_relocate_Solve__o0
  have hl1 : lim 4 1 := lim10 (by decide)
  refine Jn.mk (fun b => b = false) (Ite.f (by decide) (by decide)) (fun b e => Ite.f e ?_)
  have w : imin 1 (w64 ((r4.length : Int) - 1)) = 1 := by decide +kernel
  rw [w]
  refine S_Build (n := 4) RF_row rfl (by decide) Asc_r4 (fun h => absurd ⟨hg.1, hg.2, by decide, by decide⟩ h) (fun _ h => absurd hl1 h) (fun K eK _ _ ts hD => ?_)
  obtain rfl : K = 1 := by omega
  refine Ite.f rfl (S_Shelves (by decide) ?_)
  have hc : ((l28.Full.count true : Nat) : Int) = ((2 : Nat) : Int) := by decide
  rw [hc]
  refine S_Count (n := 4) (k := 2) (by decide) (by decide) (by decide) (Ite.f (by decide +kernel) (hrun ts hD))
theorem S_TripsEx {post : List (List Int) → Prop} (hp : post [[1, 2, 3], [0, 1, 2]]) : V_relocate_Trips ex28 post := by
  unfold V_relocate_Trips
  let st : Nat → List (List Int) := fun i => match i with
    | 0 => []
    | 1 => [[1, 2]]
    | 2 => [[1, 2, 3]]
    | 3 => [[1, 2, 3], [0, 1]]
    | _ => [[1, 2, 3], [0, 1, 2]]
  refine Jn.mk (fun t => t = [[1, 2, 3], [0, 1, 2]]) (Loop.inv 4 (fun i (s : List (List Int) × Int) => s = (st i, (i : Int))) rfl (fun i s hi hI => ?_) (fun s hI => ?_)) (fun t e => by subst e; exact hp)
  · subst hI
    have hi' : i = 0 ∨ i = 1 ∨ i = 2 ∨ i = 3 := by omega
    rcases hi' with e | e | e | e <;> subst e
    · refine Ite.t (by decide) ⟨{ From := 1, To := 2 }, by decide, ?_⟩
      refine Jn.mk (fun b => b = false) (Ite.f (by decide) rfl) (fun b e => ?_)
      subst e
      exact Jn.mk (fun t => t = st 1) (Ite.f rfl ⟨by decide, rfl⟩) (fun t e => by subst e; decide +kernel)
    · refine Ite.t (by decide) ⟨{ From := 2, To := 3 }, by decide, ?_⟩
      refine Jn.mk (fun b => b = true) (Ite.t (by decide) ⟨{ From := 1, To := 2 }, by decide +kernel, by decide⟩) (fun b e => ?_)
      subst e
      exact Jn.mk (fun t => t = st 2) (Ite.t rfl ⟨[1, 2], by decide +kernel, by decide, by decide +kernel⟩) (fun t e => by subst e; decide +kernel)
    · refine Ite.t (by decide) ⟨{ From := 0, To := 1 }, by decide, ?_⟩
      refine Jn.mk (fun b => b = false) (Ite.t (by decide) ⟨{ From := 2, To := 3 }, by decide +kernel, by decide⟩) (fun b e => ?_)
      subst e
      exact Jn.mk (fun t => t = st 3) (Ite.f rfl ⟨by decide, rfl⟩) (fun t e => by subst e; decide +kernel)
    · refine Ite.t (by decide) ⟨{ From := 1, To := 2 }, by decide, ?_⟩
      refine Jn.mk (fun b => b = true) (Ite.t (by decide) ⟨{ From := 0, To := 1 }, by decide +kernel, by decide⟩) (fun b e => ?_)
      subst e
      exact Jn.mk (fun t => t = st 4) (Ite.t rfl ⟨[0, 1], by decide +kernel, by decide, by decide +kernel⟩) (fun t e => by subst e; decide +kernel)
  · subst hI
    exact Ite.f (by decide) rfl
theorem S_small28 {post : Bool → Prop} (hp : post true) : V_taquinlaw28_small post := by
  unfold V_taquinlaw28_small V_taquinlaw28_row
  rw [row28]
  show V_relocate_Solve__o0 rowF l28 3 1 r4 _
  refine solve_head (goal := 3) (by decide) (fun ts hD => ?_)
  obtain rfl := row_tables3 hD
  refine S_run hD (l := l28) (by decide) (k := none) (fuel := 5) (by decide) (by decide +kernel) (by decide +kernel) (fun _ y => Ite.t rfl ?_) (fun m h => by cases h)
  show V_relocate_Solve__o0 rowF l28 2 1 r4 _
  refine solve_head (goal := 2) (by decide) (fun us hU => ?_)
  obtain rfl := row_tables2 hU
  refine S_run hU (l := l28) (by decide) (k := some 4) (fuel := 30) (by decide) (by decide +kernel) (by decide +kernel) (fun h => by cases h) (fun m hm xs hxs y => Ite.f rfl ?_)
  cases hm
  have hchk : ∀ {post : (Int × Int) → Prop}, post (-1, 0) → V_relocate_Check rowF r4 l28 2 ex28 post := fun {post} hpost => by
    unfold V_relocate_Check
    have sh : ∀ {l : ApiLayout}, l.Full.length = 4 → ∀ {post : List ApiShift → Prop}, post (btw rowF r4 l true) → V_layout_Shifts rowF r4 l post := fun {l} hl {post} h => by
      unfold V_layout_Shifts
      exact S_shifts (f := rowF) (r := r4) (l := l) RF_row (by rw [hl]; rfl) (by rw [hl]; decide) Asc_r4 h
    let st : Nat → ApiLayout := fun i => match i with
      | 0 => l28
      | 1 => doL l28 1 2
      | 2 => doL (doL l28 1 2) 2 3
      | 3 => doL (doL (doL l28 1 2) 2 3) 0 1
      | _ => doL (doL (doL (doL l28 1 2) 2 3) 0 1) 1 2
    refine Jn.mk (fun t => t = ((st 4).Full, (st 4).Target)) (Loop.inv 4 (fun i (s : List Bool × Int × Int) => s = ((st i).Full, (st i).Target, (i : Int))) rfl (fun i s hi hI => ?_) (fun s hI => ?_)) (fun t e => by subst e; exact Ite.f (by decide) hpost)
    · subst hI
      have stp : ∀ (i a b : Nat), ex28[i]? = some { From := (a : Int), To := (b : Int) } → (st i).Full.length = 4 → (st i).Full[a]? = some true → (st i).Full[b]? = some false → ({ From := (a : Int), To := (b : Int) } : ApiShift) ∈ btw rowF r4 (st i) true → st (i + 1) = doL (st i) a b → i < 4 →
          Ite (decide ((i : Int) < (ex28.length : Int))) (∃ x14, idx ex28 (i : Int) = some x14 ∧ V_layout_Shifts rowF r4 ({ Full := (st i).Full, Target := (st i).Target : ApiLayout }) 
          (fun x17 => V_slices_Contains_api_Shift_api_Shift x17 x14 
            (fun x18 => Ite (!x18) (post ((i : Int), 13)) 
              (V_layout_Do ({ Full := (st i).Full, Target := (st i).Target : ApiLayout }) x14 (fun x24 => (x24.1.Full, x24.1.Target, w64 ((i : Int) + 1)) = ((st (i + 1)).Full, (st (i + 1)).Target, ((i + 1 : Nat) : Int))))))) (((st i).Full, (st i).Target) = ((st 4).Full, (st 4).Target)) := fun i a b h1 h2 h3 h4 h5 h6 h7 =>
        Ite.lt (by have : ex28.length = 4 := rfl; rw [this]; omega) ⟨_, idx_of rfl h1, sh (l := st i) h2 (S_containsS (Nat.le_trans (btw_len (by rw [h2]; decide)) (by decide)) h5 (Ite.f rfl (S_Do (l := st i) h3 h4 (by rw [h2]; decide) (by rw [h6, w64_1 (by omega)]))))⟩
      have hi' : i = 0 ∨ i = 1 ∨ i = 2 ∨ i = 3 := by omega
      rcases hi' with e | e | e | e <;> subst e
      · exact stp 0 1 2 rfl (by decide) (by decide) (by decide) (by decide +kernel) rfl (by decide)
      · exact stp 1 2 3 rfl (by decide) (by decide) (by decide) (by decide +kernel) rfl (by decide)
      · exact stp 2 0 1 rfl (by decide) (by decide) (by decide) (by decide +kernel) rfl (by decide)
      · exact stp 3 1 2 rfl (by decide) (by decide) (by decide) (by decide +kernel) rfl (by decide)
    · subst hI
      exact Ite.nlt (by show ¬ ((4 : Nat) : Int) < ((ex28.length : Nat) : Int); decide) rfl
  refine hchk (S_TripsEx ?_)
  refine Jn.mk (fun b => b = true) (Ite.t (by decide) (Ite.t rfl (Ite.t (by show ((xs.length : Int) == 4) = true; rw [hxs]; rfl) (Ite.t (by decide) (Ite.t (by decide) (S_SameTrips (by decide) (by decide) rfl)))))) (fun b e => by subst e; exact hp)
end Go.Taq

/- The law RelocateTrips, in plain data (2). -/
set_option linter.unusedVariables false
set_option linter.unusedSimpArgs false
namespace Go.Taq
open Go
theorem flat_at {α : Type} {ss : List (List α)} {i : Nat} {s : List α} (h : ss[i]? = some s) : ss.flatten = (ss.take i).flatten ++ (s ++ (ss.drop (i + 1)).flatten) ∧ (ss.take (i + 1)).flatten = (ss.take i).flatten ++ s := by
  have hlt := (List.getElem?_eq_some_iff.1 h).1
  have e := (List.getElem?_eq_some_iff.1 h).2
  constructor
  · conv => lhs; rw [← List.take_append_drop i ss, List.drop_eq_getElem_cons hlt, e]
    simp
  · rw [List.take_add_one, h]; simp
theorem Said_taquinlaw28_RelocateTrips (shifts : List ApiShift) (k0 : (OkL OkApiShift) shifts) : V_taquinlaw28_RelocateTrips shifts (fun y => y = true) := by
  unfold V_taquinlaw28_RelocateTrips
  refine S_small28 (Ite.mk (fun _ => rfl) (fun e => ?_))
  have hl : shifts.length ≤ 60 := by have := of_decide_eq_false e; omega
  refine S_Trips (by omega) (fun t segs hT => ?_)
  refine Jn.mk (fun n => n = (shifts.length : Int)) (Loop.inv t.length (fun i (s : Int × Int) => s = ((((segs.take i).flatten.length : Nat) : Int), (i : Int)) ∧ i ≤ (segs.take i).flatten.length) ⟨by simp, by simp⟩ (fun i s hi hI => ?_) (fun s hI => ?_)) (fun n e => ?_)
  · obtain ⟨rfl, hoff⟩ := hI
    have hr : t[i]? = some (t[i]'hi) := List.getElem?_eq_getElem hi
    have hs : segs[i]? = some (segs[i]'(by rw [hT.ln]; exact hi)) := List.getElem?_eq_getElem _
    generalize t[i]'hi = row at hr
    generalize segs[i]'(by rw [hT.ln]; exact hi) = seg at hs
    obtain ⟨hT1, hT2, hT3⟩ := hT.tr i seg row hs hr
    obtain ⟨hf1, hf2⟩ := flat_at hs
    rw [hT.fl] at hf1
    rw [hf2]
    generalize (segs.take i).flatten = p at *
    have hlen : p.length + seg.length ≤ shifts.length := by rw [hf1]; simp
    have hat : ∀ k, k < seg.length → shifts[p.length + k]? = seg[k]? := fun k hk => by
      rw [hf1, List.getElem?_append_right (by omega), show p.length + k - p.length = k by omega, List.getElem?_append_left hk]
    have hti : i ≤ 60 := by omega
    refine Ite.lt (by show (i : Int) < _; omega) ?_
    refine Jn.mk (fun x => x = ((p.length + seg.length : Nat) : Int)) ⟨row, idx_of rfl hr, Ite.nlt (by show ¬ (row.length : Int) < 2; omega) ?_⟩ (fun x e => ?_)
    · refine Jn.mk (fun x => x = ((p.length + seg.length : Nat) : Int)) (Loop.inv seg.length (fun k (s : Int × Int) => s = (((p.length + k : Nat) : Int), ((k + 1 : Nat) : Int))) rfl (fun k s hk hI => ?_) (fun s hI => ?_)) (fun x e => ?_)
      · subst hI
        obtain ⟨s, hsk⟩ : ∃ s, seg[k]? = some s := ⟨_, List.getElem?_eq_getElem hk⟩
        obtain ⟨a1, a2⟩ := hT3 k s hsk
        refine ⟨row, idx_of rfl hr, Ite.lt (by show ((k + 1 : Nat) : Int) < _; omega) (Ite.f (decide_eq_false (by show ¬ ((p.length + k : Nat) : Int) ≥ _; omega)) ?_)⟩
        have w : w64 (((k + 1 : Nat) : Int) - 1) = (k : Int) := by rw [w64_eq (by omega) (by omega)]; omega
        refine Jn.mk (fun b => b = false) ⟨s, idx_of rfl (by rw [hat k hk]; exact hsk), s.From, idx_of w a1, Ite.f (by simp) ⟨s.To, idx_of rfl a2, by simp⟩⟩ (fun b e => Ite.f e ?_)
        show (w64 (((p.length + k : Nat) : Int) + 1), w64 (((k + 1 : Nat) : Int) + 1)) = _
        rw [w64_1 (by omega), w64_1 (by omega)]; rfl
      · subst hI
        exact ⟨row, idx_of rfl hr, Ite.nlt (by show ¬ ((seg.length + 1 : Nat) : Int) < _; omega) rfl⟩
      · subst e
        refine Jn.mk (fun b => b = false) (Ite.mk (fun e => ?_) (fun _ => rfl)) (fun b e => Ite.f e rfl)
        have h0 : (0 : Int) < (i : Int) := of_decide_eq_true e
        have h0' : 0 < i := by omega
        have w : imax (w64 ((i : Int) - 1)) 0 = ((i - 1 : Nat) : Int) := by rw [w64_p (by omega) h0']; simp only [imax]; omega
        obtain ⟨q, hq⟩ : ∃ q, t[i - 1]? = some q := ⟨_, List.getElem?_eq_getElem (by omega)⟩
        obtain ⟨sg, hsg⟩ : ∃ s, segs[i - 1]? = some s := ⟨_, List.getElem?_eq_getElem (by rw [hT.ln]; omega)⟩
        obtain ⟨q1, q2, _⟩ := hT.tr _ _ _ hsg hq
        have hap := hT.ap (i - 1) q row hq (by rw [show i - 1 + 1 = i by omega]; exact hr)
        obtain ⟨a, ha⟩ : ∃ a, row[0]? = some a := ⟨_, List.getElem?_eq_getElem (by omega)⟩
        obtain ⟨b, hb⟩ : ∃ b, q[q.length - 1]? = some b := ⟨_, List.getElem?_eq_getElem (by omega)⟩
        have hqle : q.length ≤ 1000 := by
          have := (flat_at hsg).1
          rw [hT.fl] at this
          have := congrArg List.length this
          simp at this
          omega
        refine ⟨a, idx_of rfl ha, q, idx_of w hq, b, idx_of (w64_p (by omega) (by omega)) hb, ?_⟩
        rw [ha, hb] at hap
        show (a == b) = false
        simpa using hap
    · subst e
      refine ⟨?_, by simp; omega⟩
      show (((p.length + seg.length : Nat) : Int), w64 ((i : Int) + 1)) = _
      rw [w64_1 (by omega)]; simp
  · obtain ⟨rfl, hoff⟩ := hI
    refine Ite.nlt (by show ¬ (t.length : Int) < _; omega) ?_
    rw [← hT.ln, List.take_length, hT.fl]
  · subst e
    exact Jn.mk (fun b => b = true) (Ite.t rfl (by simp)) (fun b e => e)
end Go.Taq
