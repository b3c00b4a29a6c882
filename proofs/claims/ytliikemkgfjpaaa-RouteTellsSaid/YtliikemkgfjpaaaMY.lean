/- The mathematics, part Y: the cells of a walk; the route tells what the reference tells. -/
import Derived.Test.YtliikemkgfjpaaaMX
set_option linter.unusedVariables false
namespace Go.Taq
open Go
/-- where one is after an action -/
def moveA (f : ApiFloor) (c a : Int) : Int := if 1 ≤ a ∧ a < 7 ∧ (nx f c (a - 1)).2 = true then (nx f c (a - 1)).1 else c
def cellsL (f : ApiFloor) : Int → List Int → List Int
  | c, [] => [c]
  | c, a :: r => c :: cellsL f (moveA f c a) r
def cellsF (s : ApiSite) (c : Int) (acts : List Int) : List Int := if isC s.Floor c = true then cellsL s.Floor c acts else []
theorem cellsL_cons (f : ApiFloor) (c : Int) (l : List Int) : cellsL f c l = c :: (cellsL f c l).tail := by cases l <;> rfl
theorem cellsL_len (f : ApiFloor) : ∀ (l : List Int) (c : Int), (cellsL f c l).length = l.length + 1
  | [], c => rfl
  | a :: l, c => by simp [cellsL, cellsL_len f l]
theorem moveA_w {f : ApiFloor} (h : RF f) {c a : Int} (ka : I64 a) : (if (nx f c (w64 (a - 1))).2 = true then (nx f c (w64 (a - 1))).1 else c) = moveA f c a := by
  unfold moveA
  by_cases h1 : 1 ≤ a ∧ a < 7
  · rw [w64_eq (by omega) (by omega)]; simp [h1]
  · have h2 : (nx f c (w64 (a - 1))).2 = false := by
      cases hh : (nx f c (w64 (a - 1))).2
      · rfl
      · have := nx_ok h hh
        exfalso
        unfold I64 at ka
        by_cases h3 : a = -9223372036854775808
        · subst h3
          have e : w64 (-9223372036854775808 - 1) = 9223372036854775807 := by decide
          rw [e] at this; omega
        · rw [w64_eq (by omega) (by omega)] at this; omega
    rw [if_neg (by simp [h2]), if_neg (fun e => h1 ⟨e.1, e.2.1⟩)]
section
variable {s : ApiSite} {c : Int} {acts : List Int}
theorem S_route_Cells (h : RF s.Floor) (ha : acts.length ≤ 1000000) (ka : ∀ x, x ∈ acts → I64 x) {post : List Int → Prop} (hp : post (cellsF s c acts)) : V_route_Cells s c acts post := by
  unfold V_route_Cells
  have hm : acts.length ≤ maxLen := by simp [maxLen]; omega
  refine Jor2 (Ite.mk (fun h1 => ?_) (fun h1 => ?_))
  · have : isC s.Floor c = false := by simp at h1; simp [isC]; omega
    simp only [cellsF, this] at hp; exact hp
  · have hc : isC s.Floor c = true := by simp at h1; simp [isC]; omega
    simp only [cellsF, hc, if_true] at hp
    refine Jn.mk (fun out => out = cellsL s.Floor c acts) (Loop.inv acts.length (fun i (t : Int × List Int × Int) => t.2.2 = (i : Int) ∧ t.2.1.length = i + 1 ∧ t.2.1 ++ (cellsL s.Floor t.1 (acts.drop i)).tail = cellsL s.Floor c acts) ⟨rfl, rfl, (cellsL_cons _ _ _).symm⟩ (fun i t hi hI => ?_) (fun t hI => ?_)) (fun _ e => e ▸ hp)
    · obtain ⟨cur, out, j⟩ := t
      obtain ⟨e, hl, hI⟩ := hI
      simp only at e hl hI; subst e
      have hx : acts[i]? = some (acts[i]'hi) := List.getElem?_eq_getElem hi
      generalize hxe : acts[i]'hi = x at hx
      have hd : acts.drop i = x :: acts.drop (i + 1) := by rw [List.drop_eq_getElem_cons hi, hxe]
      refine Ite.lt (by simp only []; omega) ⟨x, idx_of rfl hx, S_floor_Next h ?_⟩
      have hw := moveA_w h (c := cur) (ka x (List.mem_of_getElem? hx))
      refine Jn.eq (moveA s.Floor cur x) (Ite.mk (fun g => ?_) (fun g => ?_)) ⟨by simp only [List.length_cons, List.length_nil]; omega, w64_nat hi hm, by simp [hl], ?_⟩
      · rw [← hw, if_pos g]
      · rw [← hw, if_neg (by simp [g])]
      · rw [hd, cellsL] at hI
        simp only [List.append_assoc, List.singleton_append]
        rw [← cellsL_cons]; exact hI
    · obtain ⟨cur, out, j⟩ := t
      obtain ⟨e, hl, hI⟩ := hI
      simp only at e hl hI; subst e
      refine Ite.nlt (by simp) ?_
      rw [List.drop_length] at hI
      simpa [cellsL] using hI
theorem S_ref23_Cells (h : RF s.Floor) (ha : acts.length ≤ 1000000) {post : List Int → Prop} (hp : post (cellsF s c acts)) : V_taquinref23_Cells s c acts post := by
  unfold V_taquinref23_Cells
  have hm : acts.length ≤ maxLen := by simp [maxLen]; omega
  refine S_ref07_Is h (Ite.mk (fun h1 => ?_) (fun h1 => ?_))
  · have : isC s.Floor c = false := by simpa using h1
    simp only [cellsF, this] at hp; exact hp
  · have hc : isC s.Floor c = true := by simpa using h1
    simp only [cellsF, hc, if_true] at hp
    refine Jn.mk (fun out => out = cellsL s.Floor c acts) (Loop.inv acts.length (fun i (t : List Int × Int) => t.2 = (i : Int) ∧ t.1.length = i + 1 ∧ ∃ pre cur, t.1 = pre ++ [cur] ∧ t.1 ++ (cellsL s.Floor cur (acts.drop i)).tail = cellsL s.Floor c acts) ⟨rfl, rfl, [], c, rfl, (cellsL_cons _ _ _).symm⟩ (fun i t hi hI => ?_) (fun t hI => ?_)) (fun _ e => e ▸ hp)
    · obtain ⟨out, j⟩ := t
      obtain ⟨e, hl, pre, cur, ho, hI⟩ := hI
      simp only at e hl ho hI; subst e
      have hx : acts[i]? = some (acts[i]'hi) := List.getElem?_eq_getElem hi
      generalize hxe : acts[i]'hi = x at hx
      have hd : acts.drop i = x :: acts.drop (i + 1) := by rw [List.drop_eq_getElem_cons hi, hxe]
      have hpl : pre.length = i := by rw [ho] at hl; simpa using hl
      refine Ite.lt (by simp only []; omega) ⟨cur, ?_, ?_⟩
      · refine idx_of (n := i) ?_ ?_
        · rw [w64_eq (by simp only []; omega) (by simp only []; omega)]; simp only [hl]; omega
        · simp only [ho]; rw [List.getElem?_append_right (by omega), hpl]; simp
      · refine Jn.ex x (idx_of rfl hx) (Jand2 (Jn.eq (moveA s.Floor cur x) (Ite.mk (fun g => ⟨x, idx_of rfl hx, ?_⟩) (fun g => ?_)) ⟨by simp only [List.length_cons, List.length_nil]; omega, w64_nat hi hm, by simp [hl], out, moveA s.Floor cur x, rfl, ?_⟩))
        · simp only [Bool.and_eq_true, decide_eq_true_eq] at g
          rw [w64_eq (by omega) (by omega)]
          refine S_ref07_Next h (by omega) (Jn.mk' (Ite.mk (fun g2 => ?_) (fun g2 => ?_)))
          · unfold moveA; rw [if_pos ⟨g.1, g.2, g2⟩]
          · unfold moveA; rw [if_neg (by simp [g2])]
        · simp only [Bool.and_eq_false_iff, decide_eq_false_iff_not] at g
          unfold moveA; rw [if_neg (by omega)]
        · rw [hd, cellsL] at hI
          simp only [List.append_assoc, List.singleton_append]
          rw [← cellsL_cons]; exact hI
    · obtain ⟨out, j⟩ := t
      obtain ⟨e, hl, pre, cur, ho, hI⟩ := hI
      simp only at e hl ho hI; subst e
      refine Ite.nlt (by simp) ?_
      rw [List.drop_length] at hI
      simpa [cellsL] using hI
end
theorem lex_asym {u v : List Int} (h1 : LexLt u v) (h2 : LexLt v u) : False := by
  obtain ⟨i, x, y, a1, a2, a3, a4⟩ := h1
  obtain ⟨j, x', y', b1, b2, b3, b4⟩ := h2
  rcases Nat.lt_trichotomy i j with e | e | e
  · have : (v.take j)[i]? = (u.take j)[i]? := by rw [b1]
    rw [List.getElem?_take, List.getElem?_take, if_pos e, if_pos e, a2, a3] at this
    cases this; omega
  · subst e; rw [a2] at b3; rw [a3] at b2; cases b3; cases b2; omega
  · have : (u.take i)[j]? = (v.take i)[j]? := by rw [a1]
    rw [List.getElem?_take, List.getElem?_take, if_pos e, if_pos e, b2, b3] at this
    cases this; omega
theorem Said_taquinlaw23_RouteTells (s : ApiSite) (ks : OkApiSite s) (a : Int) (ka : I64 a) (b : Int) (kb : I64 b) (tick : Int) (kt : I64 tick) (taken : List ApiTaken) (ktk : OkL OkApiTaken taken) (avoid : List Int) (kav : OkL I64 avoid) (most : Int) (km : I64 most) (acts : List Int) (ko : OkL I64 acts) :
    V_taquinlaw23_RouteTells s a b tick taken avoid most acts (fun y => y = true) := by
  unfold V_taquinlaw23_RouteTells
  refine S_law23_small ?_
  refine Jn.mk (fun x => x = true ∨ (x = false ∧ RSite s ∧ taken.length ≤ 30 ∧ acts.length ≤ 40)) (S_law23_fair ks (Ite.f rfl (.inl rfl)) (fun hr _ _ h1 h2 => Ite.t rfl ?_)) (fun x hx => ?_)
  · have : ∀ {P : Bool → Prop}, (P = fun x => x = true ∨ (x = false ∧ RSite s ∧ taken.length ≤ 30 ∧ acts.length ≤ 40)) → P (decide ((acts.length : Int) > 40)) := fun {P} e => by
      subst e
      cases hb : decide ((acts.length : Int) > 40)
      · simp at hb; exact .inr ⟨rfl, hr, h1, by omega⟩
      · exact .inl rfl
    exact Ite.mk (fun _ => Ite.mk (fun _ => .inl rfl) (fun _ => this rfl)) (fun _ => this rfl)
  rcases hx with rfl | ⟨rfl, hr, h1, h5⟩
  · exact Ite.t rfl rfl
  refine Ite.f rfl ?_
  have htk : taken.length ≤ maxLen := by simp [maxLen]; omega
  have rest : V_route_Check s a b tick taken avoid acts (fun x19 => V_taquinref23_Check s a b tick taken avoid acts (fun x20 => Ite (x19 == x20) (V_route_Cells s a acts (fun x22 => V_taquinref23_Cells s a acts (fun x23 => V_taquinref07_Same x22 x23 (fun x24 => x24 = true)))) (false = true))) := by
    refine S_route_Check ks hr.rs kav.1 (by omega) (by omega) (S_ref23_Check ks hr kav.1 htk (by omega) (Ite.t (by simp) (S_route_Cells hr.fl (by omega) ko.2 (S_ref23_Cells hr.fl (by omega) (S_ref07_Same ?_ (by simp))))))
    unfold cellsF; split
    · rw [cellsL_len]; simp [maxLen]; omega
    · simp [maxLen]
  refine S_route_Find ks hr.rs kav.1 (by omega) (fun g1 => ?_) (fun g0 g1 => ?_) (fun g0 g1 g2 g3 => ?_) (fun g0 g1 g2 r gr grl gm => ?_)
  · refine S_ref23_Find ks hr kav.1 htk (fun _ => ?_) (fun q0 q1 => ?_) (fun q0 q1 q2 q3 => ?_) (fun q0 q1 q2 r' gr' grl' gm' => ?_)
    · exact Jn.eq false (Ite.f rfl (S_ref07_Same (by simp [maxLen]) (by simp))) (Ite.f rfl (Jn.mk' (Ite.t rfl rest)))
    · rcases g1 with g1 | g1; (rw [q0] at g1; cases g1); omega
    · rcases g1 with g1 | g1; (rw [q0] at g1; cases g1); omega
    · rcases g1 with g1 | g1; (rw [q0] at g1; cases g1); omega
  · refine S_ref23_Find ks hr kav.1 htk (fun q1 => ?_) (fun q0 q1 => ?_) (fun q0 q1 q2 q3 => ?_) (fun q0 q1 q2 r' gr' grl' gm' => ?_)
    · rcases q1 with q1 | q1; (rw [g0] at q1; cases q1); omega
    · exact Jn.eq false (Ite.f rfl (S_ref07_Same (by simp [maxLen]) (by simp))) (Ite.f rfl (Jn.mk' (Ite.t rfl rest)))
    · omega
    · omega
  · refine S_ref23_Find ks hr kav.1 htk (fun q1 => ?_) (fun q0 q1 => ?_) (fun q0 q1 q2 q3 => ?_) (fun q0 q1 q2 r' gr' grl' gm' => ?_)
    · rcases q1 with q1 | q1; (rw [g0] at q1; cases q1); omega
    · omega
    · exact Jn.eq false (Ite.f rfl (S_ref07_Same (by simp [maxLen]) (by simp))) (Ite.f rfl (Jn.mk' (Ite.t rfl rest)))
    · have := g3 _ gr'; omega
  · refine S_ref23_Find ks hr kav.1 htk (fun q1 => ?_) (fun q0 q1 => ?_) (fun q0 q1 q2 q3 => ?_) (fun q0 q1 q2 r' gr' grl' gm' => ?_)
    · rcases q1 with q1 | q1; (rw [g0] at q1; cases q1); omega
    · omega
    · have := q3 _ gr; omega
    · have e : r' = r := by
        obtain ⟨m1, m2⟩ := gm r' gr'
        obtain ⟨m3, m4⟩ := gm' r gr
        rcases m2 (by omega) with e | e
        · exact e
        · rcases m4 (by omega) with e2 | e2
          · exact e2.symm
          · exact (lex_asym e e2).elim
      subst e
      exact Jn.eq false (Ite.f rfl (S_ref07_Same (by simp [maxLen]; omega) (by simp))) (Ite.f rfl (Jn.mk' (Ite.t rfl rest)))
end Go.Taq
