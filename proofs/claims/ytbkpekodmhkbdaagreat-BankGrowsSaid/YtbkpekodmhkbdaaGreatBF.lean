/- The mathematics, several parts in one text. -/
import Derived.Test.YtbkpekodmhkbdaaGreatBB
/- The mathematics, part BC: region.Of, right homes, who is home, the bounds of the statements of chapter 21. -/
set_option linter.unusedVariables false
set_option linter.unusedSimpArgs false
namespace Go.Taq
open Go

theorem w64_p {x : Int} (h1 : -1000000 ≤ x) (h2 : x ≤ 1000000000) : w64 x = x := w64_eq (by omega) (by omega)
theorem w64_1 {n : Nat} (h : n ≤ 1000000000) : w64 ((n : Int) + 1) = ((n + 1 : Nat) : Int) := by rw [w64_eq (by omega) (by omega)]; simp
def cmI {α : Type} [DecidableEq α] (xs : List α) : Nat → List α
  | 0 => []
  | i + 1 => cmI xs i ++ (if i = 0 ∨ xs[i]? ≠ xs[i - 1]? then xs[i]?.toList else [])
section
variable {α : Type} [DecidableEq α] {xs : List α}
theorem cmI_same {i : Nat} (h : 1 ≤ i) (e : xs[i]? = xs[i - 1]?) : cmI xs (i + 1) = cmI xs i := by
  rw [cmI, if_neg (by intro h; rcases h with h | h; omega; exact h e)]; simp
theorem cmI_new {i : Nat} {x : α} (h : xs[i]? = some x) (e : i = 0 ∨ xs[i]? ≠ xs[i - 1]?) : cmI xs (i + 1) = cmI xs i ++ [x] := by
  rw [cmI, if_pos e, h]; rfl
end
theorem S_CompactI {xs : List Int} (hl : xs.length ≤ 1000000) {post : List Int → Prop} (hp : post (cmI xs xs.length)) : V_slices_Compact_int_int__o0 xs post := by
  unfold V_slices_Compact_int_int__o0
  refine Ite.mk (fun h => ?_) (fun h => ?_)
  · have h' : (xs.length : Int) < 2 := of_decide_eq_true h
    have : cmI xs xs.length = xs := by
      match xs, h' with
      | [], _ => rfl
      | [x], _ => rfl
      | _ :: _ :: _, h' => simp at h'; omega
    rw [this] at hp; exact hp
  have h' : ¬ (xs.length : Int) < 2 := of_decide_eq_false h
  have all : cmI xs xs.length = xs → post xs := fun e => by rw [e] at hp; exact hp
  refine Jn.mk (fun _ => post xs) (Loop.inv (xs.length - 1) (fun i (s : Int) => s = ((i + 1 : Nat) : Int) ∧ cmI xs (i + 1) = xs.take (i + 1)) ⟨rfl, ?_⟩ (fun i s hi hI => ?_) (fun s hI => ?_)) (fun _ h => h)
  · have hx : xs[0]? = some (xs[0]'(by omega)) := List.getElem?_eq_getElem (by omega)
    rw [cmI_new hx (.inl rfl), List.take_add_one, hx]; rfl
  · obtain ⟨rfl, hI⟩ := hI
    have hx : xs[i + 1]? = some (xs[i + 1]'(by omega)) := List.getElem?_eq_getElem (by omega)
    have hx0 : xs[i]? = some (xs[i]'(by omega)) := List.getElem?_eq_getElem (by omega)
    generalize hxv : xs[i + 1]'(by omega) = x at hx
    generalize hyv : xs[i]'(by omega) = y at hx0
    have w1 : w64 (((i + 1 : Nat) : Int) - 1) = (i : Int) := by rw [w64_p (by omega) (by omega)]; simp
    refine Ite.lt (by omega) (Jn.mk (fun _ => cmI xs (i + 2) = xs.take (i + 2)) ⟨x, idx_of rfl hx, y, idx_of w1 hx0, Ite.mk (fun e => ?_) (fun e => ?_)⟩ (fun _ e => ⟨w64_1 (by omega), e⟩))
    · have e' : x = y := by simpa using e
      have hsame : cmI xs (i + 1 + 1) = cmI xs (i + 1) := cmI_same (by omega) (by simp only [Nat.add_sub_cancel]; rw [hx, hx0, e'])
      have hn2 : Int.toNat ((xs.length : Int) - ((i + 1 : Nat) : Int)) = xs.length - (i + 1) := by omega
      simp only [hn2, Int.toNat_natCast]
      refine ⟨⟨by omega, by omega, by omega⟩, Jn.mk (fun (t : List Int × Int) => ∃ kk : Nat, t.2 = (kk : Int) ∧ t.1.length = xs.length ∧ kk ≤ xs.length ∧ t.1.take kk = cmI xs xs.length)
        (Loop.inv (xs.length - (i + 1) - 1) (fun j (t : List Int × Int × Int) => t.2.2 = ((j + 1 : Nat) : Int) ∧ ∃ kk : Nat, t.2.1 = (kk : Int) ∧ t.1.length = xs.length ∧ kk ≤ i + 1 + j ∧ t.1.take kk = cmI xs (i + 1 + j + 1) ∧ ∀ q, i + 1 + j ≤ q → t.1[q]? = xs[q]?)
          ⟨rfl, i + 1, rfl, rfl, by omega, by rw [Nat.add_zero, hsame, hI], fun q _ => rfl⟩ (fun j t hj hJ => ?_) (fun t hJ => ?_)) (fun t hJ => ?_)⟩
      · obtain ⟨ys, kk', q⟩ := t
        obtain ⟨rfl, kk, rfl, hyl, hkk, htk, hsm⟩ := hJ
        replace hyl : ys.length = xs.length := hyl
        replace htk : ys.take kk = cmI xs (i + 1 + j + 1) := htk
        replace hsm : ∀ q, i + 1 + j ≤ q → ys[q]? = xs[q]? := hsm
        have wj : w64 (((j + 1 : Nat) : Int) - 1) = (j : Int) := by rw [w64_p (by omega) (by omega)]; simp
        have wj1 : w64 (((j + 1 : Nat) : Int) + 1) = ((j + 1 + 1 : Nat) : Int) := w64_1 (by omega)
        have wk1 : w64 ((kk : Int) + 1) = ((kk + 1 : Nat) : Int) := w64_1 (by omega)
        have ha : xs[i + 1 + j + 1]? = some (xs[i + 1 + j + 1]'(by omega)) := List.getElem?_eq_getElem (by omega)
        have hb : xs[i + 1 + j]? = some (xs[i + 1 + j]'(by omega)) := List.getElem?_eq_getElem (by omega)
        generalize xs[i + 1 + j + 1]'(by omega) = a at ha
        generalize xs[i + 1 + j]'(by omega) = b at hb
        refine Ite.lt (by show ((j + 1 : Nat) : Int) < _; omega) ?_
        simp only [wj, wj1, wk1, Int.toNat_natCast]
        refine ⟨⟨by omega, by omega⟩, a, by rw [show i + 1 + (j + 1) = i + 1 + j + 1 by omega, hsm _ (by omega)]; exact ha, ⟨by omega, by omega⟩, b, by rw [hsm _ (by omega)]; exact hb, ?_⟩
        refine Jn.mk (fun (t : List Int × Int) => ∃ kk : Nat, t.2 = (kk : Int) ∧ t.1.length = xs.length ∧ kk ≤ i + 1 + (j + 1) ∧ t.1.take kk = cmI xs (i + 1 + (j + 1) + 1) ∧ ∀ q, i + 1 + (j + 1) ≤ q → t.1[q]? = xs[q]?) (Ite.mk (fun e => ?_) (fun e => ?_)) (fun t h => ⟨by trivial, h⟩)
        · have hab : ¬ a = b := by simpa using e
          have hkl : kk < ys.length := by omega
          refine ⟨⟨by omega, by omega⟩, _, idx_of rfl (List.getElem?_eq_getElem hkl), kk + 1, rfl, by simpa using hyl, by omega, ?_, fun q hq => ?_⟩
          · show (ys.set kk a).take (kk + 1) = _
            rw [List.take_add_one, List.take_set_of_le (Nat.le_refl _), htk, List.getElem?_set, if_pos rfl, if_pos hkl]
            have := cmI_new ha (.inr (by simp only [Nat.add_sub_cancel]; rw [ha, hb]; simpa using hab))
            rw [show i + 1 + (j + 1) + 1 = i + 1 + j + 1 + 1 by omega, this]; rfl
          · show (ys.set kk a)[q]? = _
            rw [List.getElem?_set_ne (by omega)]; exact hsm q (by omega)
        · have hab : a = b := by simpa using e
          have := cmI_same (xs := xs) (i := i + 1 + j + 1) (by omega) (by simp only [Nat.add_sub_cancel]; rw [ha, hb, hab])
          exact ⟨kk, rfl, hyl, by omega, by rw [show i + 1 + (j + 1) + 1 = i + 1 + j + 1 + 1 by omega, this]; exact htk, fun q hq => hsm q (by omega)⟩
      · obtain ⟨ys, kk', q⟩ := t
        obtain ⟨rfl, kk, rfl, hyl, hkk, htk, hsm⟩ := hJ
        refine Ite.nlt (by show ¬ ((xs.length - (i + 1) - 1 + 1 : Nat) : Int) < _; omega) ⟨kk, rfl, hyl, by omega, ?_⟩
        rw [show i + 1 + (xs.length - (i + 1) - 1) + 1 = xs.length by omega] at htk
        exact htk
      · obtain ⟨ys, kk'⟩ := t
        obtain ⟨kk, rfl, hyl, hkk, htk⟩ := hJ
        replace hyl : ys.length = xs.length := hyl
        replace htk : ys.take kk = cmI xs xs.length := htk
        have hn3 : Int.toNat ((ys.length : Int) - (kk : Int)) = ys.length - kk := by omega
        simp only [hn3, Int.toNat_natCast]
        refine ⟨⟨by omega, by omega, by omega⟩, by omega, ⟨by omega, by omega, ?_⟩, ?_⟩
        · simp only [List.length_append, List.length_take, List.length_replicate, List.length_drop]; omega
        · have : sub (ys.take kk ++ (List.replicate (ys.length - kk) 0 ++ ys.drop (kk + (ys.length - kk)))) 0 (kk : Int) = ys.take kk := by
            simp only [sub, Int.toNat_natCast, Int.toNat_zero, List.drop_zero, Nat.sub_zero]
            rw [List.take_append_of_le_length (by simp; omega)]
            rw [List.take_of_length_le (by simp; omega)]
          rw [this, htk]; exact hp
    · have e' : ¬ x = y := by simpa using e
      show cmI xs (i + 1 + 1) = xs.take (i + 1 + 1)
      rw [cmI_new hx (.inr (by simp only [Nat.add_sub_cancel]; rw [hx, hx0]; simpa using e')), List.take_add_one, hx, hI]; rfl
  · obtain ⟨rfl, hI⟩ := hI
    refine Ite.nlt (by omega) ?_
    rw [show xs.length - 1 + 1 = xs.length by omega, List.take_length] at hI
    exact all hI
theorem S_region_Of {l : List Int} (hl : l.length ≤ 1000) {post : List Int → Prop} (hp : ∀ l', post l') : V_region_Of l post := by
  unfold V_region_Of
  refine S_clone_i hl ?_
  unfold V_slices_DeleteFunc_int_int__o0_region_Of_1 V_slices_IndexFunc_int_int__region_Of_1
  have hm : l.length ≤ maxLen := by unfold maxLen; omega
  have hT : ∀ c, ∀ {q : Bool → Prop}, q (!(decide (c ≥ 0) && decide (c < 4096))) → V_region_Of_1 c q := fun c {q} hq => by
    unfold V_region_Of_1 V_region_isCell
    exact Jand2 hq
  refine V_fidxc hm (fun c => !(decide (c ≥ 0) && decide (c < 4096))) (T := fun c q => V_region_Of_1 c q) (fun c _ q hq => hT c hq) ?_
  refine V_delrest hm 0 (fun c => !(decide (c ≥ 0) && decide (c < 4096))) (T := fun c q => V_region_Of_1 c q) (fun c _ q hq => hT c hq) (post := fun y => V_slices_Sort_int_int__o0 y _) ?_
  unfold V_slices_Sort_int_int__o0
  have h1 := List.length_filter_le (fun c : Int => !(!(decide (c ≥ 0) && decide (c < 4096)))) l
  refine ⟨by omega, S_CompactI (by rw [(List.mergeSort_perm _ _).length_eq]; omega) (hp _)⟩
/-- right homes -/
theorem S_bank_Right {s : ApiSite} {st : ApiState} {homes : List Int} (hf : RF s.Floor) (hz : Sz st) (hh : homes.length ≤ 1000) {post : Bool → Prop} (hF : post false) (hT : homes.length = st.Robots.length → post true) : V_bank_Right s st homes post := by
  have q2 := hz.rb; have q3 := hz.pp; have q4 := hz.dd
  unfold V_bank_Right
  refine Jn.mk (fun x => x = false → homes.length = st.Robots.length) (Ite.mk (fun _ h => by cases h) (fun h => S_region_Of hh fun l' _ => by simp at h; omega)) (fun x hx => Ite.mk (fun _ => hF) (fun h => ?_))
  have hl := hx h
  refine Jn.mk (fun l => l.length ≤ 2000) (S_clone_i q4 ⟨by omega, by simp; omega⟩) (fun l hl2 => ?_)
  refine Jn.mk (fun l => l.length ≤ 3000) (V_loopc (xs := st.Robots) (by unfold maxLen; omega) (fun t : List Int × Int => t.2) (fun i t => t.1.length ≤ 2000 + i) rfl hl2 (fun i r t hx ht hI => ?_) (fun t h => by omega)) (fun l hl3 => ?_)
  · have := (List.getElem?_eq_some_iff.1 hx).1
    rw [ht]
    exact Jn.mk (fun l => l.length ≤ 2000 + (i + 1)) (Ite.mk (fun _ => ⟨by simp; omega, by simp; omega⟩) (fun _ => by omega)) (fun l h => ⟨rfl, h⟩)
  · have fin : ∀ b, post b := fun b => by cases b; exact hF; exact hT hl
    unfold V_slices_ContainsFunc_int_int__bank_Right_1 V_slices_IndexFunc_int_int__bank_Right_1
    refine Jn.mk (fun _ => True) (V_loopc (xs := homes) (by unfold maxLen; omega) (fun t => t) (fun _ _ => True) rfl trivial (fun i c t hx ht _ => ?_) (fun _ _ => trivial)) (fun _ _ => fin _)
    rw [ht]
    unfold V_bank_Right_1
    have go : ∀ b : Bool, Ite b (post (!(decide ((i : Int) ≥ 0)))) ((fun t' => t' = w64 ((i : Int) + 1) ∧ True) (w64 ((i : Int) + 1))) := fun b => Ite.mk (fun _ => fin _) (fun _ => ⟨rfl, trivial⟩)
    refine Jn.mk (fun _ => True) (Ite.mk (fun _ => trivial) (fun h1 => Ite.mk (fun _ => trivial) (fun h2 => ⟨_, idx_kd (isC_iff.2 ⟨by simp at h1; omega, by simp at h2; omega⟩), Ite.mk (fun _ => trivial) (fun _ => S_slices_Contains (by unfold maxLen; omega) trivial)⟩))) (fun b _ => go b)
/-- who is home -/
def hmS (st : ApiState) (gone : List Int) : List (Int × Bool) := gone.foldl (fun m g => if liveB st g = true then upd m g true else m) []
theorem S_newSituation {s : ApiSite} {st : ApiState} {homes gone : List Int} (hg : gone.length ≤ maxLen) {post : BankSituation → Prop} (hp : post { s := s, st := st, homes := homes, home := hmS st gone }) : V_bank_newSituation s st homes gone post := by
  unfold V_bank_newSituation
  refine Jn.mk (fun m => m = hmS st gone) (V_loopc (xs := gone) hg (fun t : List (Int × Bool) × Int => t.2) (fun i t => t.1 = hmS st (gone.take i)) rfl rfl (fun i g t hx ht hI => ?_) (fun t h => by rw [List.take_length] at h; exact h)) (fun m hm => hm ▸ hp)
  rw [ht]
  refine S_bank_alive (Jn.mk (fun m => m = hmS st (gone.take (i + 1))) ?_ (fun m hm => ⟨rfl, hm⟩))
  unfold hmS at hI ⊢
  rw [take_succ hx, List.foldl_append, ← hI]
  refine Ite.mk (fun h => ?_) (fun h => ?_)
  · show _ = if liveB st g = true then _ else _
    rw [if_pos h]
  · show _ = if liveB st g = true then _ else _
    rw [if_neg (by rw [h]; simp)]
theorem hmS_iff {st : ApiState} {gone : List Int} {i : Int} : (lk (hmS st gone) i).getD false = true ↔ i ∈ gone ∧ liveB st i = true := by
  have : ∀ (gone : List Int) (m : List (Int × Bool)), (lk (gone.foldl (fun m g => if liveB st g = true then upd m g true else m) m) i).getD false = true ↔ (lk m i).getD false = true ∨ i ∈ gone ∧ liveB st i = true := by
    intro gone
    induction gone with
    | nil => intro m; simp
    | cons g r ih =>
      intro m
      rw [List.foldl_cons, ih]
      by_cases hg : liveB st g = true
      · rw [if_pos hg, lk_upd]
        by_cases e : g = i
        · subst e; rw [if_pos rfl]; simp [hg]
        · rw [if_neg e]
          have : (i ∈ g :: r) ↔ i ∈ r := by simp; intro h; exact absurd h.symm e
          rw [this]
      · rw [if_neg hg]
        have : (i ∈ g :: r ∧ liveB st i = true) ↔ (i ∈ r ∧ liveB st i = true) := by
          constructor
          · rintro ⟨h1, h2⟩
            rcases List.mem_cons.1 h1 with e | e
            · subst e; exact absurd h2 hg
            · exact ⟨e, h2⟩
          · rintro ⟨h1, h2⟩; exact ⟨by simp [h1], h2⟩
        rw [this]
  have h := this gone []
  unfold hmS; rw [h]; simp [lk]
structure Fair21 (s : ApiSite) (st : ApiState) (homes : List Int) : Prop where
  r : RSite s
  f12 : Few12 st
  rst : RSt s st
  r6 : st.Robots.length ≤ 6
  hl : homes.length = st.Robots.length
theorem S_law21_fits {s : ApiSite} {st : ApiState} {homes : List Int} {n : Int} (ks : OkApiSite s) (hn : 0 ≤ n ∧ n ≤ 100000) {post : Bool → Prop} (hF : post false) (hT : Fair21 s st homes → post true) : V_taquinlaw21_fits s st homes n post := by
  unfold V_taquinlaw21_fits
  refine Jn.mk' (S_ref11_Few ks (by omega) (Ite.f rfl hF) (fun h1 => Ite.t rfl (S_ref14_Few (Ite.f rfl hF) (fun h2 => Ite.t rfl (Ite.mk (fun h3 => Ite.mk (fun h4 => S_survey_Right ks h1 (by omega) (Ite.f rfl hF) (fun h5 => Ite.t rfl (S_body_RightI h2.sz (Ite.f rfl hF) (fun h6 => Ite.t rfl (S_bank_Right h5.fl h2.sz (by simp at h4; omega) hF (fun h7 => hT ⟨h5, h2, h6, by simp at h3; omega, h7⟩)))))) (fun _ => hF)) (fun _ => hF))))))
end Go.Taq

/- The mathematics, part BD: all home, Safe, Check. -/
set_option linter.unusedVariables false
set_option linter.unusedSimpArgs false
namespace Go.Taq
open Go

theorem nodup_len : ∀ (n : Nat) (o : List Int), o.Nodup → (∀ x, x ∈ o → 0 ≤ x ∧ x < n) → o.length ≤ n
  | 0, o, _, h => by
    cases o with
    | nil => simp
    | cons x r => have := h x (by simp); omega
  | n + 1, o, hn, h => by
    by_cases hm : (n : Int) ∈ o
    · have h1 := nodup_len n (o.erase n) (hn.erase _) (fun x hx => by
        have h2 := (hn.mem_erase_iff).1 hx
        have := h x h2.2
        have := h2.1
        omega)
      rw [List.length_erase_of_mem hm] at h1
      omega
    · have := nodup_len n o hn (fun x hx => by
        have := h x hx
        have : x ≠ n := fun e => hm (e ▸ hx)
        omega)
      omega
/-- the situation in which some robots are home -/
def sitO (s : ApiSite) (st : ApiState) (homes o : List Int) : BankSituation := { s := s, st := st, homes := homes, home := hmS st o }
section
variable {s : ApiSite} {st : ApiState} {homes : List Int}
theorem hB_sit {o : List Int} {i : Int} : hB (sitO s st homes o) i = true ↔ i ∈ o ∧ liveB st i = true := hmS_iff
theorem hmS_snoc {o : List Int} {i : Int} (h : liveB st i = true) : hmS st (o ++ [i]) = upd (hmS st o) i true := by
  unfold hmS; rw [List.foldl_append]
  show (if liveB st i = true then _ else _) = _
  rw [if_pos h]
theorem live_rg {i : Int} (h : liveB st i = true) : 0 ≤ i ∧ i < st.Robots.length := by
  obtain ⟨n, r, hn, hx, _⟩ := liveB_iff h
  have := (List.getElem?_eq_some_iff.1 hx).1
  omega
/-- no robot has a way home any more -/
def Stop (s : ApiSite) (st : ApiState) (homes o : List Int) : Prop := ∀ i : Int, ¬ Wy (sitO s st homes o) i
/-- each robot of a list has a way home when those ahead of it are home -/
def Chain (s : ApiSite) (st : ApiState) (homes : List Int) (o : List Int) : Prop := ∀ p i q, o = p ++ i :: q → Wy (sitO s st homes p) i
/-- .. and none before it has one -/
def Fst1 (s : ApiSite) (st : ApiState) (homes : List Int) (o : List Int) : Prop := ∀ p i q, o = p ++ i :: q → ∀ j : Int, j < i → ¬ Wy (sitO s st homes p) j
theorem snoc_split {α : Type} {o : List α} {a : α} {p q : List α} {i : α} (h : o ++ [a] = p ++ i :: q) : (∃ q', o = p ++ i :: q') ∨ (p = o ∧ i = a) := by
  rcases List.append_eq_append_iff.1 h with ⟨w, h1, h2⟩ | ⟨w, h1, h2⟩
  · cases w with
    | nil => simp at h1 h2; exact .inr ⟨h1, h2.1.symm⟩
    | cons b w => simp at h2
  · cases w with
    | nil => simp at h1 h2; exact .inr ⟨h1.symm, h2.1⟩
    | cons b w =>
      simp at h2
      exact .inl ⟨w, by rw [h1, h2.1]⟩
theorem Chain.snoc {o : List Int} {i : Int} (h : Chain s st homes o) (hw : Wy (sitO s st homes o) i) : Chain s st homes (o ++ [i]) := fun p j q e => by
  rcases snoc_split e with ⟨q', e⟩ | ⟨e1, e2⟩
  · exact h p j q' e
  · subst e1; subst e2; exact hw
theorem Fst1.snoc {o : List Int} {i : Int} (h : Fst1 s st homes o) (hw : ∀ j : Int, j < i → ¬ Wy (sitO s st homes o) j) : Fst1 s st homes (o ++ [i]) := fun p j q e => by
  rcases snoc_split e with ⟨q', e⟩ | ⟨e1, e2⟩
  · exact h p j q' e
  · subst e1; subst e2; exact hw
theorem Chain.nodup : ∀ {o : List Int}, Chain s st homes o → o.Nodup ∧ ∀ x, x ∈ o → liveB st x = true := by
  intro o
  generalize hn : o.reverse = r
  induction r generalizing o with
  | nil => intro h; have : o = [] := by simpa using hn
           subst this; exact ⟨.nil, fun x hx => by cases hx⟩
  | cons a r ih =>
    intro h
    have ho : o = r.reverse ++ [a] := by have := congrArg List.reverse hn; simpa using this
    subst ho
    have h1 : Chain s st homes r.reverse := fun p i q e => h p i (q ++ [a]) (by rw [e]; simp)
    obtain ⟨g1, g2⟩ := ih (by simp) h1
    have hw := h r.reverse a [] rfl
    refine ⟨List.nodup_append.2 ⟨g1, by simp, fun x hx y hy => ?_⟩, fun x hx => ?_⟩
    · simp at hy; subst hy
      intro e; subst e
      have := (hB_sit (s := s) (st := st) (homes := homes)).2 ⟨hx, hw.1⟩
      rw [hw.2.1] at this; cases this
    · rcases List.mem_append.1 hx with h | h
      · exact g2 x h
      · simp at h; subst h; exact hw.1
/-- all that live are home -/
theorem S_bank_all {x : BankSituation} (hz : Sz x.st) {post : Bool → Prop} (hT : (∀ i : Int, liveB x.st i = true → hB x i = true) → post true) (hF : (∃ i : Int, liveB x.st i = true ∧ hB x i = false) → post false) : V_bank_situation_all x post := by
  have q2 := hz.rb
  unfold V_bank_situation_all
  refine Jn.mk (fun _ => ∀ i : Int, liveB x.st i = true → hB x i = true) (Loop.inv x.st.Robots.length (fun i (t : Int) => t = (i : Int) ∧ ∀ j : Int, j < i → liveB x.st j = true → hB x j = true) ⟨rfl, fun j h1 h2 => by have := live_rg h2; omega⟩ (fun i t hi hI => ?_) (fun t hI => ?_)) (fun _ h => hT h)
  · obtain ⟨ht, hI⟩ := hI
    subst ht
    refine Ite.lt (by omega) (Jn.mk (fun b => b = (liveB x.st i && !hB x i)) (S_bank_alive (Ite.mk (fun h => by rw [h]; rfl) (fun h => by rw [h]; rfl))) (fun b hb => Ite.mk (fun h => ?_) (fun h => ?_)))
    · rw [h] at hb
      have := hb.symm
      simp at this
      exact hF ⟨i, this⟩
    · rw [h] at hb
      refine ⟨by rw [w64_eq (by omega) (by omega)]; simp, fun j hj hl => ?_⟩
      by_cases e : j = i
      · subst e; rw [hl] at hb; have := hb.symm; simp at this; exact this
      · exact hI j (by omega) hl
  · obtain ⟨ht, hI⟩ := hI
    exact Ite.nlt (by omega) fun i hl => hI i (by have := live_rg hl; omega) hl
/-- the search for an order -/
theorem S_bank_Safe (hf : RF s.Floor) (hz : Sz st) (k : OkApiState st) (hl : homes.length = st.Robots.length) {post : List Int × Bool → Prop}
    (hp : ∀ o b, Chain s st homes o → Fst1 s st homes o → Stop s st homes o → (b = true ↔ ∀ i : Int, liveB st i = true → i ∈ o) → post (o, b)) : V_bank_Safe s st homes post := by
  have q2 := hz.rb
  unfold V_bank_Safe
  refine S_newSituation (by simp) (Jn.mk (fun t : List (Int × Bool) × List Int => t.1 = hmS st t.2 ∧ Chain s st homes t.2 ∧ Fst1 s st homes t.2 ∧ Stop s st homes t.2) (Loop.mk (fun t : List (Int × Bool) × List Int × Int => t.1 = hmS st t.2.1 ∧ Chain s st homes t.2.1 ∧ Fst1 s st homes t.2.1 ∧ 0 ≤ t.2.2 ∧ t.2.2 ≤ st.Robots.length ∧ ∀ j : Int, j < t.2.2 → ¬ Wy (sitO s st homes t.2.1) j) (fun t => (st.Robots.length - t.2.1.length) * 2000 + (st.Robots.length - t.2.2.toNat)) ?_ ?_) (fun t ht => ?_))
  · exact ⟨rfl, fun p i q e => by simp at e, fun p i q e => by simp at e, by show (0 : Int) ≤ 0; omega, by show (0 : Int) ≤ _; omega, fun j hj hw => by have := live_rg hw.1; have : j < (0 : Int) := hj; omega⟩
  · rintro ⟨m, o, i⟩ ⟨hm, hc, hfi, h0, h1, hno⟩
    simp only at hm hc hfi h0 h1 hno
    refine Ite.mk (fun h => ?_) (fun h => ?_)
    · have hlt : i < (st.Robots.length : Int) := by simpa using h
      obtain ⟨hnd, hlv⟩ := hc.nodup
      have hol := nodup_len st.Robots.length o hnd (fun x hx => live_rg (hlv x hx))
      have ex : ({ s := s, st := st, homes := homes, home := m } : BankSituation) = sitO s st homes o := by unfold sitO; rw [hm]
      show V_bank_situation_way { s := s, st := st, homes := homes, home := m } i _
      rw [ex]
      have no : ¬ Wy (sitO s st homes o) i → (((upd m i true, o ++ [i], (-1 : Int)) : List (Int × Bool) × List Int × Int) = ((upd m i true, o ++ [i], (-1 : Int)))) := fun _ => rfl
      refine S_bank_way (x := sitO s st homes o) hf hz k hl (fun hw => ?_) (fun kk p hw _ _ hway => ?_)
      · refine Jn.mk' (Ite.f (by simp) ?_)
        refine ⟨⟨hm, hc, hfi, ?_, ?_, fun j hj => ?_⟩, ?_⟩
        · show 0 ≤ w64 (i + 1); rw [w64_eq (by omega) (by omega)]; omega
        · show w64 (i + 1) ≤ _; rw [w64_eq (by omega) (by omega)]; omega
        · have hj' : j < w64 (i + 1) := hj
          rw [w64_eq (by omega) (by omega)] at hj'
          by_cases e : j = i
          · subst e; exact hw
          · exact hno j (by omega)
        · show (st.Robots.length - o.length) * 2000 + (st.Robots.length - (w64 (i + 1)).toNat) < _
          rw [w64_eq (by omega) (by omega)]
          show _ < (st.Robots.length - o.length) * 2000 + (st.Robots.length - i.toNat)
          omega
      · have hlen := hway.len
        have hio : i ∉ o := fun hmm => by have := (hB_sit (s := s) (st := st) (homes := homes)).2 ⟨hmm, hw.1⟩; rw [hw.2.1] at this; cases this
        have hc' := hc.snoc hw
        have hol' := nodup_len st.Robots.length (o ++ [i]) hc'.nodup.1 (fun x hx => live_rg (hc'.nodup.2 x hx))
        simp only [List.length_append, List.length_singleton] at hol'
        refine Jn.mk' (Ite.t (by rw [hlen]; exact decide_eq_true (by omega)) ⟨by simp; omega, ?_⟩)
        have w0 : w64 (-1 + 1) = 0 := by decide
        refine ⟨⟨?_, hc', hfi.snoc hno, ?_, ?_, fun j hj hwj => ?_⟩, ?_⟩
        · show upd m i true = hmS st (o ++ [i]); rw [hmS_snoc (st := st) hw.1, hm]
        · show 0 ≤ w64 (-1 + 1); rw [w0]; decide
        · show w64 (-1 + 1) ≤ _; rw [w0]; omega
        · have hj' : j < w64 (-1 + 1) := hj
          rw [w0] at hj'
          have := live_rg hwj.1; omega
        · show (st.Robots.length - (o ++ [i]).length) * 2000 + (st.Robots.length - (w64 (-1 + 1)).toNat) < (st.Robots.length - o.length) * 2000 + (st.Robots.length - i.toNat)
          rw [w0, List.length_append, List.length_singleton]
          have : st.Robots.length - o.length = (st.Robots.length - (o.length + 1)) + 1 := by omega
          rw [this, Nat.add_mul]
          show _ + (st.Robots.length - 0) < _
          omega
    · have hnl : ¬ i < (st.Robots.length : Int) := by simpa using h
      exact ⟨hm, hc, hfi, fun j hw => hno j (by have : 0 ≤ j ∧ j < (st.Robots.length : Int) := live_rg hw.1; show j < i; omega) hw⟩
  · obtain ⟨m, o⟩ := t
    obtain ⟨hm, hc, hfi, hs⟩ := ht
    simp only at hm hc hfi hs
    subst hm
    refine S_bank_all (x := { s := s, st := st, homes := homes, home := hmS st o }) hz (fun h => hp o true hc hfi hs ⟨fun _ i hi => (hB_sit (s := s) (homes := homes).1 (h i hi)).1, fun _ => rfl⟩) (fun ⟨i, h1, h2⟩ => hp o false hc hfi hs ⟨fun h => (by cases h), fun h => ?_⟩)
    have := (hB_sit (s := s) (st := st) (homes := homes) (o := o) (i := i)).2 ⟨h i h1, h1⟩
    have h2' : hB (sitO s st homes o) i = false := h2
    rw [this] at h2'; cases h2'
end
end Go.Taq

/- The mathematics, part BE: Way; BankGrows but for the examples. -/
set_option linter.unusedVariables false
set_option linter.unusedSimpArgs false
namespace Go.Taq
open Go

section
variable {s : ApiSite} {st : ApiState} {homes : List Int}
theorem S_bank_Way (hf : RF s.Floor) (hz : Sz st) (k : OkApiState st) (hl : homes.length = st.Robots.length) {gone : List Int} (hg : gone.length ≤ maxLen) {i : Int} {post : List Int → Prop} (hn : ¬ Wy (sitO s st homes gone) i → post [])
    (hy : ∀ (k : Nat) p, Wy (sitO s st homes gone) i → (∀ j, PB s.Floor (homes.getD i.toNat 0) (avL (sitO s st homes gone) i) j (rAt st i).Cell → k ≤ j) → WayL s.Floor (avL (sitO s st homes gone) i) (rAt st i).Cell (homes.getD i.toNat 0) k p → post p) : V_bank_Way s st homes gone i post := by
  unfold V_bank_Way
  exact S_newSituation hg (S_bank_way (x := sitO s st homes gone) hf hz k hl hn (fun k p h1 _ h3 h4 => hy k p h1 h3 h4))
theorem avL_mono {o o' : List Int} (h : ∀ j : Int, hB (sitO s st homes o) j = true → hB (sitO s st homes o') j = true) {i c : Int} (hc : c ∈ avL (sitO s st homes o') i) : c ∈ avL (sitO s st homes o) i := by
  have hF : ∀ j : Nat, c ∈ avF (sitO s st homes o') i j → c ∈ avF (sitO s st homes o) i j := fun j hj => by
    unfold avF at hj ⊢
    by_cases e : (j : Int) = i
    · rw [if_pos e] at hj; cases hj
    · rw [if_neg e] at hj ⊢
      by_cases h2 : hB (sitO s st homes o) j = true
      · rw [if_pos (h _ h2)] at hj; rw [if_pos h2]; exact hj
      · rw [if_neg h2]
        by_cases h3 : hB (sitO s st homes o') j = true
        · rw [if_pos h3] at hj
          rcases List.mem_cons.1 hj with e | e
          · exact e ▸ List.mem_cons_self ..
          · cases e
        · rw [if_neg h3] at hj; exact hj
  unfold avL at hc ⊢
  rw [List.mem_filter] at hc ⊢
  refine ⟨?_, hc.2⟩
  have h1 := hc.1
  rcases List.mem_append.1 h1 with h1 | h1
  · refine List.mem_append_left _ ?_
    rcases List.mem_append.1 h1 with h1 | h1
    · exact List.mem_append_left _ h1
    · refine List.mem_append_right _ ?_
      obtain ⟨j, hj, hcj⟩ := List.mem_flatMap.1 h1
      exact List.mem_flatMap.2 ⟨j, hj, hF j hcj⟩
  · exact List.mem_append_right _ h1
theorem Wy_mono {o o' : List Int} (h : ∀ j : Int, hB (sitO s st homes o) j = true → hB (sitO s st homes o') j = true) {i : Int} (hw : Wy (sitO s st homes o) i) (hi : hB (sitO s st homes o') i = false) : Wy (sitO s st homes o') i := by
  obtain ⟨h1, _, k, hk⟩ := hw
  exact ⟨h1, hi, k, hk.mono (fun x hx => avL_mono h hx)⟩
/-- what a cell of a way is not -/
theorem not_av {o : List Int} {i c : Int} (hc : c ∉ avL (sitO s st homes o) i) (hne : c ≠ (rAt st i).Cell) : c ∉ st.Dead ∧ c ∉ st.People ∧ ∀ j : Nat, j < st.Robots.length → c ∉ avF (sitO s st homes o) i j := by
  have key : c ∉ ((st.Dead ++ st.People ++ (List.range st.Robots.length).flatMap (avF (sitO s st homes o) i)) ++ (if (rAt st i).Load ≥ 0 then (List.range st.Shelves.length).flatMap (avS (sitO s st homes o)) else [])) := fun hm => hc (by
    unfold avL
    exact List.mem_filter.2 ⟨hm, by show (!(c == (rAt st i).Cell)) = true; simpa using hne⟩)
  refine ⟨fun h => key (by simp [h]), fun h => key (by simp [h]), fun j hj h => key (List.mem_append_left _ (List.mem_append_right _ (List.mem_flatMap.2 ⟨j, List.mem_range.2 hj, h⟩)))⟩
end
theorem Said_taquinlaw21_BankGrows' (hsm : ∀ {post : Bool → Prop}, post true → V_taquinlaw21_small post) (s : ApiSite) (ks : OkApiSite s) (st : ApiState) (k : OkApiState st) (homes : List Int) (kh : OkL I64 homes) (gone : List Int) (kg : OkL I64 gone) (more : Int) (km : I64 more) (robot : Int) (kr : I64 robot) : V_taquinlaw21_BankGrows s st homes gone more robot (fun y => y = true) := by
  unfold V_taquinlaw21_BankGrows
  refine hsm (Jn.mk (fun b => b = false → Fair21 s st homes ∧ gone.length ≤ 10 ∧ 0 ≤ robot ∧ robot < (st.Robots.length : Int)) (S_law21_fits ks (by omega) (Ite.f rfl fun h => by cases h) (fun h => Ite.t rfl (Ite.mk (fun _ h => by cases h) (fun h1 => Ite.mk (fun _ h => by cases h) (fun h2 h3 => ⟨h, by simp at h1; omega, by simpa using h2, by simpa using h3⟩))))) (fun b hb => Ite.mk (fun _ => rfl) (fun h => ?_)))
  obtain ⟨hF, hg, r0, r1⟩ := hb h
  have hf := hF.r.fl
  have hz := hF.f12.sz
  have hl := hF.hl
  have r6 := hF.r6
  have q3 := hz.pp; have q4 := hz.dd
  obtain ⟨n, hn⟩ := Int.eq_ofNat_of_zero_le r0
  have hnl : n < st.Robots.length := by omega
  have hx := List.getElem?_eq_getElem hnl
  generalize st.Robots[n] = r at hx
  have hr : rAt st robot = r := getD_ri hn hx
  have hh := List.getElem?_eq_getElem (show n < homes.length by omega)
  have hhd : homes.getD robot.toNat 0 = homes.getD n 0 := by rw [hn]; rfl
  have hh' : homes[n]? = some (homes.getD robot.toNat 0) := by rw [hhd, hh]; exact congrArg some (getD_i hh).symm
  have ne : ∀ a : Int, (a != a) = false := fun a => by simp
  refine S_bank_Way hf hz k hl (by unfold maxLen; omega) (fun _ => Ite.t rfl rfl) (fun kk p hw hmin hp => ?_)
  obtain ⟨plen, phd, plst, pst, pok, ppb, pkb⟩ := hp
  rw [hr] at phd hmin
  have hd : r.Dead = false := by
    obtain ⟨n', r', hn', hx', hd', _⟩ := liveB_iff hw.1
    have hnn : n' = n := by omega
    subst hnn
    have hx'' : st.Robots[n']? = some r' := hx'
    rw [hx] at hx''; cases hx''; exact hd'
  have hn4 := hf.len.1
  refine Ite.f (by rw [plen]; simp; omega) (Jn.mk (fun b => b = false) ⟨r.Cell, idx_of (n := 0) rfl phd, r, idx_of hn hx, Ite.f (ne _) ⟨homes.getD robot.toNat 0, idx_of (n := kk) (by rw [plen, w64_eq (by omega) (by omega)]; omega) plst, homes.getD robot.toNat 0, idx_of hn hh', Ite.f (ne _) hd⟩⟩ (fun b hb => Ite.f hb ?_))
  refine Jn.mk (fun _ => True) (Loop.inv kk (fun i (t : Int) => t = (i : Int) + 1) rfl (fun i t hi ht => ?_) (fun t ht => Ite.nlt (by omega) trivial)) (fun _ _ => ?_)
  · subst ht
    obtain ⟨a, b, d, pa, pb, d0, d1, hnx⟩ := pst i hi
    have w1 : w64 ((i : Int) + 1 - 1) = (i : Int) := by rw [w64_eq (by omega) (by omega)]; omega
    have ia : idx p (w64 ((i : Int) + 1 - 1)) = some a := idx_of w1 pa
    have ib : idx p ((i : Int) + 1) = some b := idx_of (n := i + 1) (by omega) pb
    have hbn : b ≠ r.Cell := fun e => by
      have h1 := ppb (i + 1) b pb
      rw [e] at h1
      have := hmin _ h1
      omega
    have hav := not_av (s := s) (st := st) (homes := homes) (o := gone) (i := robot) (c := b) (pok b (List.mem_of_getElem? pb)).2.2 (by rw [hr]; exact hbn)
    obtain ⟨v1, v2, v3⟩ := hav
    refine Ite.lt (by omega) (Jn.mk (fun _ => True) (Jn.mk (fun x => x = true) (Loop.inv 6 (fun j (t : Bool × Int) => t.2 = (j : Int) ∧ (d < j → t.1 = true)) ⟨rfl, fun h => by omega⟩ (fun j t hj hJ => ?_) (fun t hJ => Ite.nlt (by omega) (hJ.2 (by omega)))) (fun x hxx => ?_)) (fun _ _ => by show w64 _ = _; rw [w64_eq (by omega) (by omega)]; simp))
    · obtain ⟨ht, hJ⟩ := hJ
      rw [ht]
      refine Ite.lt (by omega) ⟨a, ia, S_floor_Next hf (Jn.mk (fun x => (t.1 = true → x = true) ∧ ((j : Int) = d → x = true)) (Ite.mk (fun h1 => ⟨fun _ => rfl, fun _ => rfl⟩) (fun h1 => Ite.mk (fun h2 => ⟨b, ib, fun h => (by rw [h1] at h; cases h), fun h => by rw [h, hnx]; simp⟩) (fun h2 => ⟨fun h => (by rw [h1] at h; cases h), fun h => by rw [h, hnx] at h2; cases h2⟩))) (fun x hx2 => ⟨by show w64 _ = _; rw [w64_eq (by omega) (by omega)]; simp, fun h => ?_⟩))⟩
      by_cases e : (j : Int) = d
      · exact hx2.2 e
      · exact hx2.1 (hJ (by omega))
    · have m1 : st.Dead.length ≤ maxLen := by unfold maxLen; omega
      have m2 : st.People.length ≤ maxLen := by unfold maxLen; omega
      refine Jn.mk (fun x => x = false) (Ite.t hxx ⟨b, ib, S_ref07_Has m1 (Ite.f (by simpa using v1) (S_ref07_Has m2 (by simpa using v2)))⟩) (fun x hx3 => Ite.f hx3 ?_)
      refine Jn.mk (fun _ => True) (Loop.inv st.Robots.length (fun j (t : Int) => t = (j : Int)) rfl (fun j t hj ht => ?_) (fun t ht => Ite.nlt (by omega) trivial)) (fun _ _ => trivial)
      subst ht
      have hy := List.getElem?_eq_getElem hj
      have hyd : st.Robots.getD j default = st.Robots[j] := getD_r hy
      have hhj := List.getElem?_eq_getElem (show j < homes.length by omega)
      have hhjd : homes.getD j 0 = homes[j]'(by omega) := getD_i hhj
      generalize st.Robots[j] = r2 at hy hyd
      generalize homes[j]'_ = h2 at hhj hhjd
      refine Ite.lt (by omega) (Jn.mk (fun x => x = false) (Ite.mk (fun hne => ⟨h2, idx_of rfl hhj, b, ib, ?_⟩) (fun _ => rfl)) (fun x hx4 => Ite.f hx4 (by show w64 _ = _; rw [w64_eq (by omega) (by omega)]; simp)))
      have hne' : ¬ (j : Int) = robot := by simpa using hne
      have v4 := v3 j hj
      unfold avF at v4
      rw [if_neg hne'] at v4
      have v5 : ¬ (b = homes.getD j 0) := fun e => v4 (by rw [e]; exact List.mem_cons_self ..)
      rw [hhjd] at v5
      refine Ite.f (by simp; exact fun e => v5 e.symm) ⟨r2, idx_of rfl hy, Ite.mk (fun hc => ?_) (fun _ => rfl)⟩
      have hc' : r2.Cell = b := by simpa using hc
      have hB1 : hB (sitO s st homes gone) j = true := by
        cases e : hB (sitO s st homes gone) j with
        | true => rfl
        | false =>
          exfalso; apply v4
          rw [if_neg (by rw [e]; simp)]
          refine List.mem_cons_of_mem _ ?_
          show b ∈ [(st.Robots.getD j default).Cell]
          rw [hyd, hc']; simp
      have hB2 := hB_sit.1 hB1
      obtain ⟨n', r', hn', hx', hd', _⟩ := liveB_iff hB2.2
      have hnn : n' = j := by omega
      subst hnn
      rw [hy] at hx'; cases hx'
      exact Ite.f hd' (S_ref07_Has (by unfold maxLen; omega) (by simpa using hB2.1))
  · refine Jn.mk (fun x => x = true) (Ite.t rfl (Ite.mk (fun _ => rfl) (fun hm => ⟨by simp; omega, by simp; omega, ?_⟩))) (fun x hx => hx)
    have hm' : ¬ more = robot := by simpa using hm
    show V_bank_Way s st homes (([] ++ gone) ++ [more]) robot _
    rw [List.nil_append]
    have hsub : ∀ j : Int, hB (sitO s st homes gone) j = true → hB (sitO s st homes (gone ++ [more])) j = true := fun j hj => by
      have := hB_sit.1 hj
      exact hB_sit.2 ⟨List.mem_append_left _ this.1, this.2⟩
    have hi : hB (sitO s st homes (gone ++ [more])) robot = false := by
      cases e : hB (sitO s st homes (gone ++ [more])) robot with
      | false => rfl
      | true =>
        have := hB_sit.1 e
        rcases List.mem_append.1 this.1 with h | h
        · have h2 := (hB_sit (s := s) (st := st) (homes := homes)).2 ⟨h, this.2⟩
          rw [hw.2.1] at h2; cases h2
        · simp at h; exact absurd h.symm hm'
    refine S_bank_Way hf hz k hl (by simp; unfold maxLen; omega) (fun hno => absurd (Wy_mono hsub hw hi) hno) (fun k2 p2 _ _ hp2 => ?_)
    show decide ((p2.length : Int) > 0) = true
    rw [hp2.len]; exact decide_eq_true (by omega)
end Go.Taq

/- The mathematics, part BF: Check; the examples of chapter 21; BankGrows. -/
set_option linter.unusedVariables false
set_option linter.unusedSimpArgs false
namespace Go.Taq
open Go

section
variable {s : ApiSite} {st : ApiState} {homes : List Int}
theorem S_bank_Check (hf : RF s.Floor) (hz : Sz st) (k : OkApiState st) (hl : homes.length = st.Robots.length) {o : List Int} (ho : o.length ≤ 1000) {post : Int × Int → Prop}
    (h1 : ∀ i : Int, ¬ (o.Nodup ∧ ∀ x, x ∈ o → liveB st x = true) → post (i, 1))
    (h2 : ∀ p x q, o = p ++ x :: q → Chain s st homes p → ¬ Wy (sitO s st homes p) x → o.Nodup → (∀ x, x ∈ o → liveB st x = true) → post ((p.length : Int), 14))
    (h3 : Chain s st homes o → (∀ i : Int, liveB st i = true → i ∈ o) → post (-1, 0))
    (h4 : Chain s st homes o → ¬ (∀ i : Int, liveB st i = true → i ∈ o) → post ((o.length : Int), 19)) : V_bank_Check s st homes o post := by
  unfold V_bank_Check
  refine S_newSituation (by simp) ?_
  show Jn _ _
  refine Jn.mk (fun _ => o.Nodup ∧ ∀ x, x ∈ o → liveB st x = true) (Loop.inv o.length (fun i (t : Int) => t = (i : Int) ∧ (o.take i).Nodup ∧ ∀ x, x ∈ o.take i → liveB st x = true) ⟨rfl, by simp, fun x hx => by simp at hx⟩ (fun i t hi hI => ?_) (fun t hI => ?_)) (fun _ hlv => ?_)
  · obtain ⟨ht, hI1, hI2⟩ := hI
    subst ht
    have hx := List.getElem?_eq_getElem hi
    generalize o[i] = x at hx
    have esub : sub o 0 (i : Int) = o.take i := by simp [sub]
    refine Ite.lt (by omega) ⟨x, idx_of rfl hx, Jn.mk (fun b => b = (!liveB st x || (o.take i).contains x)) (S_bank_alive (Ite.mk (fun h => ⟨⟨by omega, by omega, by omega⟩, ?_⟩) (fun h => ?_))) (fun b hb => Ite.mk (fun h => h1 _ fun hc => ?_) (fun h => ⟨by rw [w64_eq (by omega) (by omega)]; simp, ?_⟩))⟩
    · rw [esub]
      refine S_slices_Contains (by rw [List.length_take]; unfold maxLen; omega) ?_
      have h' : liveB st x = true := h
      rw [h']; rfl
    · have h' : liveB st x = false := h
      rw [h']; rfl
    · rw [h] at hb
      have h5 := hc.2 x (List.mem_of_getElem? hx)
      rw [h5] at hb
      have h6 : x ∈ o.take i := by simpa using hb.symm
      have h7 := hc.1
      have e : o = o.take i ++ o.drop i := (List.take_append_drop i o).symm
      rw [e, List.nodup_append] at h7
      have h8 : x ∈ o.drop i := by
        rw [List.drop_eq_getElem_cons hi]
        have := List.getElem?_eq_getElem hi
        rw [hx] at this
        rw [← Option.some.inj this]; exact List.mem_cons_self ..
      exact h7.2.2 x h6 x h8 rfl
    · rw [h] at hb
      have hb' := hb.symm
      simp at hb'
      rw [take_succ hx]
      refine ⟨List.nodup_append.2 ⟨hI1, by simp, fun a ha b hb2 => ?_⟩, fun y hy => ?_⟩
      · simp at hb2; subst hb2
        intro e; subst e
        exact hb'.2 ha
      · rcases List.mem_append.1 hy with h | h
        · exact hI2 y h
        · simp at h; subst h; exact hb'.1
  · obtain ⟨ht, hI1, hI2⟩ := hI
    rw [List.take_length] at hI1 hI2
    exact Ite.nlt (by omega) ⟨hI1, hI2⟩
  · obtain ⟨hnd, hlv⟩ := hlv
    refine Jn.mk (fun m => m = hmS st o ∧ Chain s st homes o) (Loop.inv o.length (fun i (t : List (Int × Bool) × Int) => t.2 = (i : Int) ∧ t.1 = hmS st (o.take i) ∧ Chain s st homes (o.take i)) ⟨rfl, rfl, fun p x q e => by simp at e⟩ (fun i t hi hI => ?_) (fun t hI => ?_)) (fun m hm => ?_)
    · obtain ⟨ht, hI1, hI2⟩ := hI
      have hx := List.getElem?_eq_getElem hi
      have hsplit : o = o.take i ++ o[i] :: o.drop (i + 1) := by
        conv => lhs; rw [← List.take_append_drop i o]
        rw [List.drop_eq_getElem_cons hi]
      generalize o[i] = x at hx hsplit
      have hti : (o.take i).length = i := by rw [List.length_take]; omega
      have hlx := hlv x (List.mem_of_getElem? hx)
      have ex : ({ s := s, st := st, homes := homes, home := t.1 } : BankSituation) = sitO s st homes (o.take i) := by unfold sitO; rw [hI1]
      refine Ite.lt (by omega) ⟨x, idx_of ht hx, ?_⟩
      show V_bank_situation_way { s := s, st := st, homes := homes, home := t.1 } x _
      rw [ex]
      refine S_bank_way (x := sitO s st homes (o.take i)) hf hz k hl (fun hw => Ite.t rfl ?_) (fun kk p hw _ _ hp => Ite.f (by rw [hp.len]; simp; omega) ⟨by rw [ht, w64_eq (by omega) (by omega)]; simp, ?_, ?_⟩)
      · have := h2 (o.take i) x _ hsplit hI2 hw hnd hlv
        rw [hti] at this; rw [ht]; exact this
      · show upd t.1 x true = _
        rw [take_succ hx, hmS_snoc (st := st) hlx, hI1]
      · rw [take_succ hx]; exact hI2.snoc hw
    · obtain ⟨ht, hI1, hI2⟩ := hI
      rw [List.take_length] at hI1 hI2
      exact Ite.nlt (by omega) ⟨hI1, hI2⟩
    · obtain ⟨hm, hc⟩ := hm
      subst hm
      refine S_bank_all (x := { s := s, st := st, homes := homes, home := hmS st o }) hz (fun h => Ite.f rfl (h3 hc fun i hi => (hB_sit (s := s) (homes := homes).1 (h i hi)).1)) (fun ⟨i, g1, g2⟩ => Ite.t rfl (h4 hc fun h => ?_))
      have := (hB_sit (s := s) (st := st) (homes := homes) (o := o) (i := i)).2 ⟨h i g1, g1⟩
      have g2' : hB (sitO s st homes o) i = false := g2
      rw [this] at g2'; cases g2'
end
def e21F : ApiFloor := { W := 5, H := 1, D := 1, Kind := [3, 1, 1, 1, 1], Out := [5, 5, 5, 5, 5] }
def e21S : ApiSite := { Floor := e21F, Zones := [], Aparts := [], Shelves := [], Robots := [{ Cell := 1, Charge := 9 }, { Cell := 2, Charge := 9 }] }
def e21T : ApiState := { Tick := 0, Shelves := [], Robots := [{ Cell := 1, Load := -1, Charge := 9, Rest := 0, Mute := 0, Dead := false }, { Cell := 2, Load := -1, Charge := 9, Rest := 0, Mute := 0, Dead := false }], People := [], Dead := [], Stuck := [] }
theorem e21RF : RF e21F := by
  refine ⟨by decide, by decide, by decide, by decide, by decide, by decide, by decide, by decide, by decide, fun i x y hx hy => ?_⟩
  match i, hx, hy with
  | 0, hx, hy => simp [e21F] at hx hy; omega
  | 1, hx, hy => simp [e21F] at hx hy; omega
  | 2, hx, hy => simp [e21F] at hx hy; omega
  | 3, hx, hy => simp [e21F] at hx hy; omega
  | 4, hx, hy => simp [e21F] at hx hy; omega
  | n + 5, hx, hy => simp [e21F] at hx
theorem e21Z : Sz e21T := ⟨by decide, by decide, by decide, by decide, by decide⟩
theorem e21K : OkApiState e21T where
  Tick := i64_of (by decide)
  Shelves := ok_ml (by decide) (fun c hc => by cases hc)
  Robots := ok_ml (by decide) (fun r hr => by
    simp only [e21T, List.mem_cons, List.not_mem_nil, or_false] at hr
    rcases hr with rfl | rfl
    · exact ⟨i64_of (by decide), i64_of (by decide), i64_of (by decide), i64_of (by decide), i64_of (by decide), trivial⟩
    · exact ⟨i64_of (by decide), i64_of (by decide), i64_of (by decide), i64_of (by decide), i64_of (by decide), trivial⟩)
  People := ok_ml (by decide) (fun c hc => by cases hc)
  Dead := ok_ml (by decide) (fun c hc => by cases hc)
  Stuck := ok_ml (by decide) (fun c hc => by cases hc)
theorem e21l {i : Int} : liveB e21T i = true ↔ i = 0 ∨ i = 1 := by
  constructor
  · intro h
    have := live_rg h
    have : i < 2 := this.2
    omega
  · rintro (h | h) <;> subst h <;> decide
theorem e21a : Wy (sitO e21S e21T [0, 4] []) 0 := ⟨by decide, by decide, 1, 0, 2, ⟨by decide, by decide, by decide, by decide⟩, by decide, by decide, by decide, by decide, by decide, by decide⟩
theorem e21b : Wy (sitO e21S e21T [0, 4] [0]) 1 := ⟨by decide, by decide, 2, 3, 0, ⟨4, 0, ⟨by decide, by decide, by decide, by decide⟩, by decide, by decide, by decide, by decide, by decide, by decide⟩, by decide, by decide, by decide, by decide, by decide, by decide⟩
theorem e21c : Wy (sitO e21S e21T [4, 3] []) 1 := ⟨by decide, by decide, 1, 3, 0, ⟨by decide, by decide, by decide, by decide⟩, by decide, by decide, by decide, by decide, by decide, by decide⟩
theorem e21no {l : List Int} (h : (3 : Int) ∈ l) : ∀ (k : Nat) (c : Int), PB e21F 4 l k c → c = 4
  | 0, c, hc => by have := hc.1; simpa using this
  | k + 1, c, ⟨p, d, hp, d0, d1, hb, hok⟩ => by
    have := e21no h k p hp
    subst this
    have : d = 0 ∨ d = 1 ∨ d = 2 ∨ d = 3 ∨ d = 4 ∨ d = 5 := by omega
    rcases this with e | e | e | e | e | e <;> subst e
    · have e3 : bk e21F 4 0 = (3, true) := by decide
      rw [e3] at hb
      have : c = 3 := by injection hb with h1; exact h1.symm
      subst this
      exact absurd h hok.2.2
    · exact absurd (show (bk e21F 4 1).2 = true from congrArg Prod.snd hb) (by decide)
    · exact absurd (show (bk e21F 4 2).2 = true from congrArg Prod.snd hb) (by decide)
    · exact absurd (show (bk e21F 4 3).2 = true from congrArg Prod.snd hb) (by decide)
    · exact absurd (show (bk e21F 4 4).2 = true from congrArg Prod.snd hb) (by decide)
    · exact absurd (show (bk e21F 4 5).2 = true from congrArg Prod.snd hb) (by decide)
theorem e21d : ¬ Wy (sitO e21S e21T [4, 3] []) 0 := fun ⟨_, _, k, hk⟩ => absurd (e21no (by decide) k _ hk) (by decide)
theorem e21e : ¬ Wy (sitO e21S e21T [4, 3] [1]) 0 := fun ⟨_, _, k, hk⟩ => absurd (e21no (by decide) k _ hk) (by decide)
theorem e21f : Wy (sitO e21S e21T [0, 1] []) 0 := ⟨by decide, by decide, 1, 0, 2, ⟨by decide, by decide, by decide, by decide⟩, by decide, by decide, by decide, by decide, by decide, by decide⟩
theorem S_law21_small {post : Bool → Prop} (hp : post true) : V_taquinlaw21_small post := by
  unfold V_taquinlaw21_small V_taquinlaw21_sample
  show V_bank_Safe e21S e21T [0, 4] _
  have nil0 : ∀ {H : List Int} {o : List Int}, Chain e21S e21T H o → ∀ p x q, o = p ++ x :: q → x = 0 ∨ x = 1 := fun h p x q e => e21l.1 (h p x q e).1
  refine S_bank_Safe e21RF e21Z e21K rfl (fun o b hc hf hs hb => ?_)
  have ho : o = [0, 1] := by
    match o, hc, hf, hs with
    | [], _, _, hs => exact absurd e21a (hs 0)
    | a :: q, hc, hf, hs =>
      have h1 := nil0 hc [] a q rfl
      have ha : a = 0 := by
        rcases h1 with h | h
        · exact h
        · subst h; exact absurd e21a (hf [] 1 q rfl 0 (by decide))
      subst ha
      match q, hc, hs with
      | [], _, hs => exact absurd e21b (hs 1)
      | a :: q, hc, hs =>
        have hw := hc [0] a q rfl
        have ha : a = 1 := by
          rcases e21l.1 hw.1 with h | h
          · subst h; exact absurd hw.2.1 (by decide)
          · exact h
        subst ha
        match q, hc with
        | [], _ => rfl
        | a :: q, hc =>
          have hw := hc [0, 1] a q rfl
          rcases e21l.1 hw.1 with h | h
          · subst h; exact absurd hw.2.1 (by decide)
          · subst h; exact absurd hw.2.1 (by decide)
  subst ho
  have hb1 : b = true := hb.2 (fun i hi => by rcases e21l.1 hi with h | h <;> subst h <;> decide)
  subst hb1
  refine S_bank_Safe e21RF e21Z e21K rfl (fun o b hc hf hs hb => ?_)
  have ho : o = [1] := by
    match o, hc, hs with
    | [], _, hs => exact absurd e21c (hs 1)
    | a :: q, hc, hs =>
      have hw := hc [] a q rfl
      have ha : a = 1 := by
        rcases e21l.1 hw.1 with h | h
        · subst h; exact absurd hw e21d
        · exact h
      subst ha
      match q, hc with
      | [], _ => rfl
      | a :: q, hc =>
        have hw := hc [1] a q rfl
        rcases e21l.1 hw.1 with h | h
        · subst h; exact absurd hw e21e
        · subst h; exact absurd hw.2.1 (by decide)
  subst ho
  have hb1 : b = false := by
    cases e : b with
    | false => rfl
    | true => exact absurd (hb.1 e 0 (by decide)) (by decide)
  subst hb1
  refine S_bank_Check e21RF e21Z e21K rfl (by decide) (fun i h => ?_) (fun p x q e hc hw _ _ => ?_) (fun hc _ => absurd (hc [1] 0 [] rfl) e21e) (fun hc _ => absurd (hc [1] 0 [] rfl) e21e)
  · refine absurd ⟨by decide, fun x hx => ?_⟩ h
    simp at hx; rcases hx with h | h <;> subst h <;> decide
  · have hpx : p = [1] ∧ x = 0 := by
      match p, e with
      | [], e => injection e with e1 e2; subst e1; exact absurd e21c hw
      | [a], e => simp at e; exact ⟨by rw [e.1], e.2.1.symm⟩
      | a :: b :: r, e => simp at e
    obtain ⟨hp1, hx1⟩ := hpx
    subst hp1; subst hx1
    refine Jn.mk (fun x => x = true) (Ite.t rfl (S_ref07_SameL (by decide) (Ite.t rfl (Ite.f rfl (S_ref07_SameL (by decide) (Ite.t rfl (Ite.t rfl (Ite.t rfl ?_)))))))) (fun x hx => hx ▸ hp)
    refine S_bank_Way e21RF e21Z e21K rfl (by decide) (fun hn => absurd e21f hn) (fun k p hw hmin hp2 => ?_)
    have hk1 : k ≤ 1 := hmin 1 ⟨0, 2, ⟨by decide, by decide, by decide, by decide⟩, by decide, by decide, by decide, by decide, by decide, by decide⟩
    have h0 := hp2.hd
    have h1 := hp2.lst
    have hln := hp2.len
    have c0 : (rAt e21T 0).Cell = 1 := by decide
    have c1 : ([0, 1] : List Int).getD (Int.toNat 0) 0 = 0 := by decide
    rw [c0] at h0
    rw [c1] at h1
    have hk : k = 1 := by
      have : k = 0 ∨ k = 1 := by omega
      rcases this with e | e
      · subst e; rw [h0] at h1; cases h1
      · exact e
    subst hk
    have : p = [1, 0] := by
      match p, h0, h1, hln with
      | [a, b], h0, h1, _ => simp at h0 h1; rw [h0, h1]
    subst this
    exact S_ref07_SameL (by decide) rfl
theorem Said_taquinlaw21_BankGrows (s : ApiSite) (ks : OkApiSite s) (st : ApiState) (k : OkApiState st) (homes : List Int) (kh : (OkL I64) homes) (gone : List Int) (kg : (OkL I64) gone) (more : Int) (km : I64 more) (robot : Int) (kr : I64 robot) : V_taquinlaw21_BankGrows s st homes gone more robot (fun y => y = true) :=
  Said_taquinlaw21_BankGrows' (fun hp => S_law21_small hp) s ks st k homes kh gone kg more km robot kr
end Go.Taq
