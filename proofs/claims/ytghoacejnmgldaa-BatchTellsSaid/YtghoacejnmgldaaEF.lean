/- The mathematics, part EF: the jobs' ends, the worst lateness; the reference's order (chapter 43). -/
import Derived.Test.YtghoacejnmgldaaEE
import Derived.Test.YtghoacejnmgldaaQA
set_option linter.unusedVariables false
set_option linter.unusedSimpArgs false
set_option maxRecDepth 100000
set_option maxHeartbeats 2000000
namespace Go.Taq
open Go

theorem S_same {a : List Int} (hm : a.length ≤ 1000) {post : Bool → Prop} (hp : post true) : V_taquinref07_Same a a post := by
  unfold V_taquinref07_Same
  refine Ite.f (by simp) (Jn.mk (fun _ => True) (V_loopc (xs := a) (by unfold maxLen; omega) (fun t : Int => t) (fun _ _ => True) rfl trivial (fun i x t hx ht _ => ?_) (fun _ _ => trivial)) (fun _ _ => hp))
  exact ⟨x, by rw [ht]; exact idx_of rfl hx, Ite.f (by simp) ⟨by rw [ht], trivial⟩⟩
theorem S_sameE {a b : List Int} (e : a = b) (hm : a.length ≤ 1000) {post : Bool → Prop} (hp : post true) : V_taquinref07_Same a b post := by subst e; exact S_same hm hp
/-- right jobs -/
structure JOk (x : ApiJob) : Prop where
  s0 : 0 ≤ x.Shelf
  s1 : x.Shelf < 3000
  w0 : 1 ≤ x.Work
  w1 : x.Work ≤ 1000000
  d0 : 0 ≤ x.Due
  d1 : x.Due ≤ 1099511627776
def JsOk (l : List ApiJob) : Prop := l.length ≤ 100 ∧ ∀ x, x ∈ l → JOk x
section
variable {l : List ApiJob}
theorem JsOk.at (h : JsOk l) {i : Int} (hi : In l i) : JOk (jb l i) := by
  have := jb_get hi.1 hi.2
  rw [idx_get hi.1 hi.2] at this
  have e := Option.some.inj this
  rw [← e]; exact h.2 _ (List.getElem_mem _)
/-- the work of jobs -/
def Wrk (l : List ApiJob) (ks : List Int) : Int := (ks.map fun k => (jb l k).Work).sum
theorem Wrk_nil : Wrk l [] = 0 := rfl
theorem Wrk_cons {k : Int} {ks : List Int} : Wrk l (k :: ks) = (jb l k).Work + Wrk l ks := by simp [Wrk]
theorem Wrk_app {A B : List Int} : Wrk l (A ++ B) = Wrk l A + Wrk l B := by simp [Wrk]
def AllIn (l : List ApiJob) (ks : List Int) : Prop := ∀ k, k ∈ ks → In l k
theorem Wrk_bd (h : JsOk l) : ∀ {ks : List Int}, AllIn l ks → 0 ≤ Wrk l ks ∧ Wrk l ks ≤ 1000000 * ks.length
  | [], _ => by simp [Wrk]
  | k :: ks, hk => by
    have h1 := Wrk_bd h (ks := ks) (fun x hx => hk x (by simp [hx]))
    have h2 := h.at (hk k (by simp))
    have := h2.w0; have := h2.w1
    rw [Wrk_cons]; simp only [List.length_cons]; omega
/-- when they end, how late -/
def endsL (l : List ApiJob) : Int → List Int → List Int
  | _, [] => []
  | s, k :: r => (s + (jb l k).Work) :: endsL l (s + (jb l k).Work) r
def lateL (l : List ApiJob) : Int → List Int → List Int
  | _, [] => []
  | s, k :: r => (s + (jb l k).Work - (jb l k).Due) :: lateL l (s + (jb l k).Work) r
theorem endsL_len : ∀ {s : Int} {ks : List Int}, (endsL l s ks).length = ks.length
  | _, [] => rfl
  | s, k :: r => by simp [endsL, endsL_len]
theorem lateL_len : ∀ {s : Int} {ks : List Int}, (lateL l s ks).length = ks.length
  | _, [] => rfl
  | s, k :: r => by simp [lateL, lateL_len]
theorem endsL_snoc : ∀ {s : Int} {ks : List Int} {k : Int}, endsL l s (ks ++ [k]) = endsL l s ks ++ [s + Wrk l ks + (jb l k).Work]
  | s, [], k => by simp [endsL, Wrk]
  | s, a :: r, k => by simp only [List.cons_append, endsL, endsL_snoc, Wrk_cons]; congr 4; omega
theorem lateL_app : ∀ {s : Int} {A B : List Int}, lateL l s (A ++ B) = lateL l s A ++ lateL l (s + Wrk l A) B
  | s, [], B => by simp [lateL, Wrk]
  | s, a :: r, B => by simp only [List.cons_append, lateL, lateL_app, Wrk_cons, Int.add_assoc]
theorem lateL_snoc {s : Int} {ks : List Int} {k : Int} : lateL l s (ks ++ [k]) = lateL l s ks ++ [s + Wrk l ks + (jb l k).Work - (jb l k).Due] := by rw [lateL_app]; rfl
theorem endsL_get : ∀ {s : Int} {ks : List Int} {i : Nat} {k : Int}, ks[i]? = some k → (endsL l s ks)[i]? = some (s + Wrk l (ks.take i) + (jb l k).Work)
  | s, [], i, k, h => by simp at h
  | s, a :: r, 0, k, h => by simp at h; subst h; simp [endsL, Wrk]
  | s, a :: r, i + 1, k, h => by
    have := endsL_get (s := s + (jb l a).Work) (ks := r) (i := i) (k := k) (by simpa using h)
    simp only [endsL, List.getElem?_cons_succ, this, List.take_succ_cons, Wrk_cons]; congr 2; omega
/-- the greatest, 0 for none -/
def wmax : List Int → Int
  | [] => 0
  | x :: r => r.foldl imax x
theorem wmax_snoc {xs : List Int} {y : Int} : wmax (xs ++ [y]) = if xs = [] then y else imax (wmax xs) y := by
  cases xs with
  | nil => rfl
  | cons x r => simp [wmax]
/-- the indexes that are some -/
def kn (l : List ApiJob) (o : List Int) : List Int := o.filter fun i => !(decide (i < 0) || decide (i ≥ (l.length : Int)))
theorem kn_in {o : List Int} : AllIn l (kn l o) := fun k hk => by
  have := (List.mem_filter.1 hk).2; simp at this; exact ⟨by omega, by omega⟩
theorem kn_len {o : List Int} : (kn l o).length ≤ o.length := List.length_filter_le _ _
theorem kn_all {o : List Int} (h : AllIn l o) : kn l o = o := by
  unfold kn; rw [List.filter_eq_self]; intro k hk; have := h k hk; simp; exact ⟨this.1, this.2⟩
theorem S_known {o : List Int} (ho : o.length ≤ 100) {post : List Int → Prop} (hp : post (kn l o)) : V_batch_known l o post := by
  unfold V_batch_known V_slices_Clone_int_int
  have hm : o.length ≤ maxLen := by unfold maxLen; omega
  have key : V_slices_DeleteFunc_int_int__o0_batch_known_1 l o post := by
    unfold V_slices_DeleteFunc_int_int__o0_batch_known_1 V_slices_IndexFunc_int_int__batch_known_1
    refine V_fidxc hm (fun i => decide (i < 0) || decide (i ≥ (l.length : Int))) (T := fun c q => V_batch_known_1 c l q) (fun c _ q hq => by unfold V_batch_known_1; exact Jor2 hq) ?_
    exact V_delrest hm 0 (fun i => decide (i < 0) || decide (i ≥ (l.length : Int))) (T := fun c q => V_batch_known_1 c l q) (fun c _ q hq => by unfold V_batch_known_1; exact Jor2 hq) hp
  intro b hb
  refine Ite.mk (fun h => ?_) (fun h => ⟨by simp; omega, by simpa using key⟩)
  have e := hb (by simpa using h)
  subst e; exact key
theorem take_snoc {α : Type} {xs : List α} {i : Nat} {x : α} (hx : xs[i]? = some x) : xs.take (i + 1) = xs.take i ++ [x] := by
  rw [List.take_add_one, hx]; rfl
theorem S_ends_loop (h : JsOk l) {ks : List Int} (hk : AllIn l ks) (hl : ks.length ≤ 100) {start : Int} (s0 : 0 ≤ start) (s1 : start ≤ 1099511627776) {post : List Int → Prop} (hp : post (endsL l start ks)) :
    Jn (fun (J9 : (List Int) → Prop) => Loop (fun (s10 : Int × List Int × Int) Y11 => Ite (decide (s10.2.2 < (ks.length : Int))) (∃ x17, idx ks s10.2.2 = some x17 ∧ ∃ x20, idx l x17 = some x20 ∧ (s10.2.1.length + ([w64 (s10.1 + x20.Work)] : List Int).length ≤ 1099511627776) ∧ Y11 (w64 (s10.1 + x20.Work), (s10.2.1 ++ ([w64 (s10.1 + x20.Work)] : List Int)), w64 (s10.2.2 + 1))) (J9 s10.2.1)) ((start, [], 0) : Int × List Int × Int)) (fun (x8 : List Int) => post x8) := by
  refine Jn.mk (fun x => x = endsL l start ks) (V_loopc (xs := ks) (by unfold maxLen; omega) (fun t : Int × List Int × Int => t.2.2) (fun i t => t.1 = start + Wrk l (ks.take i) ∧ t.2.1 = endsL l start (ks.take i)) rfl ⟨by simp [Wrk], by simp [endsL]⟩ (fun i x t hx ht hI => ?_) (fun t hI => ?_)) (fun x e => by subst e; exact hp)
  · obtain ⟨h1, h2⟩ := hI
    have hi := (List.getElem?_eq_some_iff.1 hx).1
    have hin := hk x (List.mem_of_getElem? hx)
    have hw := Wrk_bd h (ks := ks.take i) (fun k hk' => hk k (List.mem_of_mem_take hk'))
    have hj := h.at hin
    have := hj.w0; have := hj.w1
    rw [List.length_take] at hw
    have ew : w64 (t.1 + (jb l x).Work) = start + Wrk l (ks.take i) + (jb l x).Work := by rw [h1]; exact w64_eq (by omega) (by omega)
    refine ⟨_, jb_get hin.1 hin.2, ?_⟩
    rw [ew]
    refine ⟨by rw [h2, endsL_len, List.length_take]; simp; omega, by rw [ht], ?_, ?_⟩
    · rw [take_snoc hx, Wrk_app]; simp [Wrk]; omega
    · rw [take_snoc hx, endsL_snoc, h2]
  · rw [hI.2, List.take_length]
theorem S_ends (h : JsOk l) {o : List Int} (ho : o.length ≤ 100) {start : Int} (s0 : 0 ≤ start) (s1 : start ≤ 1099511627776) {post : List Int → Prop} (hp : post (endsL l start (kn l o))) : V_batch_Ends l o start post := by
  unfold V_batch_Ends
  exact S_known ho (S_ends_loop h kn_in (Nat.le_trans kn_len ho) s0 s1 hp)
theorem S_max {xs : List Int} (hx : xs ≠ []) (hl : xs.length ≤ 100) {post : Int → Prop} (hp : post (wmax xs)) : V_slices_Max_int_int xs post := by
  unfold V_slices_Max_int_int
  cases xs with
  | nil => exact absurd rfl hx
  | cons x r =>
    simp only [List.length_cons] at hl
    refine Ite.f (decide_eq_false (by simp; omega)) ⟨x, rfl, Jn.mk (fun y => y = wmax (x :: r)) (Loop.mk (fun s : Int × Int => ∃ i : Nat, s = ((r.take i).foldl imax x, (i : Int) + 1) ∧ i ≤ r.length) (fun s => (r.length + 1 - s.2).toNat) ⟨0, rfl, by omega⟩ ?_) (fun y e => by subst e; exact hp)⟩
    rintro s ⟨i, rfl, hi⟩
    refine Ite.mk (fun hlt => ?_) (fun hge => ?_)
    · have hlt : (i : Int) + 1 < ((x :: r).length : Int) := of_decide_eq_true hlt
      simp only [List.length_cons] at hlt
      have hy : r[i]? = some (r[i]'(by omega)) := List.getElem?_eq_getElem _
      generalize r[i]'_ = y at hy
      have ew : w64 ((i : Int) + 1 + 1) = ((i + 1 : Nat) : Int) + 1 := by rw [w64_s (by omega) (by omega)]; omega
      refine ⟨y, idx_of (n := i + 1) (by simp) (by simpa using hy), ⟨i + 1, ?_, by omega⟩, ?_⟩
      · show (imax ((r.take i).foldl imax x) y, w64 ((i : Int) + 1 + 1)) = _
        rw [ew, take_snoc hy]; simp
      · show ((r.length : Int) + 1 - w64 ((i : Int) + 1 + 1)).toNat < ((r.length : Int) + 1 - ((i : Int) + 1)).toNat
        rw [ew]; omega
    · have hge : ¬ (i : Int) + 1 < ((x :: r).length : Int) := of_decide_eq_false hge
      simp only [List.length_cons] at hge
      have : i = r.length := by omega
      subst this
      show (r.take r.length).foldl imax x = _
      rw [List.take_length]; rfl
/-- the greatest lateness -/
def wst (l : List ApiJob) (s : Int) (ks : List Int) : Int := wmax (lateL l s ks)
theorem S_worst (h : JsOk l) {o : List Int} (ho : o.length ≤ 100) {start : Int} (s0 : 0 ≤ start) (s1 : start ≤ 1099511627776) {post : Int → Prop} (hp : post (wst l start (kn l o))) : V_batch_Worst l o start post := by
  unfold V_batch_Worst
  have hkl := Nat.le_trans (kn_len (l := l) (o := o)) ho
  refine S_ends h ho s0 s1 (S_known ho ?_)
  generalize hks : kn l o = ks at *
  have hk : AllIn l ks := by rw [← hks]; exact kn_in
  refine Jn.mk (fun x => x = lateL l start ks) (V_loopc (xs := ks) (by unfold maxLen; omega) (fun t : List Int × Int => t.2) (fun i t => t.1 = lateL l start (ks.take i)) rfl (by simp [lateL]) (fun i x t hx ht hI => ?_) (fun t hI => ?_)) (fun x e => ?_)
  · have hi := (List.getElem?_eq_some_iff.1 hx).1
    have hin := hk x (List.mem_of_getElem? hx)
    have hw := Wrk_bd h (ks := ks.take i) (fun k hk' => hk k (List.mem_of_mem_take hk'))
    have hj := h.at hin
    have := hj.w0; have := hj.w1; have := hj.d0; have := hj.d1
    rw [List.length_take] at hw
    refine ⟨_, by rw [ht]; exact idx_of rfl (endsL_get hx), _, jb_get hin.1 hin.2, ?_⟩
    have ew : w64 (start + Wrk l (ks.take i) + (jb l x).Work - (jb l x).Due) = start + Wrk l (ks.take i) + (jb l x).Work - (jb l x).Due := w64_eq (by omega) (by omega)
    rw [ew]
    refine ⟨by rw [hI, lateL_len, List.length_take]; simp; omega, by rw [ht], ?_⟩
    rw [take_snoc hx, lateL_snoc, hI]
  · rw [hI, List.take_length]
  · subst e
    refine Ite.mk (fun h0 => ?_) (fun h0 => ?_)
    · have : lateL l start ks = [] := by simpa using h0
      unfold wst at hp; rw [this] at hp; exact hp
    · exact S_max (fun e => by simp [e] at h0) (by rw [lateL_len]; omega) hp
/-! ## the reference -/
theorem S_ref_known {o : List Int} (ho : o.length ≤ 100) {post : List Int → Prop} (hp : post (kn l o)) : V_taquinref43_known l o post := by
  unfold V_taquinref43_known
  refine Jn.mk (fun x => x = kn l o) (V_loopj (xs := o) (by unfold maxLen; omega) (fun t : List Int × Int => t.2) (fun i t => t.1 = kn l (o.take i)) rfl (by simp [kn]) (fun i x t hx ht hI => ?_) (fun t hI => ?_)) (fun x e => by subst e; exact hp)
  · have hl : t.1.length ≤ 100 := by rw [hI]; exact Nat.le_trans kn_len (by rw [List.length_take]; omega)
    refine Jn.mk (fun b => b = !(decide (x < 0) || decide (x ≥ (l.length : Int)))) ⟨x, by rw [ht]; exact idx_of rfl hx, Ite.mk (fun h => ?_) (fun h => ?_)⟩ (fun b hb => ?_)
    · have h : x ≥ 0 := of_decide_eq_true h
      rw [decide_eq_false (by omega : ¬ x < 0)]
      by_cases h2 : x < l.length <;> simp [h2] <;> omega
    · have h : ¬ x ≥ 0 := of_decide_eq_false h
      rw [decide_eq_true (by omega : x < 0)]; rfl
    · subst hb
      refine Jn.mk (fun y => y = kn l (o.take (i + 1))) (Ite.mk (fun h => ⟨x, by rw [ht]; exact idx_of rfl hx, by simp; omega, ?_⟩) (fun h => ?_)) (fun y e => ⟨by rw [ht], e⟩)
      · rw [take_snoc hx, hI]; unfold kn; rw [List.filter_append]; simp only [List.filter_cons, h, if_true, List.filter_nil]
      · show t.1 = _
        rw [take_snoc hx, hI]; unfold kn; rw [List.filter_append]; simp only [List.filter_cons, h, List.filter_nil]; simp
  · rw [hI, List.take_length]
theorem S_ref_ends (h : JsOk l) {o : List Int} (ho : o.length ≤ 100) {start : Int} (s0 : 0 ≤ start) (s1 : start ≤ 1099511627776) {post : List Int → Prop} (hp : post (endsL l start (kn l o))) : V_taquinref43_Ends l o start post := by
  unfold V_taquinref43_Ends
  exact S_ref_known ho (S_ends_loop h kn_in (Nat.le_trans kn_len ho) s0 s1 hp)
theorem kn_kn {o : List Int} : kn l (kn l o) = kn l o := kn_all kn_in
theorem S_ref_worst (h : JsOk l) {o : List Int} (ho : o.length ≤ 100) {start : Int} (s0 : 0 ≤ start) (s1 : start ≤ 1099511627776) {post : Int → Prop} (hp : post (wst l start (kn l o))) : V_taquinref43_Worst l o start post := by
  unfold V_taquinref43_Worst
  have hkl := Nat.le_trans (kn_len (l := l) (o := o)) ho
  refine S_ref_known ho (S_ref_ends h hkl s0 s1 ?_)
  rw [kn_kn]
  generalize hks : kn l o = ks at *
  have hk : AllIn l ks := by rw [← hks]; exact kn_in
  refine Jn.mk (fun x => x = wst l start ks) (V_loopj (xs := ks) (by unfold maxLen; omega) (fun t : Int × Int => t.2) (fun i t => t.1 = wst l start (ks.take i)) rfl (by simp [wst, lateL, wmax]) (fun i x t hx ht hI => ?_) (fun t hI => ?_)) (fun x e => by subst e; exact hp)
  · have hi := (List.getElem?_eq_some_iff.1 hx).1
    have hin := hk x (List.mem_of_getElem? hx)
    have hw := Wrk_bd h (ks := ks.take i) (fun k hk' => hk k (List.mem_of_mem_take hk'))
    have hj := h.at hin
    have := hj.w0; have := hj.w1; have := hj.d0; have := hj.d1
    rw [List.length_take] at hw
    have ew : w64 (start + Wrk l (ks.take i) + (jb l x).Work - (jb l x).Due) = start + Wrk l (ks.take i) + (jb l x).Work - (jb l x).Due := w64_eq (by omega) (by omega)
    refine ⟨_, by rw [ht]; exact idx_of rfl (endsL_get hx), x, by rw [ht]; exact idx_of rfl hx, _, jb_get hin.1 hin.2, ?_⟩
    rw [ew]
    have e0 : ks.take i = [] ↔ i = 0 := by
      rw [List.take_eq_nil_iff]
      constructor
      · intro h
        rcases h with h | h
        · exact h
        · rw [h] at hi; exact absurd hi (Nat.not_lt_zero _)
      · exact .inl
    have key : wst l start (ks.take (i + 1)) = if i = 0 then start + Wrk l (ks.take i) + (jb l x).Work - (jb l x).Due else imax (wst l start (ks.take i)) (start + Wrk l (ks.take i) + (jb l x).Work - (jb l x).Due) := by
      unfold wst; rw [take_snoc hx, lateL_snoc, wmax_snoc]
      have : lateL l start (ks.take i) = [] ↔ i = 0 := by
        rw [← List.length_eq_zero_iff, lateL_len, List.length_eq_zero_iff, e0]
      simp only [this]
    refine Jn.mk (fun b => b = (decide (i = 0) || decide (start + Wrk l (ks.take i) + (jb l x).Work - (jb l x).Due > t.1))) (Ite.mk (fun h0 => ?_) (fun h0 => ?_)) (fun b hb => ?_)
    · have : i = 0 := by rw [ht] at h0; simpa using h0
      simp [this]
    · have : i ≠ 0 := by rw [ht] at h0; simpa using h0
      simp [this]
    · subst hb
      refine Jn.mk (fun y => y = wst l start (ks.take (i + 1))) (Ite.mk (fun h0 => ?_) (fun h0 => ?_)) (fun y e => ⟨by rw [ht], e⟩)
      · rw [key]
        split
        · rfl
        · rename_i hn
          have h0 : start + Wrk l (ks.take i) + (jb l x).Work - (jb l x).Due > t.1 := by simpa [hn] using h0
          rw [← hI]; unfold imax; split <;> omega
      · have hn : i ≠ 0 ∧ ¬ start + Wrk l (ks.take i) + (jb l x).Work - (jb l x).Due > t.1 := by simpa using h0
        rw [key, if_neg hn.1, ← hI]; unfold imax; have := hn.2; split <;> omega
  · rw [hI, List.take_length]
end
end Go.Taq
