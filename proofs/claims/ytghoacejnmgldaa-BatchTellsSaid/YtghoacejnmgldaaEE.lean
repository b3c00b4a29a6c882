/- The mathematics, part EE: the order by due times (chapter 43). -/
import Derived.Test.YtghoacejnmgldaaED
set_option linter.unusedVariables false
set_option linter.unusedSimpArgs false
set_option maxRecDepth 100000
set_option maxHeartbeats 2000000
namespace Go.Taq
open Go

/-- the numbers from s on -/
def irg (s k : Nat) : List Int := (List.range' s k).map (fun n : Nat => (n : Int))
@[simp] theorem irg_len (s k : Nat) : (irg s k).length = k := by simp [irg]
theorem irg_app (s a b : Nat) : irg s (a + b) = irg s a ++ irg (s + a) b := by
  unfold irg; rw [← List.map_append, List.range'_append_1]
theorem irg_one (s : Nat) : irg s 1 = [(s : Int)] := rfl
theorem mem_irg {s k : Nat} {x : Int} : x ∈ irg s k ↔ (s : Int) ≤ x ∧ x < (s + k : Nat) := by
  unfold irg
  simp only [List.mem_map, List.mem_range'_1]
  constructor
  · rintro ⟨n, ⟨h1, h2⟩, rfl⟩; omega
  · intro h; exact ⟨x.toNat, by omega, by omega⟩
theorem irg_lt (s k : Nat) : (irg s k).Pairwise (· < ·) := by
  unfold irg
  rw [List.pairwise_map]
  exact (List.pairwise_lt_range' (s := s) (n := k) 1).imp (fun h => by omega)
theorem irg_nodup (s k : Nat) : (irg s k).Nodup := (irg_lt s k).imp (fun h => by omega)
section
variable {l : List ApiJob}
theorem Srt.uniq : ∀ {A B : List Int}, Srt l A → Srt l B → A.Perm B → A = B
  | [], B, _, _, h => (List.Perm.nil_eq h)
  | a :: A, [], _, _, h => by have := h.length_eq; simp at this
  | a :: A, b :: B, hA, hB, h => by
    have hA' := List.pairwise_cons.1 hA
    have hB' := List.pairwise_cons.1 hB
    have e : a = b := by
      have h1 : a ∈ b :: B := h.mem_iff.1 (by simp)
      have h2 : b ∈ a :: A := h.mem_iff.2 (by simp)
      rcases List.mem_cons.1 h1 with e | h1
      · exact e
      · rcases List.mem_cons.1 h2 with e | h2
        · exact e.symm
        · exact absurd (hA'.1 b h2) (hB'.1 a h1).asymm
    subst e
    rw [Srt.uniq hA'.2 hB'.2 ((List.perm_cons _).1 h)]
/-- a range of the jobs, in order -/
def Seg (l : List ApiJob) (s : Nat) (xs : List Int) : Prop := xs.Perm (irg s xs.length) ∧ Srt l xs
theorem Seg.mem {s : Nat} {xs : List Int} (h : Seg l s xs) {x : Int} (hx : x ∈ xs) : (s : Int) ≤ x ∧ x < (s + xs.length : Nat) := mem_irg.1 (h.1.mem_iff.1 hx)
theorem Seg.nil (s : Nat) : Seg l s [] := ⟨.refl _, .nil⟩
inductive Segs (l : List ApiJob) (bs : Nat) : Nat → List Int → Prop where
  | nil (s : Nat) : Segs l bs s []
  | cons {s : Nat} {B R : List Int} (h : Seg l s B) (hb : B.length = bs) (hr : Segs l bs (s + bs) R) : Segs l bs s (B ++ R)
theorem Segs.snoc {bs s : Nat} {D B : List Int} (h : Segs l bs s D) (hB : Seg l (s + D.length) B) (hb : B.length = bs) : Segs l bs s (D ++ B) := by
  induction h with
  | nil s => simpa using Segs.cons (by simpa using hB) hb (.nil _)
  | cons h1 h2 h3 ih =>
    rename_i s B' R
    rw [List.append_assoc]
    refine .cons h1 h2 (ih ?_)
    rw [List.length_append, h2] at hB
    rwa [Nat.add_assoc]
theorem S_insertion0 {data : List Int} {a b : Int} (h0 : 0 ≤ a) (h1 : a ≤ 1000) (hab : b ≤ a) {post : List Int → Prop} (hp : post data) : V_slices_insertionSortCmpFunc_int__o0_batch_Due_1 a b l data post := by
  unfold V_slices_insertionSortCmpFunc_int__o0_batch_Due_1
  rw [w64_s (by omega) (by omega)]
  refine Jn.mk' (Loop.step (Ite.f (decide_eq_false ?_) hp))
  show ¬ (a + 1 < b); omega
theorem S_ins {P S : List Int} {k : Nat} (hs : (P ++ irg P.length k ++ S).length ≤ 1000) (hl : P.length + k ≤ l.length) {a b : Int} (ea : a = P.length) (eb : b = (P.length + k : Nat)) {post : List Int → Prop} (hp : ∀ D, Seg l P.length D → D.length = k → post (P ++ D ++ S)) :
    V_slices_insertionSortCmpFunc_int__o0_batch_Due_1 a b l (P ++ irg P.length k ++ S) post := by
  simp only [List.length_append, irg_len] at hs
  cases k with
  | zero => exact S_insertion0 (by omega) (by omega) (by omega) (by simpa [irg] using hp [] (Seg.nil _) rfl)
  | succ k =>
    have e : irg P.length (k + 1) = irg P.length 1 ++ irg (P.length + 1) k := by rw [Nat.add_comm k 1, irg_app]
    rw [e]
    refine S_insertion (by rw [← e]; simp only [List.length_append, irg_len]; omega) (by simp) (by rw [← e]; exact irg_lt _ _) (fun x hx => ?_) ea (by rw [← e]; simpa using eb) fun D h1 h2 => ?_
    · rw [← e] at hx
      have := mem_irg.1 hx
      exact ⟨by omega, by omega⟩
    · rw [← e] at h1
      have hk : D.length = k + 1 := by rw [h1.length_eq]; simp
      exact hp D ⟨by rw [hk]; exact h1, h2⟩ hk
theorem S_mrg {P A B S : List Int} (hA : Seg l P.length A) (hB : Seg l (P.length + A.length) B) (la : 0 < A.length) (lb : 0 < B.length) (hs : (P ++ A ++ B ++ S).length ≤ 1000) (hl : P.length + A.length + B.length ≤ l.length) {a m b : Int} (ea : a = P.length) (em : m = (P.length + A.length : Nat)) (eb : b = (P.length + A.length + B.length : Nat))
    {post : List Int → Prop} (hp : ∀ D, Seg l P.length D → D.length = A.length + B.length → post (P ++ D ++ S)) : V_slices_symMergeCmpFunc_int__o0_batch_Due_1 a m b l (P ++ A ++ B ++ S) post := by
  refine S_sym ⟨fun e => by subst e; simp at la, fun e => by subst e; simp at lb, hs, hA.2, hB.2, fun x hx y hy => ?_, fun x hx => ?_⟩ ea em eb fun D h1 h2 => ?_
  · have := hA.mem hx; have := hB.mem hy; omega
  · rcases List.mem_append.1 hx with hx | hx
    · have := hA.mem hx; exact ⟨by omega, by omega⟩
    · have := hB.mem hx; exact ⟨by omega, by omega⟩
  · have hk : D.length = A.length + B.length := by rw [h1.length_eq]; simp
    refine hp D ⟨?_, h2⟩ hk
    rw [hk, irg_app]
    exact h1.trans (hA.1.append hB.1)
theorem S_stable (hl : l.length ≤ 500) {n : Int} (hn : n = l.length) {post : List Int → Prop} (hp : ∀ D, Seg l 0 D → D.length = l.length → post D) : V_slices_stableCmpFunc_int__o0_batch_Due_1 n l (irg 0 l.length) post := by
  unfold V_slices_stableCmpFunc_int__o0_batch_Due_1
  refine Jn.mk (fun x : List Int × Int => ∃ D : List Int, ∃ k : Nat, x = (D ++ irg D.length k, (D.length : Int)) ∧ Segs l 20 0 D ∧ D.length + k = l.length ∧ k < 20)
    (Loop.mk (fun s : List Int × Int × Int => ∃ D : List Int, ∃ k : Nat, s = (D ++ irg D.length k, (D.length : Int), ((D.length + 20 : Nat) : Int)) ∧ Segs l 20 0 D ∧ D.length + k = l.length) (fun s => (n + 20 - s.2.2).toNat) ⟨[], l.length, rfl, .nil _, by simp⟩ ?_) ?_
  · rintro s ⟨D, k, rfl, h1, h2⟩
    refine Ite.mk (fun hle => ?_) (fun hgt => ?_)
    · have hle : ((D.length + 20 : Nat) : Int) ≤ n := of_decide_eq_true hle
      obtain ⟨k, rfl⟩ : ∃ k', k = 20 + k' := ⟨k - 20, by omega⟩
      have e : D ++ irg D.length (20 + k) = D ++ irg D.length 20 ++ irg (D.length + 20) k := by rw [irg_app]; simp
      show V_slices_insertionSortCmpFunc_int__o0_batch_Due_1 (D.length : Int) ((D.length + 20 : Nat) : Int) l (D ++ irg D.length (20 + k)) _
      rw [e]
      refine S_ins (by simp only [List.length_append, irg_len]; omega) (by omega) rfl rfl fun B hB hk => ?_
      have e1 : (D ++ B).length = D.length + 20 := by simp [hk]
      have ew : w64 (((D.length + 20 : Nat) : Int) + 20) = (((D ++ B).length + 20 : Nat) : Int) := by rw [w64_s (by omega) (by omega), e1]; omega
      refine ⟨⟨D ++ B, k, ?_, h1.snoc (by simpa using hB) hk, by omega⟩, ?_⟩
      · show (D ++ B ++ irg (D.length + 20) k, ((D.length + 20 : Nat) : Int), w64 (((D.length + 20 : Nat) : Int) + 20)) = _
        rw [ew, e1]
      · show (n + 20 - w64 (((D.length + 20 : Nat) : Int) + 20)).toNat < (n + 20 - ((D.length + 20 : Nat) : Int)).toNat
        rw [ew, e1]; omega
    · have hgt : ¬ ((D.length + 20 : Nat) : Int) ≤ n := of_decide_eq_false hgt
      exact ⟨D, k, rfl, h1, h2, by omega⟩
  · rintro x ⟨D, k, rfl, h1, h2, h3⟩
    have e0 : D ++ irg D.length k = D ++ irg D.length k ++ [] := by simp
    show V_slices_insertionSortCmpFunc_int__o0_batch_Due_1 (D.length : Int) n l (D ++ irg D.length k) _
    rw [e0]
    refine S_ins (by simp only [List.length_append, irg_len, List.length_nil]; omega) (by omega) rfl (by omega) fun L hL hk => ?_
    refine Jn.mk (fun x => Seg l 0 x ∧ x.length = l.length) (Loop.mk (fun s : List Int × Int => ∃ (bs : Nat) (D L : List Int), s = (D ++ L, (bs : Int)) ∧ Segs l bs 0 D ∧ Seg l D.length L ∧ L.length < bs ∧ D.length + L.length = l.length ∧ bs ≤ 1000) (fun s => (n - s.2).toNat)
      ⟨20, D, L, by simp, h1, hL, by omega, by omega, by omega⟩ ?_) (fun x hx => hp x hx.1 hx.2)
    clear h1 h2 h3 hL hk e0
    rintro s ⟨bs, D, L, rfl, h1, h2, h3, h4, h5⟩
    refine Ite.mk (fun hlt => ?_) (fun hge => ?_)
    · have hlt : (bs : Int) < n := of_decide_eq_true hlt
      have ew2 : w64 (2 * (bs : Int)) = ((2 * bs : Nat) : Int) := by rw [w64_s (by omega) (by omega)]; omega
      have ew3 : w64 ((bs : Int) * 2) = ((2 * bs : Nat) : Int) := by rw [w64_s (by omega) (by omega)]; omega
      simp only [ew2, ew3]
      refine Jn.mk (fun x => ∃ D' L', x = D' ++ L' ∧ Segs l (2 * bs) 0 D' ∧ Seg l D'.length L' ∧ L'.length < 2 * bs ∧ D'.length + L'.length = l.length) ?_ (fun x hx => ?_)
      · refine Jn.mk (fun x : List Int × Int => ∃ D2 R, x = (D2 ++ R ++ L, (D2.length : Int)) ∧ Segs l (2 * bs) 0 D2 ∧ Segs l bs D2.length R ∧ Seg l (D2.length + R.length) L ∧ D2.length + R.length + L.length = l.length ∧ R.length + L.length < 2 * bs)
          (Loop.mk (fun s : List Int × Int × Int => ∃ D2 R, s = (D2 ++ R ++ L, (D2.length : Int), ((D2.length + 2 * bs : Nat) : Int)) ∧ Segs l (2 * bs) 0 D2 ∧ Segs l bs D2.length R ∧ Seg l (D2.length + R.length) L ∧ D2.length + R.length + L.length = l.length) (fun s => (n + 2 * bs - s.2.2).toNat)
            ⟨[], D, by simp, .nil _, h1, by simpa using h2, by simpa using h4⟩ ?_) ?_
        · rintro s ⟨D2, R, rfl, g1, g2, g3, g4⟩
          refine Ite.mk (fun hle => ?_) (fun hgt => ?_)
          · have hle : ((D2.length + 2 * bs : Nat) : Int) ≤ n := of_decide_eq_true hle
            cases g2 with
            | nil => simp at g4; omega
            | cons b1 b2 b3 =>
              rename_i B1 R
              cases b3 with
              | nil => simp at g4; omega
              | cons c1 c2 c3 =>
                rename_i B2 R
                simp only [List.length_append] at g4 g3
                have ew4 : w64 ((D2.length : Int) + bs) = ((D2.length + B1.length : Nat) : Int) := by rw [w64_s (by omega) (by omega)]; omega
                have e : D2 ++ (B1 ++ (B2 ++ R)) ++ L = D2 ++ B1 ++ B2 ++ (R ++ L) := by simp
                show V_slices_symMergeCmpFunc_int__o0_batch_Due_1 (D2.length : Int) (w64 ((D2.length : Int) + bs)) ((D2.length + 2 * bs : Nat) : Int) l (D2 ++ (B1 ++ (B2 ++ R)) ++ L) _
                rw [ew4, e]
                refine S_mrg b1 (by rw [b2]; exact c1) (by omega) (by omega) (by simp only [List.length_append]; omega) (by omega) rfl rfl (by omega) fun M hM hk => ?_
                have e1 : (D2 ++ M).length = D2.length + 2 * bs := by simp [hk]; omega
                have ew : w64 (((D2.length + 2 * bs : Nat) : Int) + ((2 * bs : Nat) : Int)) = (((D2 ++ M).length + 2 * bs : Nat) : Int) := by rw [w64_s (by omega) (by omega), e1]; omega
                refine ⟨⟨D2 ++ M, R, ?_, g1.snoc (by simpa using hM) (by omega), ?_, ?_, by omega⟩, ?_⟩
                · show (D2 ++ M ++ (R ++ L), ((D2.length + 2 * bs : Nat) : Int), w64 (((D2.length + 2 * bs : Nat) : Int) + ((2 * bs : Nat) : Int))) = _
                  rw [ew, e1]; simp
                · rw [e1]
                  have : D2.length + bs + bs = D2.length + 2 * bs := by omega
                  rwa [this] at c3
                · rw [e1]
                  have : D2.length + 2 * bs + R.length = D2.length + (B1.length + (B2.length + R.length)) := by omega
                  rwa [this]
                · show (n + 2 * bs - w64 (((D2.length + 2 * bs : Nat) : Int) + ((2 * bs : Nat) : Int))).toNat < (n + 2 * bs - ((D2.length + 2 * bs : Nat) : Int)).toNat
                  rw [ew, e1]; omega
          · have hgt : ¬ ((D2.length + 2 * bs : Nat) : Int) ≤ n := of_decide_eq_false hgt
            exact ⟨D2, R, rfl, g1, g2, g3, g4, by omega⟩
        · rintro x ⟨D2, R, rfl, g1, g2, g3, g4, g5⟩
          have ew4 : w64 ((D2.length : Int) + bs) = ((D2.length + bs : Nat) : Int) := by rw [w64_s (by omega) (by omega)]; omega
          simp only [ew4]
          refine Jn.mk' (Ite.mk (fun hc => ?_) (fun hc => ?_))
          · have hc : ((D2.length + bs : Nat) : Int) < n := of_decide_eq_true hc
            cases g2 with
            | nil => simp at g4; omega
            | cons b1 b2 b3 =>
              rename_i B1 R
              cases b3 with
              | cons c1 c2 c3 => simp at g5; omega
              | nil =>
                simp only [List.append_nil] at g3 g4 g5 ⊢
                have e : D2 ++ B1 ++ L = D2 ++ B1 ++ L ++ [] := by simp
                rw [e]
                refine S_mrg b1 g3 (by omega) (by omega) (by simp only [List.length_append, List.length_nil]; omega) (by omega) rfl (by omega) (by omega) fun M hM hk => ?_
                exact ⟨D2, M, by simp, g1, hM, by omega, by omega⟩
          · have hc : ¬ ((D2.length + bs : Nat) : Int) < n := of_decide_eq_false hc
            cases g2 with
            | nil => exact ⟨D2, L, by simp, g1, by simpa using g3, by omega, by simpa using g4⟩
            | cons b1 b2 b3 =>
              rename_i B1 R
              cases b3 with
              | cons c1 c2 c3 => simp at g5; omega
              | nil =>
                simp only [List.append_nil] at g3 g4 g5 ⊢
                have : L = [] := List.length_eq_zero_iff.1 (by omega)
                subst this
                exact ⟨D2, B1, by simp, g1, b1, by omega, by simpa using g4⟩
      · obtain ⟨D', L', rfl, q1, q2, q3, q4⟩ := hx
        refine ⟨⟨2 * bs, D', L', rfl, q1, q2, q3, q4, by omega⟩, ?_⟩
        show (n - ((2 * bs : Nat) : Int)).toNat < (n - (bs : Int)).toNat
        omega
    · have hge : ¬ (bs : Int) < n := of_decide_eq_false hge
      show Seg l 0 (D ++ L) ∧ (D ++ L).length = l.length
      refine ⟨?_, by simpa using h4⟩
      cases h1 with
      | nil => simpa using h2
      | cons b1 b2 b3 =>
        rename_i B1 R
        simp only [List.length_append] at h4
        have e1 : R = [] := List.length_eq_zero_iff.1 (by omega)
        have e2 : L = [] := List.length_eq_zero_iff.1 (by omega)
        subst e1; subst e2
        simpa using b1
/-- the order by due times -/
def DueOf (l : List ApiJob) (D : List Int) : Prop := D.Perm (irg 0 l.length) ∧ Srt l D
theorem DueOf.uniq {D E : List Int} (h : DueOf l D) (g : DueOf l E) : D = E := Srt.uniq h.2 g.2 (h.1.trans g.1.symm)
theorem S_batch_Due (hl : l.length ≤ 500) {post : List Int → Prop} (hp : ∀ D, DueOf l D → post D) : V_batch_Due l post := by
  unfold V_batch_Due
  refine Jn.mk (fun x => x = irg 0 l.length) (Loop.mk (fun s : List Int × Int => ∃ i : Nat, s = (irg 0 i, (i : Int)) ∧ i ≤ l.length) (fun s => (l.length - s.2).toNat) ⟨0, rfl, by omega⟩ ?_) (fun x e => ?_)
  · rintro s ⟨i, rfl, hi⟩
    refine Ite.mk (fun hlt => ?_) (fun hge => ?_)
    · have hlt : (i : Int) < l.length := of_decide_eq_true hlt
      have ew : w64 ((i : Int) + 1) = ((i + 1 : Nat) : Int) := by rw [w64_s (by omega) (by omega)]; omega
      refine ⟨by simp; omega, ⟨i + 1, ?_, by omega⟩, ?_⟩
      · show (irg 0 i ++ [(i : Int)], w64 ((i : Int) + 1)) = _
        rw [ew, irg_app, Nat.zero_add, irg_one]
      · show ((l.length : Int) - w64 ((i : Int) + 1)).toNat < ((l.length : Int) - (i : Int)).toNat
        rw [ew]; omega
    · have hge : ¬ (i : Int) < l.length := of_decide_eq_false hge
      have : i = l.length := by omega
      subst this; rfl
  · subst e
    unfold V_slices_SortStableFunc_int_int__o0_batch_Due_1
    exact S_stable hl (by simp) fun D h1 h2 => hp D ⟨by rw [← h2]; exact h1.1, h1.2⟩
end
end Go.Taq
