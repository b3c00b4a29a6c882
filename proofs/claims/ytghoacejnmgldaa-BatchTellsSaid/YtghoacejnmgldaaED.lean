/- The mathematics, part ED: the merge in place is right (chapter 43). -/
import Derived.Test.YtghoacejnmgldaaEC
set_option linter.unusedVariables false
set_option linter.unusedSimpArgs false
set_option maxRecDepth 100000
set_option maxHeartbeats 4000000
namespace Go.Taq
open Go

theorem ilt (a b : Int) : a < b ∨ b ≤ a := by omega
theorem tup5 {a a' m m' b b' : Int} {l : List ApiJob} {x x' : List Int} (h1 : a = a') (h2 : m = m') (h3 : b = b') (h4 : x = x') : ((a, m, b, l, x) : SymT) = (a', m', b', l, x') := by subst h1; subst h2; subst h3; subst h4; rfl
section
variable {l : List ApiJob}
/-- what is asked of a merge of two ranges -/
structure Mg (l : List ApiJob) (P A B S : List Int) : Prop where
  a : A ≠ []
  b : B ≠ []
  s : (P ++ A ++ B ++ S).length ≤ 1000
  sa : Srt l A
  sb : Srt l B
  x : ∀ x, x ∈ A → ∀ y, y ∈ B → x < y
  i : ∀ x, x ∈ A ++ B → In l x
theorem sym_body {self : SymT → (List Int → Prop) → Prop} {P A B S : List Int} (h : Mg l P A B S) {a m b : Int} (ea : a = P.length) (em : m = (P.length + A.length : Nat)) (eb : b = (P.length + A.length + B.length : Nat))
    (ih : ∀ (P' A' B' S' : List Int) (q : List Int → Prop), Mg l P' A' B' S' → A'.length + B'.length < A.length + B.length → (∀ D, D.Perm (A' ++ B') → Srt l D → q (P' ++ D ++ S')) →
      self ((P'.length : Int), ((P'.length + A'.length : Nat) : Int), ((P'.length + A'.length + B'.length : Nat) : Int), l, P' ++ A' ++ B' ++ S') q)
    {post : List Int → Prop} (hp : ∀ D, D.Perm (A ++ B) → Srt l D → post (P ++ D ++ S)) :
    B_slices_symMergeCmpFunc_int__o0_batch_Due_1 self a m b l (P ++ A ++ B ++ S) post := by
  have hs := h.s
  simp only [List.length_append] at hs
  have la := List.length_pos_iff.2 h.a
  have lb := List.length_pos_iff.2 h.b
  have i1 : w64 (m - a) = (A.length : Int) := by rw [w64_s (by omega) (by omega)]; omega
  have i2 : w64 (b - m) = (B.length : Int) := by rw [w64_s (by omega) (by omega)]; omega
  unfold B_slices_symMergeCmpFunc_int__o0_batch_Due_1
  rw [i1, i2]
  refine Ite.mk (fun h1 => ?_) (fun h1 => Ite.mk (fun h2 => ?_) (fun h2 => ?_))
  · have h1 : A.length = 1 := by have : (A.length : Int) = 1 := by simpa using h1
                                 omega
    obtain ⟨x, rfl⟩ := List.length_eq_one_iff.1 h1
    have hx := h.x x (by simp)
    have xin := h.i x (by simp)
    have bin : ∀ y, y ∈ B → In l y := fun y hy => h.i y (by simp [hy])
    simp only [List.length_cons, List.length_nil] at em eb hs
    refine Jn.mk (fun c => ∃ k : Nat, k ≤ B.length ∧ c = m + k ∧ (∀ y, y ∈ B.take k → bef l y x) ∧ (∀ y, y ∈ B.drop k → bef l x y)) (V_bisect (fun h => ∃ y, B[(h - m).toNat]? = some y ∧ bef l y x) (by omega) (by omega) (by omega)
      (fun c => ∃ k : Nat, k ≤ B.length ∧ c = m + k ∧ (∀ y, y ∈ B.take k → bef l y x) ∧ (∀ y, y ∈ B.drop k → bef l x y)) (fun i j g1 g2 g3 Y gt gf => ?_) (fun c g1 g2 g3 g4 => ?_)) ?_
    · have eh := half (i := i) (j := j) (by omega) (by omega)
      simp only [eh]
      have hlt : ((i + j) / 2 - m).toNat < B.length := by omega
      have hy : B[((i + j) / 2 - m).toNat]? = some (B[((i + j) / 2 - m).toNat]'hlt) := List.getElem?_eq_getElem hlt
      generalize B[((i + j) / 2 - m).toNat]'hlt = y at hy
      have hym := List.mem_of_getElem? hy
      refine ⟨y, idx_in (A := P ++ [x]) (k := ((i + j) / 2 - m).toNat) (by simp; omega) hy, x, ?_, S_due1 (bin y hym) xin (Jn.mk' (Ite.mk (fun hc => ?_) (fun hc => ?_)))⟩
      · have : P ++ [x] ++ B ++ S = P ++ x :: (B ++ S) := by simp
        rw [this]; exact idx_mid ea
      · rw [w64_s (by omega) (by omega)]
        exact gt ⟨y, hy, (bef_iff (hx y hym)).1 (cmpI_lt.1 (of_decide_eq_true hc))⟩
      · refine gf ?_
        rintro ⟨y', e, hb⟩
        rw [hy] at e; cases e
        exact of_decide_eq_false hc (cmpI_lt.2 ((bef_iff (hx y hym)).2 hb))
    · refine ⟨(c - m).toNat, by omega, by omega, ?_, ?_⟩
      · rcases g3 with e | ⟨y, hy, hb⟩
        · have : (c - m).toNat = 0 := by omega
          rw [this]; simp
        · rcases ilt c (m + 1) with hc | hc
          · have : (c - m).toNat = 0 := by omega
            rw [this]; simp
          · have : (c - m).toNat = (c - 1 - m).toNat + 1 := by omega
            rw [this]; exact h.sb.before hy hb
      · rcases ilt c b with hc | hc
        · have g4 := g4.resolve_left (by omega)
          have hlt : (c - m).toNat < B.length := by omega
          have hy : B[(c - m).toNat]? = some (B[(c - m).toNat]'hlt) := List.getElem?_eq_getElem hlt
          generalize B[(c - m).toNat]'hlt = y at hy
          exact h.sb.after hy (bef.le (fun hb => g4 ⟨y, hy, hb⟩) (by have := hx y (List.mem_of_getElem? hy); omega))
        · rw [List.drop_eq_nil_of_le (by omega)]; simp
    · rintro c ⟨k, hk, rfl, ht, hd⟩
      refine Jn.mk' ?_
      have e : P ++ [x] ++ B ++ S = P ++ x :: B.take k ++ (B.drop k ++ S) := by
        simp only [List.append_assoc, List.cons_append, List.nil_append, List.singleton_append]
        rw [← List.append_assoc (B.take k), List.take_append_drop]
      rw [e]
      refine S_up (by rw [← e]; exact h.s) ea (by rw [List.length_take]; omega) ?_
      have e2 : P ++ B.take k ++ x :: (B.drop k ++ S) = P ++ (B.take k ++ x :: B.drop k) ++ S := by simp
      rw [e2]
      refine hp _ ?_ ?_
      · have := List.perm_middle (a := x) (l₁ := B.take k) (l₂ := B.drop k)
        rw [List.take_append_drop] at this; exact this
      · have h3 : Srt l (B.take k ++ B.drop k) := by rw [List.take_append_drop]; exact h.sb
        refine h3.left.app (List.pairwise_cons.2 ⟨hd, h3.right⟩) fun y hy z hz => ?_
        rcases List.mem_cons.1 hz with rfl | hz
        · exact ht y hy
        · exact h3.mid y hy z hz
  · have h2 : B.length = 1 := by have : (B.length : Int) = 1 := by simpa using h2
                                 omega
    obtain ⟨x, rfl⟩ := List.length_eq_one_iff.1 h2
    have hx : ∀ y, y ∈ A → y < x := fun y hy => h.x y hy x (by simp)
    have xin := h.i x (by simp)
    have ain : ∀ y, y ∈ A → In l y := fun y hy => h.i y (by simp [hy])
    simp only [List.length_cons, List.length_nil] at em eb hs
    refine Jn.mk (fun c => ∃ k : Nat, k ≤ A.length ∧ c = a + k ∧ (∀ y, y ∈ A.take k → bef l y x) ∧ (∀ y, y ∈ A.drop k → bef l x y)) (V_bisect (fun h => ∃ y, A[(h - a).toNat]? = some y ∧ bef l y x) (by omega) (by omega) (by omega)
      (fun c => ∃ k : Nat, k ≤ A.length ∧ c = a + k ∧ (∀ y, y ∈ A.take k → bef l y x) ∧ (∀ y, y ∈ A.drop k → bef l x y)) (fun i j g1 g2 g3 Y gt gf => ?_) (fun c g1 g2 g3 g4 => ?_)) ?_
    · have eh := half (i := i) (j := j) (by omega) (by omega)
      simp only [eh]
      have hlt : ((i + j) / 2 - a).toNat < A.length := by omega
      have hy : A[((i + j) / 2 - a).toNat]? = some (A[((i + j) / 2 - a).toNat]'hlt) := List.getElem?_eq_getElem hlt
      generalize A[((i + j) / 2 - a).toNat]'hlt = y at hy
      have hym := List.mem_of_getElem? hy
      refine ⟨x, ?_, y, ?_, S_due1 xin (ain y hym) (Jn.mk' (Ite.mk (fun hc => ?_) (fun hc => ?_)))⟩
      · have : P ++ A ++ [x] ++ S = (P ++ A) ++ x :: S := by simp
        rw [this]; exact idx_mid (by simp; omega)
      · have : P ++ A ++ [x] ++ S = P ++ A ++ ([x] ++ S) := by simp
        rw [this]; exact idx_in (k := ((i + j) / 2 - a).toNat) (by omega) hy
      · rw [w64_s (by omega) (by omega)]
        have hc : ¬ (cmpI (jb l x).Due (jb l y).Due < 0) := by simpa using hc
        have hc : ¬ bef l x y := fun hb => hc (cmpI_lt.2 ((bef_iff (hx y hym)).2 hb))
        exact gt ⟨y, hy, bef.le hc (by have := hx y hym; omega)⟩
      · refine gf ?_
        rintro ⟨y', e, hb⟩
        rw [hy] at e; cases e
        have hc : (cmpI (jb l x).Due (jb l y).Due < 0) := by simpa using hc
        exact hb.asymm ((bef_iff (hx y hym)).1 (cmpI_lt.1 hc))
    · refine ⟨(c - a).toNat, by omega, by omega, ?_, ?_⟩
      · rcases ilt c (a + 1) with hc | hc
        · have : (c - a).toNat = 0 := by omega
          rw [this]; simp
        · obtain ⟨y, hy, hb⟩ := g3.resolve_left (by omega)
          have : (c - a).toNat = (c - 1 - a).toNat + 1 := by omega
          rw [this]; exact h.sa.before hy hb
      · rcases ilt c m with hc | hc
        · have g4 := g4.resolve_left (by omega)
          have hlt : (c - a).toNat < A.length := by omega
          have hy : A[(c - a).toNat]? = some (A[(c - a).toNat]'hlt) := List.getElem?_eq_getElem hlt
          generalize A[(c - a).toNat]'hlt = y at hy
          exact h.sa.after hy (bef.le (fun hb => g4 ⟨y, hy, hb⟩) (by have := hx y (List.mem_of_getElem? hy); omega))
        · rw [List.drop_eq_nil_of_le (by omega)]; simp
    · rintro c ⟨k, hk, rfl, ht, hd⟩
      refine Jn.mk' ?_
      have e : P ++ A ++ [x] ++ S = (P ++ A.take k) ++ A.drop k ++ x :: S := by
        simp only [List.append_assoc, List.cons_append, List.nil_append, List.singleton_append]
        rw [← List.append_assoc (A.take k), List.take_append_drop]
      rw [e]
      refine S_down (by rw [← e]; exact h.s) (by rw [List.length_append, List.length_take, List.length_drop]; omega) (by rw [List.length_append, List.length_take]; omega) ?_
      have e2 : P ++ A.take k ++ x :: A.drop k ++ S = P ++ (A.take k ++ x :: A.drop k) ++ S := by simp
      rw [e2]
      refine hp _ ?_ ?_
      · have := List.perm_middle (a := x) (l₁ := A.take k) (l₂ := A.drop k)
        rw [List.take_append_drop] at this
        exact this.trans (List.perm_append_comm (l₁ := [x]) (l₂ := A))
      · have h3 : Srt l (A.take k ++ A.drop k) := by rw [List.take_append_drop]; exact h.sa
        refine h3.left.app (List.pairwise_cons.2 ⟨hd, h3.right⟩) fun y hy z hz => ?_
        rcases List.mem_cons.1 hz with rfl | hz
        · exact ht y hy
        · exact h3.mid y hy z hz
  · have h1 : A.length ≠ 1 := fun e => by simp [e] at h1
    have h2 : B.length ≠ 1 := fun e => by simp [e] at h2
    have ain : ∀ y, y ∈ A → In l y := fun y hy => h.i y (by simp [hy])
    have bin : ∀ y, y ∈ B → In l y := fun y hy => h.i y (by simp [hy])
    have eh := half (i := a) (j := b) (by omega) (by omega)
    obtain ⟨mid, hmid⟩ : ∃ q, q = (a + b) / 2 := ⟨_, rfl⟩
    rw [← hmid] at eh
    have ew : w64 (mid + m) = mid + m := w64_s (by omega) (by omega)
    have ew1 : w64 (mid + m - 1) = mid + m - 1 := w64_s (by omega) (by omega)
    have ew2 : w64 (mid + m - b) = mid + m - b := w64_s (by omega) (by omega)
    simp only [eh, ew, ew1, ew2]
    refine Jn.mk (fun r : Int × Int => a ≤ r.1 ∧ r.1 ≤ r.2 ∧ r.2 ≤ m ∧ m ≤ mid + m - r.2 ∧ mid + m - r.1 ≤ b ∧ (r.1 = a ∨ mid + m - r.1 = b) ∧ (r.2 = m ∨ mid + m - r.2 = m)) (Ite.mk (fun hc => ?_) (fun hc => ?_)) ?_
    · have hc : m > mid := of_decide_eq_true hc
      refine ⟨?_, ?_, ?_, ?_, ?_, ?_, ?_⟩ <;> (try simp only [eq_self, true_or, or_true]) <;> omega
    · have hc : ¬ m > mid := of_decide_eq_false hc
      refine ⟨?_, ?_, ?_, ?_, ?_, ?_, ?_⟩ <;> (try simp only [eq_self, true_or, or_true]) <;> omega
    rintro ⟨lo, hi⟩ ⟨f1, f2, f3, f4, f5, f6, f7⟩
    simp only at f1 f2 f3 f4 f5 f6 f7
    refine Jn.mk (fun c => ∃ A1 A2 B1 B2, A = A1 ++ A2 ∧ B = B1 ++ B2 ∧ c = a + A1.length ∧ mid + m - c = m + B1.length ∧ (∀ z, z ∈ A1 → ∀ w, w ∈ B2 → bef l z w) ∧ (∀ w, w ∈ B1 → ∀ z, z ∈ A2 → bef l w z))
      (V_bisect (fun h => ∃ y z, A[(h - a).toNat]? = some y ∧ B[(mid - 1 - h).toNat]? = some z ∧ bef l y z) (by omega) f2 (by omega)
        (fun c => ∃ A1 A2 B1 B2, A = A1 ++ A2 ∧ B = B1 ++ B2 ∧ c = a + A1.length ∧ mid + m - c = m + B1.length ∧ (∀ z, z ∈ A1 → ∀ w, w ∈ B2 → bef l z w) ∧ (∀ w, w ∈ B1 → ∀ z, z ∈ A2 → bef l w z)) (fun i j g1 g2 g3 Y gt gf => ?_) (fun c g1 g2 g3 g4 => ?_)) ?_
    · have eh2 := half (i := i) (j := j) (by omega) (by omega)
      simp only [eh2]
      have ew3 : w64 (mid + m - 1 - (i + j) / 2) = mid + m - 1 - (i + j) / 2 := w64_s (by omega) (by omega)
      simp only [ew3]
      have hlt : ((i + j) / 2 - a).toNat < A.length := by omega
      have hy : A[((i + j) / 2 - a).toNat]? = some (A[((i + j) / 2 - a).toNat]'hlt) := List.getElem?_eq_getElem hlt
      generalize A[((i + j) / 2 - a).toNat]'hlt = y at hy
      have hltz : (mid - 1 - (i + j) / 2).toNat < B.length := by omega
      have hz : B[(mid - 1 - (i + j) / 2).toNat]? = some (B[(mid - 1 - (i + j) / 2).toNat]'hltz) := List.getElem?_eq_getElem hltz
      generalize B[(mid - 1 - (i + j) / 2).toNat]'hltz = z at hz
      have hym := List.mem_of_getElem? hy
      have hzm := List.mem_of_getElem? hz
      have hyz := h.x y hym z hzm
      refine ⟨z, idx_in (A := P ++ A) (k := (mid - 1 - (i + j) / 2).toNat) (by simp; omega) hz, y, ?_, S_due1 (bin z hzm) (ain y hym) (Jn.mk' (Ite.mk (fun hc => ?_) (fun hc => ?_)))⟩
      · have : P ++ A ++ B ++ S = P ++ A ++ (B ++ S) := by simp
        rw [this]; exact idx_in (k := ((i + j) / 2 - a).toNat) (by omega) hy
      · rw [w64_s (by omega) (by omega)]
        have hc : ¬ (cmpI (jb l z).Due (jb l y).Due < 0) := by simpa using hc
        have hc : ¬ bef l z y := fun hb => hc (cmpI_lt.2 ((bef_iff hyz).2 hb))
        exact gt ⟨y, z, hy, hz, bef.le hc (by omega)⟩
      · refine gf ?_
        rintro ⟨y', z', e, e', hb⟩
        rw [hy] at e; cases e
        rw [hz] at e'; cases e'
        have hc : (cmpI (jb l z).Due (jb l y).Due < 0) := by simpa using hc
        exact hb.asymm ((bef_iff hyz).1 (cmpI_lt.1 hc))
    · refine ⟨A.take (c - a).toNat, A.drop (c - a).toNat, B.take (mid - c).toNat, B.drop (mid - c).toNat, by simp, by simp, by rw [List.length_take]; omega, by rw [List.length_take]; omega, ?_, ?_⟩
      · intro z hz w hw
        rcases ilt lo c with hc | hc
        · obtain ⟨y, v, hy, hv, hb⟩ := g3.resolve_left (by omega)
          have e1 : (c - a).toNat = (c - 1 - a).toNat + 1 := by omega
          have e2 : (mid - c).toNat = (mid - 1 - (c - 1)).toNat := by omega
          rw [e1] at hz; rw [e2] at hw
          exact h.sa.before hy (h.sb.after hv hb w hw) z hz
        · rcases f6 with e | e
          · have : (c - a).toNat = 0 := by omega
            rw [this] at hz; simp at hz
          · rw [List.drop_eq_nil_of_le (by omega)] at hw; simp at hw
      · intro w hw z hz
        rcases ilt c hi with hc | hc
        · have g4 := g4.resolve_left (by omega)
          have hlt : (c - a).toNat < A.length := by omega
          have hy : A[(c - a).toNat]? = some (A[(c - a).toNat]'hlt) := List.getElem?_eq_getElem hlt
          generalize A[(c - a).toNat]'hlt = y at hy
          have hltz : (mid - 1 - c).toNat < B.length := by omega
          have hv : B[(mid - 1 - c).toNat]? = some (B[(mid - 1 - c).toNat]'hltz) := List.getElem?_eq_getElem hltz
          generalize B[(mid - 1 - c).toNat]'hltz = v at hv
          have hb : bef l v y := bef.le (fun hb => g4 ⟨y, v, hy, hv, hb⟩) (by have := h.x y (List.mem_of_getElem? hy) v (List.mem_of_getElem? hv); omega)
          have e2 : (mid - c).toNat = (mid - 1 - c).toNat + 1 := by omega
          rw [e2] at hw
          exact h.sb.before hv (h.sa.after hy hb z hz) w hw
        · rcases f7 with e | e
          · rw [List.drop_eq_nil_of_le (by omega)] at hz; simp at hz
          · have : (mid - c).toNat = 0 := by omega
            rw [this] at hw; simp at hw
    rintro c ⟨A1, A2, B1, B2, rfl, rfl, ec, ej, hl, hr⟩
    simp only [List.length_append] at hs em eb la lb ih
    have ew4 : w64 (mid + m - c) = m + B1.length := by rw [w64_s (by omega) (by omega)]; omega
    simp only [ew4]
    have sA1 := h.sa.left
    have sA2 := h.sa.right
    have sB1 := h.sb.left
    have sB2 := h.sb.right
    refine Jand2 (Jn.eq (P ++ A1 ++ B1 ++ A2 ++ B2 ++ S) (Ite.mk (fun hc => ?_) (fun hc => ?_)) ?_)
    · have hc : c < m ∧ m < m + B1.length := by simpa using hc
      have e1 : P ++ (A1 ++ A2) ++ (B1 ++ B2) ++ S = (P ++ A1) ++ A2 ++ B1 ++ (B2 ++ S) := by simp
      rw [e1]
      refine S_rotate (fun e => by subst e; simp at em; omega) (fun e => by subst e; simp at hc) (by simp only [List.length_append]; omega) (by simp; omega) (by simp; omega) (by simp; omega) ?_
      simp
    · have hc : ¬ (c < m ∧ m < m + B1.length) := fun hh => by rw [decide_eq_true hh.1, decide_eq_true hh.2] at hc; cases hc
      rcases Nat.eq_zero_or_pos B1.length with hb | hb
      · have := List.length_eq_zero_iff.1 hb; subst this; simp
      · have : A2.length = 0 := by omega
        have := List.length_eq_zero_iff.1 this; subst this; simp
    refine Jand2 (Jn.mk (fun x => ∃ D1, D1.Perm (A1 ++ B1) ∧ Srt l D1 ∧ x = P ++ D1 ++ A2 ++ B2 ++ S) (Ite.mk (fun hc => ?_) (fun hc => ?_)) ?_)
    · have hc : a < c ∧ c < mid := by simpa using hc
      have e := tup5 (l := l) (x := P ++ A1 ++ B1 ++ A2 ++ B2 ++ S) (show a = (P.length : Int) from ea) (show c = ((P.length + A1.length : Nat) : Int) by omega) (show mid = ((P.length + A1.length + B1.length : Nat) : Int) by omega) (show _ = P ++ A1 ++ B1 ++ (A2 ++ B2 ++ S) by simp)
      rw [e]
      refine ih P A1 B1 (A2 ++ B2 ++ S) _ ⟨fun e => by subst e; simp at ec; omega, fun e => by subst e; simp at ej; omega, by simp only [List.length_append]; omega, sA1, sB1, fun x hx y hy => h.x x (by simp [hx]) y (by simp [hy]), fun x hx => ?_⟩ (by omega) fun D h3 h4 => ⟨D, h3, h4, by simp⟩
      rcases List.mem_append.1 hx with hx | hx
      · exact ain x (by simp [hx])
      · exact bin x (by simp [hx])
    · have hc : ¬ (a < c ∧ c < mid) := fun hh => by rw [decide_eq_true hh.1, decide_eq_true hh.2] at hc; cases hc
      refine ⟨A1 ++ B1, .refl _, ?_, by simp⟩
      rcases Nat.eq_zero_or_pos A1.length with hb | hb
      · have := List.length_eq_zero_iff.1 hb; subst this; simpa using sB1
      · have : B1.length = 0 := by omega
        have := List.length_eq_zero_iff.1 this; subst this; simpa using sA1
    rintro x ⟨D1, p1, s1, rfl⟩
    have d1 : D1.length = A1.length + B1.length := by rw [p1.length_eq]; simp
    refine Jand2 (Jn.mk (fun x => ∃ D2, D2.Perm (A2 ++ B2) ∧ Srt l D2 ∧ x = P ++ D1 ++ D2 ++ S) (Ite.mk (fun hc => ?_) (fun hc => ?_)) ?_)
    · have hc : mid < m + B1.length ∧ m + B1.length < b := by simpa using hc
      have e := tup5 (l := l) (x := P ++ D1 ++ A2 ++ B2 ++ S) (show mid = ((P ++ D1).length : Int) by simp; omega) (show m + (B1.length : Int) = (((P ++ D1).length + A2.length : Nat) : Int) by simp; omega) (show b = (((P ++ D1).length + A2.length + B2.length : Nat) : Int) by simp; omega) (show P ++ D1 ++ A2 ++ B2 ++ S = (P ++ D1) ++ A2 ++ B2 ++ S by simp)
      rw [e]
      refine ih (P ++ D1) A2 B2 S _ ⟨fun e => by subst e; simp at hc em; omega, fun e => by subst e; simp at hc eb; omega, by simp only [List.length_append]; omega, sA2, sB2, fun x hx y hy => h.x x (by simp [hx]) y (by simp [hy]), fun x hx => ?_⟩ (by omega) fun D h3 h4 => ⟨D, h3, h4, by simp⟩
      rcases List.mem_append.1 hx with hx | hx
      · exact ain x (by simp [hx])
      · exact bin x (by simp [hx])
    · have hc : ¬ (mid < m + B1.length ∧ m + B1.length < b) := fun hh => by rw [decide_eq_true hh.1, decide_eq_true hh.2] at hc; cases hc
      refine ⟨A2 ++ B2, .refl _, ?_, by simp⟩
      rcases Nat.eq_zero_or_pos A2.length with hb | hb
      · have := List.length_eq_zero_iff.1 hb; subst this; simpa using sB2
      · have : B2.length = 0 := by omega
        have := List.length_eq_zero_iff.1 this; subst this; simpa using sA2
    rintro x ⟨D2, p2, s2, rfl⟩
    have e : P ++ D1 ++ D2 ++ S = P ++ (D1 ++ D2) ++ S := by simp
    show post (P ++ D1 ++ D2 ++ S)
    rw [e]
    refine hp _ ?_ ?_
    · refine (p1.append p2).trans ?_
      have : (A1 ++ B1 ++ (A2 ++ B2)).Perm (A1 ++ A2 ++ (B1 ++ B2)) := by
        simp only [List.append_assoc]
        refine List.Perm.append_left _ ?_
        rw [← List.append_assoc, ← List.append_assoc]
        exact List.Perm.append_right _ List.perm_append_comm
      exact this
    · refine s1.app s2 fun x hx y hy => ?_
      have hx := p1.mem_iff.1 hx
      have hy := p2.mem_iff.1 hy
      rcases List.mem_append.1 hx with hx | hx <;> rcases List.mem_append.1 hy with hy | hy
      · exact h.sa.mid x hx y hy
      · exact hl x hx y hy
      · exact hr x hx y hy
      · exact h.sb.mid x hx y hy
theorem sym_all {X : SymT → (List Int → Prop) → Prop} (hX : ∀ s p, B_slices_symMergeCmpFunc_int__o0_batch_Due_1 X s.1 s.2.1 s.2.2.1 s.2.2.2.1 s.2.2.2.2 p → X s p) : ∀ (n : Nat) (P A B S : List Int) (q : List Int → Prop), A.length + B.length < n → Mg l P A B S → (∀ D, D.Perm (A ++ B) → Srt l D → q (P ++ D ++ S)) →
    X ((P.length : Int), ((P.length + A.length : Nat) : Int), ((P.length + A.length + B.length : Nat) : Int), l, P ++ A ++ B ++ S) q
  | 0, _, _, _, _, _, h, _, _ => by omega
  | n + 1, P, A, B, S, q, hn, h, hq => hX _ _ (sym_body h rfl rfl rfl (fun P' A' B' S' q' h' hlt hq' => sym_all hX n P' A' B' S' q' (by omega) h' hq') hq)
theorem S_sym {P A B S : List Int} (h : Mg l P A B S) {a m b : Int} (ea : a = P.length) (em : m = (P.length + A.length : Nat)) (eb : b = (P.length + A.length + B.length : Nat)) {post : List Int → Prop} (hp : ∀ D, D.Perm (A ++ B) → Srt l D → post (P ++ D ++ S)) :
    V_slices_symMergeCmpFunc_int__o0_batch_Due_1 a m b l (P ++ A ++ B ++ S) post := by
  unfold V_slices_symMergeCmpFunc_int__o0_batch_Due_1
  subst ea; subst em; subst eb
  intro X hX
  exact sym_all hX _ P A B S post (Nat.lt_succ_self _) h hp
end
end Go.Taq
