/- The mathematics, several parts in one text. -/
import Derived.Test.YtbkpekodmhkbdaaGreatBF
import Derived.Test.YtbkpekodmhkbdaaGreatOC
/- The mathematics, part BG: BankFinds. -/
set_option linter.unusedVariables false
set_option linter.unusedSimpArgs false
namespace Go.Taq
open Go

section
variable {s : ApiSite} {st : ApiState} {homes : List Int}
/-- what has a way home is found in the end -/
theorem in_stop {o g : List Int} (hs : Stop s st homes o) (hg : ∀ x, x ∈ g → x ∈ o) {x : Int} (hw : Wy (sitO s st homes g) x) : x ∈ o := by
  by_cases h : x ∈ o
  · exact h
  · refine absurd (Wy_mono (o := g) (o' := o) (fun j hj => ?_) hw ?_) (hs x)
    · have := hB_sit.1 hj
      exact hB_sit.2 ⟨hg j this.1, this.2⟩
    · cases e : hB (sitO s st homes o) x with
      | false => rfl
      | true => exact absurd (hB_sit.1 e).1 h
theorem Chain.sub {o : List Int} (hs : Stop s st homes o) : ∀ {g : List Int}, Chain s st homes g → ∀ x, x ∈ g → x ∈ o := by
  intro g
  generalize hn : g.reverse = r
  induction r generalizing g with
  | nil => intro h x hx; have : g = [] := by simpa using hn
           subst this; cases hx
  | cons a r ih =>
    intro h x hx
    have ho : g = r.reverse ++ [a] := by have := congrArg List.reverse hn; simpa using this
    subst ho
    have h1 : Chain s st homes r.reverse := fun p i q e => h p i (q ++ [a]) (by rw [e]; simp)
    have h2 := ih (by simp) h1
    rcases List.mem_append.1 hx with hx | hx
    · exact h2 x hx
    · simp at hx; subst hx
      exact in_stop hs h2 (h r.reverse x [] rfl)
theorem nodup_same : ∀ {a b : List Int}, a.Nodup → (∀ x, x ∈ a → x ∈ b) → a.length ≤ b.length
  | [], b, _, _ => by simp
  | x :: a, b, hn, h => by
    have hn' := List.nodup_cons.1 hn
    have hx : x ∈ b := h x (by simp)
    have := nodup_same (a := a) (b := b.erase x) hn'.2 (fun y hy => by
      have hne : y ≠ x := fun e => hn'.1 (e ▸ hy)
      exact (List.mem_erase_of_ne hne).2 (h y (by simp [hy])))
    rw [List.length_erase_of_mem hx] at this
    have := List.length_pos_of_mem hx
    simp; omega
theorem Chain.len (hz : Sz st) {o : List Int} (h : Chain s st homes o) : o.length ≤ st.Robots.length := nodup_len _ o h.nodup.1 (fun x hx => live_rg (h.nodup.2 x hx))
end
end Go.Taq

/- The mathematics, part BH: the reference's search over floors (taquinref07.spread, Path). -/
set_option linter.unusedVariables false
set_option linter.unusedSimpArgs false
namespace Go.Taq
open Go

theorem S_ref07_Opposite {d : Int} {post : Int → Prop} (hp : post (opp d)) : V_taquinref07_Opposite d post := by
  unfold V_taquinref07_Opposite
  unfold opp at hp
  by_cases e0 : d = 0
  · subst e0; exact Ite.t rfl hp
  refine Ite.f (by simpa using e0) ?_
  by_cases e2 : d = 2
  · subst e2; exact Ite.t rfl hp
  refine Ite.f (by simpa using e2) ?_
  by_cases e1 : d = 1
  · subst e1; exact Ite.t rfl hp
  refine Ite.f (by simpa using e1) ?_
  by_cases e3 : d = 3
  · subst e3; exact Ite.t rfl hp
  refine Ite.f (by simpa using e3) ?_
  by_cases e4 : d = 4
  · subst e4; exact Ite.t rfl hp
  refine Ite.f (by simpa using e4) ?_
  by_cases e5 : d = 5
  · subst e5; exact Ite.t rfl hp
  refine Ite.f (by simpa using e5) ?_
  rw [if_neg e0, if_neg e1, if_neg e2, if_neg e3, if_neg e4, if_neg e5] at hp; exact hp
theorem S_ref07_Back {f : ApiFloor} (hf : RF f) {c d : Int} (hd : -1 ≤ d ∧ d < 1000) {post : Int × Bool → Prop} (hp : post (bk f c d)) : V_taquinref07_Back f c d post := by
  unfold V_taquinref07_Back
  unfold bk at hp
  refine S_ref07_Opposite (S_ref07_Beside hf (Ite.mk (fun h => ?_) (fun h => ?_)))
  · rw [if_pos (by simpa using h)] at hp; exact hp
  · rw [if_neg (by simpa using h)] at hp
    refine S_ref07_Next hf hd (Ite.mk (fun h2 => ?_) (fun h2 => ?_))
    · rw [if_pos (by simpa using h2)] at hp; exact hp
    · rw [if_neg (by simpa using h2)] at hp; exact hp
theorem clamp {c n : Int} (h : 0 ≤ c ∧ c < n) (hn : n ≤ 1000000) : imax 0 (imin c (w64 (n - 1))) = c := by
  rw [w64_eq (by omega) (by omega)]; unfold imax imin; split <;> split <;> omega
theorem gB_not {sh : List Bool} {c : Int} (h : 0 ≤ c ∧ c < sh.length) : gB (sh.map not) c = !gB sh c := by
  unfold gB
  rw [List.getD_eq_getElem?_getD, List.getD_eq_getElem?_getD, List.getElem?_map, List.getElem?_eq_getElem (by omega)]; rfl
theorem S_ref07_spread {f : ApiFloor} (hf : RF f) {src l : List Int} (hsrc : src.length ≤ 1000000) (hl : l.length ≤ maxLen) {post : List Int → Prop} (hp : ∀ out, DistOk f (bk f) src l out → post out) : V_taquinref07_spread f src l true post := by
  unfold V_taquinref07_spread
  have hn := hf.len.1
  have hkm : f.Kind.length ≤ maxLen := by simp [maxLen]; omega
  refine S_ref07_Size hf ⟨by omega, ?_⟩
  simp only [Int.toNat_natCast]
  refine Jn.mk (fun sh => sh.length = f.Kind.length ∧ ∀ c, isC f c = true → (gB sh c = true ↔ c ∈ l))
    (Loop.inv l.length (fun i (t : List Bool × Int) => t.2 = (i : Int) ∧ t.1.length = f.Kind.length ∧ ∀ c, isC f c = true → (gB t.1 c = true ↔ c ∈ l.take i)) ⟨rfl, by simp, fun c hc => by
      have : gB (List.replicate f.Kind.length false) c = false := by
        unfold gB; rw [List.getD_eq_getElem?_getD, List.getElem?_replicate]; split <;> rfl
      simp only []; rw [this]; simp⟩ (fun i t hi hI => ?_) (fun t hI => ?_)) ?_
  · obtain ⟨p, j⟩ := t
    obtain ⟨e, h1, h2⟩ := hI
    simp only at e h1 h2; subst e
    have hx : l[i]? = some (l[i]'hi) := List.getElem?_eq_getElem hi
    generalize hxe : l[i]'hi = x at hx
    have e1 : l.take (i + 1) = l.take i ++ [x] := by rw [List.take_add_one, hx]; rfl
    refine Ite.lt (by simp only []; omega) ⟨x, idx_of rfl hx, S_ref07_Is hf (Jn.mk' (Ite.mk (fun g => ?_) (fun g => ⟨w64_nat hi hl, h1, fun c hc => ?_⟩)))⟩
    · have gx := isC_iff.1 g
      refine ⟨_, idx_gB gx.1 (by simp only []; omega), w64_nat hi hl, by simp [h1], fun c hc => ?_⟩
      have c0 := (isC_iff.1 hc).1
      simp only []
      rw [gB_set gx.1 (by omega) c0, e1]
      by_cases e : x = c
      · subst e; simp
      · rw [if_neg e, h2 c hc]
        simp only [List.mem_append, List.mem_singleton]
        exact ⟨fun h => .inl h, fun h => h.resolve_right (fun e' => e e'.symm)⟩
    · simp only []
      rw [e1, h2 c hc]
      simp only [List.mem_append, List.mem_singleton]
      exact ⟨fun h => .inl h, fun h => h.resolve_right (fun e' => by rw [e', g] at hc; cases hc)⟩
  · obtain ⟨p, j⟩ := t
    obtain ⟨e, h1, h2⟩ := hI
    simp only at e h1 h2; subst e
    rw [List.take_length] at h2
    exact Ite.nlt (by simp) ⟨h1, h2⟩
  rintro sh0 ⟨s1, s2⟩
  refine S_ref07_Size hf ⟨by omega, ?_⟩
  simp only [Int.toNat_natCast]
  refine Jn.mk (fun t => t.1.length = f.Kind.length ∧ t.2.length = f.Kind.length ∧ ∀ c, isC f c = true → gI t.2 c = -1 ∧ (gB t.1 c = true ↔ ¬ okc f l c))
    (Loop.inv f.Kind.length (fun i (t : List Bool × List Int × Int) => t.2.2 = (i : Int) ∧ t.1.length = f.Kind.length ∧ t.2.1.length = f.Kind.length ∧ (∀ c, isC f c = true → c < i → gI t.2.1 c = -1 ∧ (gB t.1 c = true ↔ ¬ okc f l c)) ∧ ∀ c, isC f c = true → i ≤ c → (gB t.1 c = true ↔ c ∈ l)) ⟨rfl, s1, by simp, fun c hc h => by have := isC_iff.1 hc; simp at h; omega, fun c hc _ => s2 c hc⟩ (fun i t hi hI => ?_) (fun t hI => ?_)) ?_
  · obtain ⟨p, o, j⟩ := t
    obtain ⟨e, h1, h2, h3, h4⟩ := hI
    simp only at e h1 h2 h3 h4; subst e
    have hic : isC f (i : Int) = true := isC_iff.2 ⟨by omega, by omega⟩
    refine Ite.lt (by simp only []; omega) ⟨_, idx_gI (by simp) (by simp only []; omega), Jn.mk (fun b => b.length = f.Kind.length ∧ (∀ c, isC f c = true → c ≠ i → gB b c = gB p c) ∧ (gB b i = true ↔ ¬ okc f l i)) ⟨_, idx_gB (by simp) (by simp only []; omega), Ite.mk (fun g => ?_) (fun g => ⟨_, idx_kd hic, ?_⟩)⟩ (fun b hb => ?_)⟩
    · have hm := (h4 i hic (by omega)).1 g
      refine ⟨by simp [h1], fun c hc hne => ?_, ?_⟩
      · show gB (p.set (Int.toNat (i : Int)) true) c = _
        rw [gB_set (by omega) (by omega) (isC_iff.1 hc).1, if_neg (by omega)]
      · show gB (p.set (Int.toNat (i : Int)) true) i = true ↔ _
        rw [gB_set (by omega) (by omega) (by omega), if_pos rfl]
        exact ⟨fun _ ho => ho.2.2 hm, fun _ => rfl⟩
    · have hm : (i : Int) ∉ l := fun hmm => by rw [(h4 i hic (by omega)).2 hmm] at g; cases g
      refine ⟨by simp [h1], fun c hc hne => ?_, ?_⟩
      · show gB (p.set (Int.toNat (i : Int)) _) c = _
        rw [gB_set (by omega) (by omega) (isC_iff.1 hc).1, if_neg (by omega)]
      · show gB (p.set (Int.toNat (i : Int)) (kd f i == 0)) i = true ↔ _
        rw [gB_set (by omega) (by omega) (by omega), if_pos rfl]
        unfold okc
        simp [hic, hm]
    · obtain ⟨b1, b2, b3⟩ := hb
      refine ⟨w64_nat hi hkm, b1, by simp [h2], fun c hc hlt => ?_, fun c hc hle => ?_⟩
      · simp only []
        rw [gI_set (by simp) (by omega) (isC_iff.1 hc).1]
        by_cases e : (i : Int) = c
        · rw [if_pos e, ← e]; exact ⟨rfl, b3⟩
        · rw [if_neg e, b2 c hc (fun h => e h.symm)]; exact h3 c hc (by omega)
      · simp only []
        rw [b2 c hc (by omega)]; exact h4 c hc (by omega)
  · obtain ⟨p, o, j⟩ := t
    obtain ⟨e, h1, h2, h3, h4⟩ := hI
    simp only at e h1 h2 h3; subst e
    exact Ite.nlt (by simp only []; omega) ⟨h1, h2, fun c hc => h3 c hc (isC_iff.1 hc).2⟩
  rintro ⟨sh, o0⟩ ⟨q1, q2, q3⟩
  simp only at q1 q2 q3
  have hns : ∀ c, isC f c = true → (gB (sh.map not) c = true ↔ okc f l c) := fun c hc => by
    rw [gB_not ⟨(isC_iff.1 hc).1, by rw [q1]; exact (isC_iff.1 hc).2⟩]
    have := (q3 c hc).2
    cases e : gB sh c with
    | true => have h1 := this.1 e; simp [h1]
    | false =>
      have h1 : okc f l c := by
        by_cases ho : okc f l c
        · exact ho
        · rw [this.2 ho] at e; cases e
      simp [h1]
  have b0 : Bfs f (bk f) src l o0 [] (sh.map not) 0 := ⟨q2, by simp [q1], fun c hc => by rw [hns c hc]; simp [(q3 c hc).1], fun c hc => .inl (q3 c hc).1, by simp, by simp, .nil, by
    have : (sh.map not).count true ≤ (sh.map not).length := List.count_le_length
    simp only [List.length_map] at this
    omega⟩
  refine Jn.mk (fun t => ∃ K opn, Bfs f (bk f) src l t.1 t.2 opn K ∧ (∀ c, isC f c = true → gI t.1 c = -1 ∨ gI t.1 c = 0) ∧ (∀ c, isC f c = true → 0 ≤ gI t.1 c → c ∈ t.2) ∧ (∀ c, c ∈ src → okc f l c → gI t.1 c = 0) ∧ t.2.length ≤ K)
    (Loop.inv src.length (fun i (t : List Int × List Int × Int) => t.2.2 = (i : Int) ∧ ∃ K opn, Bfs f (bk f) src l t.1 t.2.1 opn K ∧ (∀ c, isC f c = true → gI t.1 c = -1 ∨ gI t.1 c = 0) ∧ (∀ c, isC f c = true → 0 ≤ gI t.1 c → c ∈ t.2.1) ∧ (∀ c, c ∈ src.take i → okc f l c → gI t.1 c = 0) ∧ t.2.1.length ≤ K)
      ⟨rfl, 0, _, b0, fun c hc => .inl (q3 c hc).1, fun c hc h => by simp only [] at h; rw [(q3 c hc).1] at h; omega, by simp, by simp⟩ (fun i t hi hI => ?_) (fun t hI => ?_)) ?_
  · obtain ⟨o, q, j⟩ := t
    obtain ⟨e, K, opn, hb, h0, hq, hs, hqK⟩ := hI
    simp only at e hb h0 hq hs hqK; subst e
    have hx : src[i]? = some (src[i]'hi) := List.getElem?_eq_getElem hi
    generalize hxe : src[i]'hi = x at hx
    have e1 : src.take (i + 1) = src.take i ++ [x] := by rw [List.take_add_one, hx]; rfl
    have hKn := hb.ct
    have hsm : src.length ≤ maxLen := by unfold maxLen; omega
    refine Ite.lt (by simp only []; omega) ⟨x, idx_of rfl hx, Jn.mk (fun b => b = true ↔ (isC f x = true ∧ gB opn x = true)) (S_ref07_Is hf (Ite.mk (fun g => ?_) (fun g => ⟨fun h => (by cases h), fun h => by rw [g] at h; cases h.1⟩))) (fun b hb2 => ?_)⟩
    · have gx := isC_iff.1 g
      have c1 : imax 0 (imin x (w64 ((sh.length : Int) - 1))) = x := clamp ⟨gx.1, by rw [q1]; exact gx.2⟩ (by omega)
      have c2 : imax 0 (imin x (w64 ((o.length : Int) - 1))) = x := clamp ⟨gx.1, by rw [hb.ol]; exact gx.2⟩ (by rw [hb.ol]; omega)
      simp only [c1, c2]
      refine ⟨_, idx_gB gx.1 (by omega), Ite.mk (fun h1 => ⟨fun h => (by cases h), fun h => ?_⟩) (fun h1 => ⟨_, idx_gI gx.1 (by rw [hb.ol]; exact gx.2), ?_⟩)⟩
      · exact absurd ((hb.op x g).1 h.2).1 ((q3 x g).2.1 h1)
      · have ho : okc f l x := by
          by_cases ho : okc f l x
          · exact ho
          · rw [(q3 x g).2.2 ho] at h1; cases h1
        rw [hb.op x g]
        refine ⟨fun h => ⟨g, ho, ?_⟩, fun h => ?_⟩
        · have h' : gI o x < 0 := by simpa using h
          rcases h0 x g with h3 | h3 <;> omega
        · simp; omega
    · refine Jn.mk (fun t => ∃ K opn, Bfs f (bk f) src l t.1 t.2 opn K ∧ (∀ c, isC f c = true → gI t.1 c = -1 ∨ gI t.1 c = 0) ∧ (∀ c, isC f c = true → 0 ≤ gI t.1 c → c ∈ t.2) ∧ (∀ c, c ∈ src.take (i + 1) → okc f l c → gI t.1 c = 0) ∧ t.2.length ≤ K) (Ite.mk (fun h => ?_) (fun h => ?_)) (fun u hu => ⟨w64_nat hi hsm, hu⟩)
      · obtain ⟨g, hg⟩ := hb2.1 h
        have gx := isC_iff.1 g
        have x1 : x < o.length := by rw [hb.ol]; exact gx.2
        have hb' := hb.put (k := 0) hg g (fun ho => ⟨List.mem_of_getElem? hx, ho⟩) (by omega) (fun r hr => by
          have := hb.qu r hr; have := h0 r this.1; omega) (fun r hr => by have := h0 r hr; omega)
        refine ⟨_, idx_gI gx.1 x1, by simp; omega, K + 1, _, hb', fun c hc => ?_, fun c hc h => ?_, fun c hc ho => ?_, by simp; omega⟩
        · simp only []
          rw [gI_set gx.1 x1 (isC_iff.1 hc).1]; split
          · exact .inr rfl
          · exact h0 c hc
        · simp only [] at h ⊢
          rw [gI_set gx.1 x1 (isC_iff.1 hc).1] at h
          split at h
          · rename_i e; subst e; simp
          · exact List.mem_append_left _ (hq c hc h)
        · simp only []
          rw [gI_set gx.1 x1 (isC_iff.1 ho.1).1]; split
          · rfl
          · rename_i e
            rw [e1] at hc
            rcases List.mem_append.1 hc with hc | hc
            · exact hs c hc ho
            · simp at hc; exact absurd hc.symm e
      · refine ⟨K, opn, hb, h0, hq, fun c hc ho => ?_, hqK⟩
        rw [e1] at hc
        rcases List.mem_append.1 hc with hc | hc
        · exact hs c hc ho
        · simp at hc; subst hc
          rcases h0 c ho.1 with h3 | h3
          · have := hb2.2 ⟨ho.1, (hb.op c ho.1).2 ⟨ho, h3⟩⟩
            rw [this] at h; cases h
          · exact h3
  · obtain ⟨o, q, j⟩ := t
    obtain ⟨e, K, opn, hb, h0, hq, hs, hqK⟩ := hI
    simp only at e hb h0 hq hs hqK; subst e
    rw [List.take_length] at hs
    exact Ite.nlt (by simp) ⟨K, opn, hb, h0, hq, hs, hqK⟩
  rintro ⟨o4, q4⟩ ⟨K4, opn4, hb4, h04, hq4, hs4, hqK4⟩
  simp only at hb4 h04 hq4 hs4 hqK4
  refine Jn.mk (fun out => DistOk f (bk f) src l out) (Loop.mk (fun t : List Int × List Int × Int => ∃ (i K : Nat) (opn : List Bool), t.2.2 = (i : Int) ∧ i ≤ t.2.1.length ∧ Bfs f (bk f) src l t.1 (t.2.1.drop i) opn K ∧ t.2.1.length ≤ K ∧ (∀ c, c ∈ src → okc f l c → gI t.1 c = 0) ∧
      (∀ p, isC f p = true → 0 ≤ gI t.1 p → p ∉ t.2.1.drop i → ∀ d, 0 ≤ d → d < 6 → (bk f p d).2 = true → okc f l (bk f p d).1 → 0 ≤ gI t.1 (bk f p d).1 ∧ gI t.1 (bk f p d).1 ≤ gI t.1 p + 1))
    (fun t => 5000 - t.2.2.toNat) ⟨0, K4, opn4, rfl, by simp, by simpa using hb4, hqK4, hs4, fun p hp h hnot => absurd (hq4 p hp h) (by simpa using hnot)⟩ ?_) (fun out h => hp out h)
  rintro ⟨o, q, j⟩ ⟨i, K, opn, e, hiq, hb, hqK, hs, hcl⟩
  simp only at e hiq hb hqK hs hcl; subst e
  have hKn := hb.ct
  refine Ite.mk (fun hg => ?_) (fun hg => ?_)
  · have hlt : i < q.length := by simpa using hg
    have hx := List.getElem?_eq_getElem hlt
    have hdr : q.drop i = q[i] :: q.drop (i + 1) := List.drop_eq_getElem_cons hlt
    generalize q[i] = x at hx hdr
    rw [hdr] at hb hcl
    obtain ⟨hxc, hx0⟩ := hb.qu x (by simp)
    obtain ⟨kx, hkx, hPx, hKx⟩ : ∃ k : Nat, gI o x = k ∧ Pth f (bk f) src l k x ∧ k + 1 ≤ K := by
      rcases hb.pt x hxc with h | h
      · omega
      · exact h
    have hso := List.pairwise_cons.1 hb.so
    refine Jn.mk (fun t : List Int × List Int => ∃ (K : Nat) (opn : List Bool), i + 1 ≤ t.2.length ∧ Bfs f (bk f) src l t.1 (t.2.drop (i + 1)) opn K ∧ t.2.length ≤ K ∧ (∀ c, c ∈ src → okc f l c → gI t.1 c = 0) ∧
      (∀ p, isC f p = true → 0 ≤ gI t.1 p → p ∉ t.2.drop (i + 1) → ∀ d, 0 ≤ d → d < 6 → (bk f p d).2 = true → okc f l (bk f p d).1 → 0 ≤ gI t.1 (bk f p d).1 ∧ gI t.1 (bk f p d).1 ≤ gI t.1 p + 1)) ?_ (fun t ht => ?_)
    rotate_left
    · obtain ⟨K', opn', h1, h2, h3, h4, h5⟩ := ht
      have w1 : w64 ((i : Int) + 1) = ((i + 1 : Nat) : Int) := by rw [w64_eq (by omega) (by omega)]; simp
      refine ⟨⟨i + 1, K', opn', w1, h1, h2, h3, h4, h5⟩, ?_⟩
      show 5000 - (w64 ((i : Int) + 1)).toNat < 5000 - ((i : Int)).toNat
      rw [w1]; omega
    refine ⟨x, idx_of rfl hx, ?_⟩
    refine Jn.mk (fun t : List Int × List Int => ∃ (K : Nat) (opn : List Bool), i + 1 ≤ t.2.length ∧ Bfs f (bk f) src l t.1 (t.2.drop (i + 1)) opn K ∧ t.2.length ≤ K ∧ (∀ c, c ∈ src → okc f l c → gI t.1 c = 0) ∧
      (∀ p, isC f p = true → 0 ≤ gI t.1 p → p ∉ t.2.drop (i + 1) → ∀ d, 0 ≤ d → d < 6 → (bk f p d).2 = true → okc f l (bk f p d).1 → 0 ≤ gI t.1 (bk f p d).1 ∧ gI t.1 (bk f p d).1 ≤ gI t.1 p + 1))
      (Loop.inv 6 (fun n (t : List Int × List Int × Int) => t.2.2 = (n : Int) ∧ (∃ (K : Nat) (opn : List Bool), Bfs f (bk f) src l t.1 (t.2.1.drop (i + 1)) opn K ∧ t.2.1.length ≤ K ∧ kx + 1 ≤ K) ∧ i + 1 ≤ t.2.1.length ∧ (∀ c, isC f c = true → 0 ≤ gI o c → gI t.1 c = gI o c) ∧ (∀ c, isC f c = true → 0 ≤ gI t.1 c → 0 ≤ gI o c ∨ c ∈ t.2.1.drop (i + 1)) ∧ (∀ c, c ∈ q.drop (i + 1) → c ∈ t.2.1.drop (i + 1)) ∧ (∀ c, isC f c = true → gI t.1 c ≤ kx + 1) ∧ (∀ r, r ∈ t.2.1.drop (i + 1) → (kx : Int) ≤ gI t.1 r) ∧
        (∀ d, 0 ≤ d → d < (n : Int) → (bk f x d).2 = true → okc f l (bk f x d).1 → 0 ≤ gI t.1 (bk f x d).1))
        ⟨rfl, ⟨K, opn, ⟨hb.ol, hb.pl, hb.op, hb.pt, fun r hr => hb.qu r (List.mem_cons_of_mem _ hr), fun c r hc hr => hb.le c r hc (List.mem_cons_of_mem _ hr), hso.2, hb.ct⟩, hqK, hKx⟩, hlt, fun _ _ _ => rfl, fun c hc h => .inl h, fun c h => h, fun c hc => by
          have := hb.le c x hc (by simp); show gI o c ≤ (kx : Int) + 1; omega, fun r hr => by
          have := hso.1 r hr; show (kx : Int) ≤ gI o r; omega, fun d h0 h1 => by simp at h1; omega⟩ (fun n t hn6 hI => ?_) (fun t hI => ?_)) (fun t ht => ht)
    · obtain ⟨o', q2, dd⟩ := t
      obtain ⟨e, ⟨K', p', hb', hq', hk'⟩, i0, i1, i2, i3, i4, i5, i6⟩ := hI
      simp only at e hb' hq' i0 i1 i2 i3 i4 i5 i6; subst e
      have hKn' := hb'.ct
      have hox : gI o' x = kx := by rw [i1 x hxc hx0, hkx]
      refine Ite.lt (by simp only []; omega) (S_ref07_Next hf (by show -1 ≤ (n : Int) ∧ (n : Int) < 1000; omega) (Jn.mk (fun y => y = bk f x n) (Ite.t rfl (S_ref07_Back hf (by show -1 ≤ (n : Int) ∧ (n : Int) < 1000; omega) rfl)) (fun y hy => ?_)))
      subst hy
      refine Jn.mk (fun b => b = true ↔ ((bk f x n).2 = true ∧ gB p' (bk f x n).1 = true)) (Ite.mk (fun g => ?_) (fun g => ⟨fun h => (by cases h), fun h => by rw [g] at h; cases h.1⟩)) (fun b hb2 => ?_)
      · have hmc' := bk_ok hf g
        have gx := isC_iff.1 hmc'
        refine ⟨_, idx_gB gx.1 (by show _ < (sh.length : Int); rw [q1]; exact gx.2), Ite.mk (fun h1 => ⟨fun h => (by cases h), fun h => ?_⟩) (fun h1 => ⟨_, idx_gI gx.1 (by simp only []; rw [hb'.ol]; exact gx.2), ?_⟩)⟩
        · exact absurd ((hb'.op _ hmc').1 h.2).1 ((q3 _ hmc').2.1 h1)
        · have ho : okc f l (bk f x n).1 := by
            by_cases ho : okc f l (bk f x n).1
            · exact ho
            · rw [(q3 _ hmc').2.2 ho] at h1; cases h1
          rw [hb'.op _ hmc']
          refine ⟨fun h => ⟨g, ho, ?_⟩, fun h => ?_⟩
          · have h' : gI o' (bk f x n).1 < 0 := by simpa using h
            rcases hb'.pt _ hmc' with h3 | ⟨m, h3, _⟩ <;> omega
          · simp; omega
      · have w6 : w64 ((n : Int) + 1) = ((n + 1 : Nat) : Int) := w64_nat (n := 6) hn6 (by simp [maxLen])
        refine Jn.mk (fun t : List Int × List Int => (∃ (K : Nat) (opn : List Bool), Bfs f (bk f) src l t.1 (t.2.drop (i + 1)) opn K ∧ t.2.length ≤ K ∧ kx + 1 ≤ K) ∧ i + 1 ≤ t.2.length ∧ (∀ c, isC f c = true → 0 ≤ gI o c → gI t.1 c = gI o c) ∧ (∀ c, isC f c = true → 0 ≤ gI t.1 c → 0 ≤ gI o c ∨ c ∈ t.2.drop (i + 1)) ∧ (∀ c, c ∈ q.drop (i + 1) → c ∈ t.2.drop (i + 1)) ∧ (∀ c, isC f c = true → gI t.1 c ≤ kx + 1) ∧ (∀ r, r ∈ t.2.drop (i + 1) → (kx : Int) ≤ gI t.1 r) ∧
          (∀ d, 0 ≤ d → d < ((n + 1 : Nat) : Int) → (bk f x d).2 = true → okc f l (bk f x d).1 → 0 ≤ gI t.1 (bk f x d).1)) (Ite.mk (fun h => ?_) (fun h => ?_)) (fun u hu => ⟨w6, hu⟩)
        · obtain ⟨g, hgb⟩ := hb2.1 h
          have hmc' := bk_ok hf g
          have gx := isC_iff.1 hmc'
          have x1 : (bk f x n).1 < o'.length := by rw [hb'.ol]; exact gx.2
          obtain ⟨hok, hm1⟩ := (hb'.op _ hmc').1 hgb
          have hput := hb'.put (k := kx + 1) hgb hmc' (fun ho => ⟨x, n, hPx, by omega, by omega, Prod.ext rfl g, ho⟩) hk' (fun r hr => ⟨by have := hb'.qu r hr; have := i4 r this.1; omega, by have := i5 r hr; omega⟩) (fun r hr => by have := i4 r hr; omega)
          have e3 : ((kx + 1 : Nat) : Int) = (kx : Int) + 1 := by omega
          rw [e3] at hput
          have edr : (q2 ++ [(bk f x n).1]).drop (i + 1) = q2.drop (i + 1) ++ [(bk f x n).1] := List.drop_append_of_le_length i0
          refine ⟨kx, by rw [← hox]; exact idx_gI (isC_iff.1 hxc).1 (by rw [hb'.ol]; exact (isC_iff.1 hxc).2), _, idx_gI gx.1 x1, by simp; omega, ?_⟩
          rw [w64_eq (by omega) (by omega)]
          simp only [edr]
          refine ⟨⟨K' + 1, _, hput, by simp; omega, by omega⟩, by simp; omega, fun c hc h => ?_, fun c hc h => ?_, fun c h => by simp [i3 c h], fun c hc => ?_, fun r hr => ?_, fun d h0 h1 h2 h3 => ?_⟩
          · rw [gI_set gx.1 x1 (isC_iff.1 hc).1, if_neg]
            · exact i1 c hc h
            · intro e; rw [← e] at h; have := i1 _ hmc' h; omega
          · rw [gI_set gx.1 x1 (isC_iff.1 hc).1] at h
            split at h
            · rename_i e; right; simp [e]
            · rcases i2 c hc h with h' | h'
              · exact .inl h'
              · exact .inr (by simp [h'])
          · rw [gI_set gx.1 x1 (isC_iff.1 hc).1]; split
            · omega
            · exact i4 c hc
          · rcases List.mem_append.1 hr with hr | hr
            · have hrc := (hb'.qu r hr)
              rw [gI_set gx.1 x1 (isC_iff.1 hrc.1).1, if_neg]
              · exact i5 r hr
              · rintro e; rw [← e] at hrc; omega
            · simp at hr; subst hr
              rw [gI_set gx.1 x1 gx.1, if_pos rfl]; omega
          · rw [gI_set gx.1 x1 (isC_iff.1 h3.1).1]; split
            · omega
            · rename_i e
              by_cases e2 : d = n
              · subst e2; exact absurd rfl e
              · exact i6 d h0 (by omega) h2 h3
        · refine ⟨⟨K', p', hb', hq', hk'⟩, i0, i1, i2, i3, i4, i5, fun d h0 h1 h2 h3 => ?_⟩
          by_cases e2 : d = n
          · subst e2
            rcases hb'.pt _ h3.1 with h4 | ⟨m, h4, _⟩
            · have := hb2.2 ⟨h2, (hb'.op _ h3.1).2 ⟨h3, h4⟩⟩
              rw [this] at h; cases h
            · show 0 ≤ gI o' _; omega
          · exact i6 d h0 (by omega) h2 h3
    · obtain ⟨o', q2, dd⟩ := t
      obtain ⟨e, ⟨K', p', hb', hq', hk'⟩, i0, i1, i2, i3, i4, i5, i6⟩ := hI
      simp only at e hb' hq' i0 i1 i2 i3 i4 i5 i6; subst e
      refine Ite.nlt (by simp) ⟨K', p', i0, hb', hq', fun c hc ho => ?_, fun r hr h0 hnot d d0 d1 d2 d3 => ?_⟩
      · have := hs c hc ho
        simp only []; rw [i1 c ho.1 (by omega)]; exact this
      · simp only at h0 hnot ⊢
        rcases i2 r hr h0 with h | h
        · by_cases e : r = x
          · subst e
            refine ⟨i6 d d0 (by omega) d2 d3, ?_⟩
            have := i4 _ d3.1
            rw [i1 r hr h]; omega
          · have hrq : r ∉ x :: q.drop (i + 1) := by
              intro hm
              rcases List.mem_cons.1 hm with h' | h'
              · exact e h'
              · exact hnot (i3 r h')
            obtain ⟨c1, c2⟩ := hcl r hr h hrq d d0 d1 d2 d3
            rw [i1 r hr h, i1 _ d3.1 c1]; exact ⟨c1, c2⟩
        · exact absurd h hnot
  · have hnl : ¬ i < q.length := by simpa using hg
    have hdn : q.drop i = [] := List.drop_eq_nil_of_le (by omega)
    rw [hdn] at hb hcl
    refine ⟨hb.ol, fun c hc => ?_⟩
    have key : ∀ (k : Nat) c, Pth f (bk f) src l k c → 0 ≤ gI o c ∧ gI o c ≤ k := by
      intro k
      induction k with
      | zero => intro c h; have := hs c h.1 h.2; omega
      | succ k ih =>
        rintro c ⟨y, d, h1, h2, h3, h4, h5⟩
        obtain ⟨y0, y1⟩ := ih y h1
        have := hcl y h1.ok.1 y0 (by simp) d h2 h3 (by rw [h4]) (by rw [h4]; exact h5)
        rw [h4] at this
        simp only at this
        omega
    rcases hb.pt c hc with h | ⟨k, h, hP, hk⟩
    · exact .inl ⟨h, fun k hk => by have := key k c hk; omega⟩
    · have := hb.ct
      exact .inr ⟨k, h, hP, by omega, fun j hj => by have := key j c hj; omega⟩
end Go.Taq

/- The mathematics, part BI: the reference's Path and Way (taquinref07.Path, taquinref21.Way). -/
set_option linter.unusedVariables false
set_option linter.unusedSimpArgs false
namespace Go.Taq
open Go

theorem S_ref07_Path {f : ApiFloor} (hf : RF f) {a b : Int} {l : List Int} (hl : l.length ≤ maxLen) {post : List Int → Prop} (hn : (∀ k, ¬ PB f b l k a) → post []) (hy : ∀ (k : Nat) p, PB f b l k a → (∀ j, PB f b l j a → k ≤ j) → WayL f l a b k p → post p) : V_taquinref07_Path f a b l post := by
  unfold V_taquinref07_Path
  refine Jn.mk (fun x => x = !(isC f a && isC f b)) (S_ref07_Is hf (Ite.mk (fun h => S_ref07_Is hf (by rw [h]; rfl)) (fun h => by rw [h]; rfl))) (fun x hx => ?_)
  refine Ite.mk (fun h => hn fun k hk => ?_) (fun h => ?_)
  · have hb0 : ∀ (k : Nat) (c : Int), PB f b l k c → isC f b = true := by
      intro k
      induction k with
      | zero => intro c hc; have := hc.1; simp at this; rw [← this]; exact hc.2.1
      | succ k ih => intro c hc; obtain ⟨p, d, h0, _⟩ := hc; exact ih p h0
    rw [h, (Pth.ok hk).1, hb0 k a hk] at hx; cases hx
  have hab : isC f a = true ∧ isC f b = true := by rw [h] at hx; simpa using hx.symm
  refine S_ref07_spread hf (by simp) hl (fun out hd => ?_)
  obtain ⟨hol, hd⟩ := hd
  have hix : ∀ c, isC f c = true → idx out c = some (gI out c) := fun c hc => idx_gI (isC_iff.1 hc).1 (by rw [hol]; exact (isC_iff.1 hc).2)
  refine ⟨_, hix a hab.1, Ite.mk (fun h1 => hn fun k hk => ?_) (fun h1 => ?_)⟩
  · rcases hd a hab.1 with ⟨_, h2⟩ | ⟨k, h2, _⟩
    · exact h2 k hk
    · rw [h2] at h1; simp at h1; omega
  have h1' : ¬ gI out a < 0 := by simpa using h1
  rcases hd a hab.1 with ⟨h2, _⟩ | ⟨k, hk0, hPk, hkl, hmin⟩
  · omega
  exact S_pathV hf (next := V_taquinref07_Next f) (fun c d _ h0 h6 hq => S_ref07_Next hf (by omega) hq) hol hd hk0 hPk hkl (fun p hp => hy k p hPk hmin hp)
section
variable {s : ApiSite} {st : ApiState} {homes : List Int}
theorem S_ref21_there {i : Int} {post : Bool → Prop} (hp : post (liveB st i)) : V_taquinref21_there st i post := by
  unfold V_taquinref21_there
  refine Jn.mk (fun b => b = (decide (i < 0) || decide (i ≥ (st.Robots.length : Int)))) (Ite.mk (fun h => by rw [h]; rfl) (fun h => by rw [h]; rfl)) (fun b hb => Ite.mk (fun h => ?_) (fun h => ?_))
  · rw [h] at hb
    have h1 : i < 0 ∨ i ≥ (st.Robots.length : Int) := by simpa using hb.symm
    have : liveB st i = false := by
      cases e : liveB st i with
      | false => rfl
      | true => have := live_rg e; omega
    rw [this] at hp; exact hp
  · rw [h] at hb
    have h1 : ¬ i < 0 ∧ ¬ i ≥ (st.Robots.length : Int) := by have := hb.symm; simp at this; omega
    obtain ⟨n, hn⟩ := Int.eq_ofNat_of_zero_le (show 0 ≤ i by omega)
    have hx := List.getElem?_eq_getElem (show n < st.Robots.length by omega)
    refine ⟨_, idx_of hn hx, ?_⟩
    have : liveB st i = !(st.Robots[n]'(by omega)).Dead := by
      unfold liveB
      rw [getD_ri hn hx, decide_eq_true (show 0 ≤ i by omega), decide_eq_true (show i < (st.Robots.length : Int) by omega)]; rfl
    rw [← this]; exact hp
/-- the list of an order that none can go on is fixed: each is the first that has a way home -/
theorem safe_uniq : ∀ (q : List Int) {p o : List Int}, Chain s st homes (p ++ q) → Fst1 s st homes (p ++ q) → Stop s st homes (p ++ q) → (∃ r, o = p ++ r) → Chain s st homes o → Fst1 s st homes o → Stop s st homes o → p ++ q = o
  | [], p, o, h1, h2, h3, ⟨r, e⟩, g1, g2, g3 => by
    subst e
    cases r with
    | nil => rfl
    | cons x r => rw [List.append_nil] at h3; exact absurd (g1 p x r rfl) (h3 x)
  | x :: q, p, o, h1, h2, h3, ⟨r, e⟩, g1, g2, g3 => by
    subst e
    have hx := h1 p x q rfl
    cases r with
    | nil => rw [List.append_nil] at g3; exact absurd hx (g3 x)
    | cons y r =>
      have hy := g1 p y r rfl
      have exy : x = y := by
        rcases Int.lt_trichotomy x y with h | h | h
        · exact absurd hx (g2 p y r rfl x h)
        · exact h
        · exact absurd hy (h2 p x q rfl y h)
      subst exy
      have e1 : p ++ x :: q = (p ++ [x]) ++ q := by simp
      have e2 : p ++ x :: r = (p ++ [x]) ++ r := by simp
      rw [e1] at h1 h2 h3
      rw [e2] at g1 g2 g3
      rw [e1, e2]
      exact safe_uniq q h1 h2 h3 ⟨r, rfl⟩ g1 g2 g3
end
end Go.Taq

/- The mathematics, part BJ: the reference's Way (taquinref21.Way). -/
set_option linter.unusedVariables false
set_option linter.unusedSimpArgs false
namespace Go.Taq
open Go

theorem WayL.congr {f : ApiFloor} {a b : Int} {l l' : List Int} {k : Nat} {p : List Int} (h : WayL f l a b k p) (hm : ∀ c, c ∈ l ↔ c ∈ l') : WayL f l' a b k p where
  len := h.len
  hd := h.hd
  lst := h.lst
  st := h.st
  ok := fun x hx => ⟨(h.ok x hx).1, (h.ok x hx).2.1, fun hh => (h.ok x hx).2.2 ((hm x).2 hh)⟩
  pb := fun j x hx => (PB.congr hm).1 (h.pb j x hx)
  kb := h.kb
  ft := fun j hj => by
    obtain ⟨x, y, d, g1, g2, g3, g4, g5, g6, g7⟩ := h.ft j hj
    exact ⟨x, y, d, g1, g2, g3, g4, g5, (Dm.congr hm).1 g6, fun d' e0 e1 hc => g7 d' e0 e1 ⟨hc.1, (Dm.congr hm).2 hc.2⟩⟩
section
variable {s : ApiSite} {st : ApiState} {homes : List Int}
/-- the cells on which a shelf stands: by shelves, by cells -/
theorem stand_mem (hf : RF s.Floor) (hr : RSt s st) {o : List Int} {c : Int} : c ∈ (List.range st.Shelves.length).flatMap (avS (sitO s st homes o)) ↔ isC s.Floor c = true ∧ 0 ≤ atS st c := by
  rw [List.mem_flatMap]
  constructor
  · rintro ⟨j, hj, hc⟩
    have hj' := List.mem_range.1 hj
    have hx := List.getElem?_eq_getElem hj'
    have hxd : st.Shelves.getD j 0 = st.Shelves[j] := getD_i hx
    unfold avS at hc
    split at hc
    · rename_i hcr
      have e : c = st.Shelves.getD j 0 := by simpa [sitO] using hc
      have hcb : carB st j = false := by unfold carB; exact decide_eq_false (by have : carr st j < 0 := hcr; omega)
      refine ⟨kx_isC (by have := hr.shel j _ hx hcb; rw [e, hxd]; omega), ?_⟩
      rcases fnat_cases (atP st c) st.Shelves.length with ⟨i, _, e2, _⟩ | ⟨_, hno⟩
      · unfold atS; rw [e2]; omega
      · have := hno j hj'
        unfold atP at this
        rw [hcb, ← e] at this
        simp at this
    · cases hc
  · rintro ⟨hc, ha⟩
    rcases fnat_cases (atP st c) st.Shelves.length with ⟨i, hi, _, hp, _⟩ | ⟨e2, _⟩
    · refine ⟨i, List.mem_range.2 hi, ?_⟩
      unfold atP at hp
      simp only [Bool.and_eq_true, Bool.not_eq_true', beq_iff_eq] at hp
      have hcr : carr st i < 0 := by have := hp.2; unfold carB at this; have := of_decide_eq_false this; omega
      unfold avS
      have hcr' : carr (sitO s st homes o).st i < 0 := hcr
      rw [if_pos hcr']
      show c ∈ [st.Shelves.getD i 0]
      rw [hp.1]; simp
    · exfalso; unfold atS at ha; rw [e2] at ha; omega
theorem S_ref21_Way (ks : OkApiSite s) (hf : RF s.Floor) (hr : RSt s st) (hz : Sz st) (k : OkApiState st) (hl : homes.length = st.Robots.length) {gone : List Int} (hg : gone.length ≤ maxLen) {i : Int} {post : List Int → Prop} (hn : ¬ Wy (sitO s st homes gone) i → post [])
    (hy : ∀ (k : Nat) p, Wy (sitO s st homes gone) i → (∀ j, PB s.Floor (homes.getD i.toNat 0) (avL (sitO s st homes gone) i) j (rAt st i).Cell → k ≤ j) → PB s.Floor (homes.getD i.toNat 0) (avL (sitO s st homes gone) i) k (rAt st i).Cell → WayL s.Floor (avL (sitO s st homes gone) i) (rAt st i).Cell (homes.getD i.toNat 0) k p → post p) : V_taquinref21_Way s st homes gone i post := by
  have q1 := hz.sh; have q2 := hz.rb; have q3 := hz.pp; have q4 := hz.dd
  have hn4 := hf.len.1
  unfold V_taquinref21_Way
  have hBe : ∀ j : Int, hB (sitO s st homes gone) j = (liveB st j && gone.contains j) := fun j => by
    rw [Bool.eq_iff_iff, hB_sit]; simp [and_comm]
  refine Jn.mk (fun b => b = (!liveB st i || hB (sitO s st homes gone) i)) (S_ref21_there (Ite.mk (fun h => S_ref07_Has hg ?_) (fun h => by rw [h]; rfl))) (fun b hb => Ite.mk (fun h => hn fun hw => ?_) (fun h => ?_))
  · rw [hBe, h]; simp
  · have h1 : liveB st i = true := hw.1
    rw [h, h1, hw.2.1] at hb; cases hb
  have hlv : liveB st i = true ∧ hB (sitO s st homes gone) i = false := by rw [h] at hb; have := hb.symm; simp at this; exact this
  obtain ⟨n, r, hin, hx, hd, hrr⟩ := liveB_iff hlv.1
  have hnl := (List.getElem?_eq_some_iff.1 hx).1
  have g1 := flat_len (n := st.Robots.length) (f := avF (sitO s st homes gone) i) (fun j _ => avF_len _ i j)
  refine ⟨r, idx_of hin hx, by simp; omega, by simp; omega, ?_⟩
  refine Jn.mk (fun l => l = st.Dead ++ st.People ++ (List.range st.Robots.length).flatMap (avF (sitO s st homes gone) i)) (V_upto st.Robots.length (fun t : List Int × Int => t.2) (fun j t => t.1 = st.Dead ++ st.People ++ (List.range j).flatMap (avF (sitO s st homes gone) i)) (by unfold maxLen; omega) rfl (by simp) (fun j t hj ht hI => ?_) (fun t h => h)) (fun l hl1 => ?_)
  · rw [ht]
    have hy1 := List.getElem?_eq_getElem hj
    have hyd : st.Robots.getD j default = st.Robots[j] := getD_r hy1
    generalize st.Robots[j] = r1 at hy1 hyd
    have hh := List.getElem?_eq_getElem (show j < homes.length by omega)
    have hhd : homes.getD j 0 = homes[j]'(by omega) := getD_i hh
    generalize homes[j]'_ = h1 at hh hhd
    have gj := flat_len (n := j) (f := avF (sitO s st homes gone) i) (fun j _ => avF_len _ i j)
    have hlen : t.1.length ≤ 10000 := by rw [hI]; simp only [List.length_append]; omega
    have eF : ∀ (e : (j : Int) ≠ i), avF (sitO s st homes gone) i j = h1 :: (if hB (sitO s st homes gone) j = true then [] else [r1.Cell]) := fun e => by
      unfold avF; rw [if_neg e]
      show homes.getD j 0 :: (if _ then [] else [(st.Robots.getD j default).Cell]) = _
      rw [hhd, hyd]
    refine Jn.mk (fun l => l = t.1 ++ avF (sitO s st homes gone) i j) (Ite.mk (fun h => ?_) (fun h => ⟨h1, idx_of rfl hh, by simp; omega, Jn.mk (fun b => b = !hB (sitO s st homes gone) j) (S_ref21_there (Ite.mk (fun h2 => S_ref07_Has hg ?_) (fun h2 => ?_))) (fun b hb2 => Jn.mk (fun l => l = t.1 ++ avF (sitO s st homes gone) i j) (Ite.mk (fun h2 => ⟨r1, idx_of rfl hy1, by simp; omega, ?_⟩) (fun h2 => ?_)) (fun l hl => hl))⟩)) (fun l hl => ⟨rfl, by show l = _; rw [hl, hI, flat_succ]; simp only [List.append_assoc]⟩)
    · have e : (j : Int) = i := by simpa using h
      unfold avF; rw [if_pos e, List.append_nil]
    · have h2' : liveB st j = true := h2
      rw [hBe, h2']; simp
    · have h2' : liveB st j = false := h2
      rw [hBe, h2']; rfl
    · have e : (j : Int) ≠ i := by simpa using h
      rw [h2] at hb2
      have e2 : hB (sitO s st homes gone) j = false := by simpa using hb2.symm
      rw [eF e, e2]; simp
    · have e : (j : Int) ≠ i := by simpa using h
      rw [h2] at hb2
      have e2 : hB (sitO s st homes gone) j = true := by simpa using hb2.symm
      rw [eF e, e2]; simp
  subst hl1
  refine Jn.mk (fun l => l.length ≤ 20000 ∧ ∀ c, c ∈ l ↔ c ∈ (st.Dead ++ st.People ++ (List.range st.Robots.length).flatMap (avF (sitO s st homes gone) i)) ++ (if r.Load ≥ 0 then (List.range st.Shelves.length).flatMap (avS (sitO s st homes gone)) else [])) (Ite.mk (fun h => ?_) (fun h => ?_)) (fun l hl2 => ?_)
  · rw [if_pos (by simpa using h)]
    refine S_ref12_StandingL ks k hf (by omega) hr.cells (fun at_ hal hat => Jn.mk' (V_loopc (xs := at_) (by rw [hal]; unfold maxLen; omega) (fun t : List Int × Int => t.2) (fun j t => t.1.length ≤ 10000 + j ∧ ∀ c, c ∈ t.1 ↔ c ∈ st.Dead ++ st.People ++ (List.range st.Robots.length).flatMap (avF (sitO s st homes gone) i) ∨ (c < (j : Int) ∧ isC s.Floor c = true ∧ 0 ≤ atS st c)) rfl ⟨by simp only [List.length_append]; omega, fun c => ⟨fun h => .inl h, fun h => by rcases h with h | ⟨h1, h2, _⟩; exact h; have := isC_iff.1 h2; simp at h1; omega⟩⟩ (fun j x t hxj ht hI => ?_) (fun t hI => ?_)))
    · obtain ⟨hI1, hI2⟩ := hI
      have hjl := (List.getElem?_eq_some_iff.1 hxj).1
      have hjc : isC s.Floor (j : Int) = true := isC_iff.2 ⟨by omega, by omega⟩
      have hxe : x = atS st (j : Int) := by
        have h1 := hat j hjc
        rw [idx_of rfl hxj] at h1; exact Option.some.inj h1
      rw [ht]
      have step : ∀ c : Int, c < ((j + 1 : Nat) : Int) ↔ c < (j : Int) ∨ c = j := fun c => by omega
      refine Jn.mk (fun l => l.length ≤ 10000 + (j + 1) ∧ ∀ c, c ∈ l ↔ c ∈ st.Dead ++ st.People ++ (List.range st.Robots.length).flatMap (avF (sitO s st homes gone) i) ∨ (c < ((j + 1 : Nat) : Int) ∧ isC s.Floor c = true ∧ 0 ≤ atS st c)) (Ite.mk (fun h2 => ⟨by simp; omega, by simp; omega, fun c => ?_⟩) (fun h2 => ⟨by omega, fun c => ?_⟩)) (fun l hl => ⟨rfl, hl⟩)
      · have h2' : 0 ≤ atS st (j : Int) := by rw [← hxe]; simpa using h2
        rw [List.mem_append, hI2 c, step c, List.mem_singleton]
        constructor
        · rintro ((h | h) | h)
          · exact .inl h
          · exact .inr ⟨.inl h.1, h.2⟩
          · subst h; exact .inr ⟨.inr rfl, hjc, h2'⟩
        · rintro (h | ⟨h | h, h3⟩)
          · exact .inl (.inl h)
          · exact .inl (.inr ⟨h, h3⟩)
          · exact .inr h
      · have h2' : ¬ 0 ≤ atS st (j : Int) := by rw [← hxe]; simpa using h2
        rw [hI2 c, step c]
        constructor
        · rintro (h | h)
          · exact .inl h
          · exact .inr ⟨.inl h.1, h.2⟩
        · rintro (h | ⟨h | h, h3⟩)
          · exact .inl h
          · exact .inr ⟨h, h3⟩
          · subst h; exact absurd h3.2 h2'
    · obtain ⟨hI1, hI2⟩ := hI
      rw [hal] at hI1 hI2
      refine ⟨by omega, fun c => ?_⟩
      show c ∈ t.1 ↔ _
      rw [hI2 c, List.mem_append (s := st.Dead ++ st.People ++ _), stand_mem hf hr]
      exact ⟨fun h => h.imp id (fun h => h.2), fun h => h.imp id (fun h => ⟨(isC_iff.1 h.1).2, h⟩)⟩
  · rw [if_neg (by simpa using h), List.append_nil]
    exact ⟨by simp only [List.length_append]; omega, fun c => Iff.rfl⟩
  · obtain ⟨hl2, hl3⟩ := hl2
    refine Jn.mk (fun m => m = l.filter fun c => c != r.Cell) (V_loopc (xs := l) (by unfold maxLen; omega) (fun t : List Int × Int => t.2) (fun j t => t.1 = (l.take j).filter fun c => c != r.Cell) rfl rfl (fun j x t hxj ht hI => ?_) (fun t h => by rw [List.take_length] at h; exact h)) (fun m hm => ?_)
    · have hjl := (List.getElem?_eq_some_iff.1 hxj).1
      rw [ht]
      have hle : t.1.length ≤ 20000 := by rw [hI]; refine Nat.le_trans (List.length_filter_le _ _) ?_; rw [List.length_take]; omega
      refine Jn.mk (fun m => m = (l.take (j + 1)).filter fun c => c != r.Cell) (Ite.mk (fun h2 => ⟨by simp; omega, ?_⟩) (fun h2 => ?_)) (fun m hm => ⟨rfl, hm⟩)
      · rw [take_succ hxj, List.filter_append, hI, List.filter_cons_of_pos (p := fun c : Int => c != r.Cell) h2]; rfl
      · rw [take_succ hxj, List.filter_append, hI, List.filter_cons_of_neg (p := fun c : Int => c != r.Cell) (by rw [h2]; simp)]; simp
    · have hh := List.getElem?_eq_getElem (show n < homes.length by omega)
      have hhd : homes.getD i.toNat 0 = homes.getD n 0 := by rw [hin]; rfl
      have hh' : homes[n]? = some (homes.getD i.toNat 0) := by rw [hhd, hh]; exact congrArg some (getD_i hh).symm
      subst hm
      have hmem : ∀ c, c ∈ (l.filter fun c => c != r.Cell) ↔ c ∈ avL (sitO s st homes gone) i := fun c => by
        unfold avL
        have e1 : (rAt (sitO s st homes gone).st i) = r := hrr
        rw [e1, List.mem_filter, List.mem_filter, hl3 c]
        rfl
      rw [hrr] at hy
      refine ⟨_, idx_of hin hh', S_ref07_Path hf (Nat.le_trans (List.length_filter_le _ _) (by unfold maxLen; omega)) (fun hno => hn fun hw => ?_) (fun kk p h1 h2 h3 => hy kk p ⟨hlv.1, hlv.2, kk, ?_⟩ (fun j hj => h2 j ((PB.congr hmem).2 hj)) ((PB.congr hmem).1 h1) (h3.congr hmem))⟩
      · obtain ⟨_, _, k, hk⟩ := hw
        have hk' : PB s.Floor (homes.getD i.toNat 0) (avL (sitO s st homes gone) i) k r.Cell := by rw [← hrr]; exact hk
        exact hno k ((PB.congr hmem).2 hk')
      · have := (PB.congr hmem).1 h1
        rw [← hrr] at this; exact this
end
end Go.Taq
