/- The library of the generated walks, part ZD: slices.SortFunc at rows that are owned, by a comparison that has captured what is read only. -/
import Derived.Test.YtghoacejnmgldaaLibZB
set_option linter.unusedVariables false
set_option linter.unusedSimpArgs false
namespace Go.Taq
open Go Go.Shelf Go.RowKit Go.Lib Go.Sort Go.Proofs

theorem Dn.fn_inv' {w0 : World} {ok : Nat → Prop} {β : List Value} {f : Fn} {fs cs : List AVal} {y : Value} (h : Dn w0 ok β (.fn f fs cs) y) : ∃ us vs : Array Value, y = .func f us vs ∧ fs.length = us.size ∧ cs.length = vs.size ∧ ∀ (j : Nat) (A : AVal), cs[j]? = some A → Dn w0 ok β A (vs.getD j undef) := by
  cases h with
  | ro h => cases h
  | fn f fs cs us vs hl h hl' h' => exact ⟨us, vs, rfl, hl, hl', h'⟩
section
variable {κ : Type} [Inhabited κ]
theorem sortWorld_heap {ev : κ → Value} {w : World} {b off m : Nat} {dk : Array κ} {os : Array Obj} {c : Array Value} {T : TypeId} (hw : w.heap[b]? = some (.cells c T (0, 0))) (b' : Nat) (hb' : b' < w.heap.size) :
    (sortWorld ev w b off m dk os).heap[b']? = if b = b' then some (.cells (putCells ev off dk c) T (0, 0)) else w.heap[b']? := by
  simp only [sortWorld, putRow, grow, mapBlock]
  rw [Array.getElem?_append_left (by simpa [ahead] using hb'), Array.getElem?_modify]
  by_cases e : b = b'
  · subst e; rw [if_pos rfl, if_pos rfl]; show Option.map _ (w.heap[b]?) = _; rw [hw]; rfl
  · rw [if_neg e, if_neg e]; rfl
theorem sortWorld_size {ev : κ → Value} {w : World} {b off m : Nat} {dk : Array κ} {os : Array Obj} : w.heap.size ≤ (sortWorld ev w b off m dk os).heap.size := by
  simp [sortWorld, putRow, grow, mapBlock, ahead]
end
theorem map_ix {α : Type} (xs : List α) : (List.ofFn (fun i : Fin xs.length => i)).map (fun i => xs[i]) = xs := by
  apply List.ext_getElem
  · simp
  · intro i h1 h2; simp
theorem ofFn_nodup (n : Nat) : (List.ofFn (fun i : Fin n => i)).Nodup := by
  rw [List.Nodup, List.pairwise_iff_getElem]
  intro i j hi hj hij
  simp only [List.getElem_ofFn, ne_eq, Fin.mk.injEq]; omega
section
variable {P : Program} {ρ : Ren} {α : Type}
set_option maxHeartbeats 4000000 in
theorem Tr.sortRows {enc enc' : α → List AVal} {rd : α → AVal} (L : SlLaysF.n6 P ρ) (h1 : ∀ x, (enc x).length = 1) (hrd : ∀ x, enc' x = [rd x]) (hz : ∀ x, FzL (enc x) (enc' x)) (hone : ∀ (w0 w : World) (ok F : Nat → Prop) x A v, A ∈ enc x → On w0 ok w A v F → v.oneCell' = true)
    {g : Nat} (eg : Entered P g) {caps : List AVal} (hcr : ∀ A, A ∈ caps → A.isRo = true) {p : α → Prop} {cf : α → α → Int} (hO : SWOc fun x y : Subtype p => cf x.1 y.1) (xs : List α) (hp : ∀ x, x ∈ xs → p x)
    (hcmp : ∀ x y, p x → p y → Tr P g ([rd x, rd y] ++ caps) [] 0 (fun A H' k => ∃ r, r = cf x y ∧ A = (.v (.int .i64 r)) ∧ H' = [] ∧ k = 0)) (hsz : xs.length ≤ 1099511627776) {post : List α → Prop} (hpost : ∀ ys, ys.Perm xs → ys.Pairwise (fun x y => ¬ cf y x < 0) → post ys) :
    Tr P (ρ.f 6) [.o 0, .fn (.func g) [] caps] [(0, .val (.os 1 enc xs))] 1 (fun A H' k' => ∃ ys, post ys ∧ A = (.tup []) ∧ H' = [(0, .val (.os 1 enc ys))] ∧ k' = 1) := by
  intro w ok F β vs hβ hok hF hH hd
  obtain ⟨F1, F2, hF1, hF2, _, ⟨v0, hv0, hon⟩, _⟩ := hH
  obtain ⟨cb, hvs, hcs, hcd⟩ : ∃ cb : Array Value, vs = #[v0, .func (.func g) #[] cb] ∧ caps.length = cb.size ∧ ∀ (j : Nat) (A : AVal), caps[j]? = some A → Dn w ok β A (cb.getD j undef) := by
    have h0 := (hd.2 0 _ rfl).o_inv
    rw [hv0] at h0
    obtain ⟨us, ws, h1, h2, h3, h4⟩ := (hd.2 1 _ rfl).fn_inv'
    have hs := hd.1
    have hus : us = #[] := Array.eq_empty_of_size_eq_zero (by simpa using h2.symm)
    subst hus
    refine ⟨ws, ?_, h3, h4⟩
    apply Array.ext
    · simpa using hs.symm
    · intro i hi1 hi2
      have hi : i = 0 ∨ i = 1 := by simp at hi2; omega
      rcases hi with rfl | rfl
      · have := Option.some.inj h0
        simp [Array.getD_eq_getD_getElem?, Array.getElem?_eq_getElem hi1] at this
        simp [this]
      · simp [Array.getD_eq_getD_getElem?, Array.getElem?_eq_getElem hi1] at h1
        simp [h1]
  subst hvs
  by_cases hx0 : xs = []
  · subst hx0
    obtain ⟨q, cap0, rfl⟩ := hon.os_len
    refine (AnyF.slices_SortFunc_none { L with } q cap0 _ w).mono fun e w' ⟨he, hw⟩ => ?_
    subst hw
    exact ⟨_, .tup [], [(0, .val (.os 1 enc []))], β, F, ok, he, ⟨[], hpost [] (.refl _) .nil, rfl, rfl, hβ⟩, fun _ _ h => h, fun l x b hl hx _ => (by rw [List.getElem?_eq_none (by omega)] at hx; cases hx), .refl _ _, fun _ h => h, fun b hb => ⟨.inl hb, (hok b hb).1⟩, fun b hb => ⟨.inl hb, hF b hb, fun ho => (hok b ho).2 hb⟩,
      ⟨F, fun _ => False, fun _ h => h, fun _ h => h.elim, fun _ _ h => h, ⟨_, hv0, hon.mono hF1⟩, trivial⟩, .tup [] #[] rfl (by simp)⟩
  have hx1 : 0 < xs.length := List.length_pos_iff.2 hx0
  generalize hA2 : AVal.os 1 enc xs = A2 at hon
  cases hon with
  | ro F h => subst hA2; cases h
  | arr => cases hA2
  | om => cases hA2
  | osNil n2 enc2 F p => cases hA2; exact absurd rfl hx0
  | os n2 enc2 xs2 b off cap c T F' G hb hw hlen2 hcap hn hG hdj hr =>
    cases hA2
    haveI : Inhabited (Fin xs.length) := ⟨⟨0, hx1⟩⟩
    have hbF : F b := hF1 b hb
    have hblk := hF b hbF
    have hA : ∀ x, ∃ A, enc x = [A] ∧ Fz A (rd x) := fun x => by
      have h := hz x; rw [hrd x] at h; have h2 := h1 x
      revert h h2; generalize enc x = l; intro h h2
      cases h with
      | cons h hr => cases hr; exact ⟨_, rfl, h⟩
    let ev : Fin xs.length → Value := fun i => c.getD (off + i.1) undef
    have hOn : ∀ i : Fin xs.length, ∀ A, A ∈ enc xs[i] → On w ok w A (ev i) (G i.1 0) := fun i A hAm => by
      obtain ⟨A', e1, _⟩ := hA xs[i]
      rw [e1] at hAm; simp at hAm; subst hAm
      have := hr i.1 0 xs[i] A (by simp) (by rw [e1]; rfl)
      simpa [ev] using this
    let ok2 : Nat → Prop := fun k => ok k ∨ ∃ i j, G i j k
    have hok2 : ∀ k, ok2 k → k < w.heap.size ∧ k ≠ b := fun k hk => by
      rcases hk with hk | ⟨i, j, hk⟩
      · exact ⟨(hok k hk).1, fun e => (hok k hk).2 (e ▸ hbF)⟩
      · exact ⟨hF k (hF1 k (hG i j k hk).1), (hG i j k hk).2⟩
    have hsame : ∀ (m : Nat) (os : Array Obj) (dk : Array (Fin xs.length)) k, k < w.heap.size → k ≠ b → (sortWorld ev w b off m dk os).heap[k]? = w.heap[k]? := fun m os dk k h1 h2 => by
      rw [sortWorld_heap hw k h1, if_neg (fun e => h2 e.symm)]
    have hcl : CmpLays1 P g cb ev (fun i j : Fin xs.length => cf xs[i] xs[j]) b off (Array.ofFn (fun i : Fin xs.length => i)).size w := by
      intro m os dk hs x y
      have h2 := hcmp xs[x] xs[y] (hp _ (by simp)) (hp _ (by simp)) (sortWorld ev w b off m dk os) ok2 (fun _ => False) [] (#[ev x, ev y] ++ cb) rfl (fun k hk => ⟨Nat.lt_of_lt_of_le (hok2 k hk).1 sortWorld_size, id⟩) (fun _ h => h.elim) trivial ?_
      · refine h2.mono fun e w' ⟨v, A, H', β', F2, ok', e1, ⟨r, hrr, hA, _, _⟩, _, _, hk, _, _, _, _, hvv⟩ => ?_
        subst hA; subst hrr
        have := hvv.v_inv; subst this
        exact ⟨e1, hk.grown⟩
      · have dn : ∀ x : Fin xs.length, Dn (sortWorld ev w b off m dk os) ok2 [] (rd xs[x]) (ev x) := fun x => by
          obtain ⟨A, e1, hf⟩ := hA xs[x]
          have h3 : Ro w ok2 (rd xs[x]) (ev x) := (hOn x A (by rw [e1]; simp)).freeze (fun _ _ => rfl) (fun _ h => .inl h) hf (fun k hk => .inr ⟨_, _, hk⟩)
          exact .ro (h3.later fun k hk hlt => hsame m os dk k hlt (hok2 k hk).2)
        refine ⟨by simp [hcs]; omega, fun j A hA => ?_⟩
        match j, hA with
        | 0, hA => simp at hA; subst hA; simpa [Array.getD_eq_getD_getElem?, Array.getElem?_append] using dn x
        | 1, hA => simp at hA; subst hA; simpa [Array.getD_eq_getD_getElem?, Array.getElem?_append] using dn y
        | j + 2, hA =>
          have hA : caps[j]? = some A := by simpa using hA
          have h3 := (hcd j A hA).ro_of (hcr A (List.mem_of_getElem? hA))
          have h4 : (#[ev x, ev y] ++ cb).getD (j + 2) undef = cb.getD j undef := by
            rw [Array.getD_eq_getD_getElem?, Array.getD_eq_getD_getElem?, Array.getElem?_append_right (by simp)]; simp
          rw [h4]
          exact .ro ((h3.mono (fun k hk => .inl hk)).later fun k hk hlt => hsame m os dk k hlt (hok2 k hk).2)
    have h1c : OneCell ev := fun i => by
      obtain ⟨A, e1, _⟩ := hA xs[i]
      exact hone _ _ _ _ xs[i] A _ (by rw [e1]; simp) (hOn i A (by rw [e1]; simp))
    have hO' : SWOc (fun i j : Fin xs.length => cf xs[i] xs[j]) :=
      ⟨fun i => hO.1 ⟨xs[i], hp _ (by simp)⟩, fun i j k => hO.2.1 ⟨xs[i], hp _ (by simp)⟩ ⟨xs[j], hp _ (by simp)⟩ ⟨xs[k], hp _ (by simp)⟩, fun i j k => hO.2.2 ⟨xs[i], hp _ (by simp)⟩ ⟨xs[j], hp _ (by simp)⟩ ⟨xs[k], hp _ (by simp)⟩⟩
    have hH : Holds ev w b off (Array.ofFn (fun i : Fin xs.length => i)) := by
      intro j hj
      have hj' : j < xs.length := by simpa using hj
      have e1 : (Array.ofFn (fun i : Fin xs.length => i))[j]! = ⟨j, hj'⟩ := by rw [getElem!_pos _ j hj]; simp
      rw [e1]
      refine ⟨?_, by simp [World.frozen?, hw]⟩
      exact cells_getD hw (by omega)
    have hcon := Any.slices_SortFunc L ev h1c _ hO'.swo g cb b off cap (Array.ofFn (fun i : Fin xs.length => i)) w eg hcl hH hblk (by simp; omega)
    simp only [Array.size_ofFn] at hcon
    refine hcon.mono fun e w' ⟨he, d', n, os, hp', hs, hw'⟩ => ?_
    have hd's : d'.size = xs.length := by simpa using hp'.1
    have hperm : d'.toList.Perm (List.ofFn (fun i : Fin xs.length => i)) := by
      have := hp'.2.2
      simp only [Nat.sub_zero, Array.toList_extract, List.extract_eq_take_drop, List.drop_zero] at this
      rw [List.take_of_length_le (by simp [hd's]), List.take_of_length_le (by simp)] at this
      simpa using this
    have hnd : d'.toList.Nodup := hperm.nodup_iff.2 (ofFn_nodup _)
    have hperm2 : (d'.toList.map (fun i => xs[i])).Perm xs := by
      have := hperm.map (fun i => xs[i]); rwa [map_ix] at this
    have hsort : (d'.toList.map (fun i => xs[i])).Pairwise (fun x y => ¬ cf y x < 0) := by
      rw [List.pairwise_map, List.pairwise_iff_getElem]
      intro i j hi hj hij
      have := hs i j (Nat.zero_le _) hij (by simpa [hd's] using hj)
      simp only [Array.length_toList] at hi hj
      rw [getElem!_pos d' j hj, getElem!_pos d' i hi] at this
      simpa [ltOf] using this
    have hsize : w.heap.size ≤ w'.heap.size := by rw [hw']; exact sortWorld_size
    have hkeep : ∀ k, k < w.heap.size → k ≠ b → w'.heap[k]? = w.heap[k]? := fun k h1 h2 => by rw [hw']; exact hsame _ _ _ k h1 h2
    have hKp : Kp w F w' := by
      refine ⟨by rw [hw']; rfl, by rw [hw']; rfl, by rw [hw']; rfl, hsize, fun b' hb' hn => hkeep b' hb' (fun e => by subst e; exact hn hbF), by rw [hw']; exact .of_le (by simp [sortWorld, putRow, grow, mapBlock, ahead])⟩
    have hcs' : (putCells ev off d' c).size = c.size := by simp [putCells]
    have hcell : ∀ i (hi : i < d'.size), (putCells ev off d' c).getD (off + i) undef = ev d'[i] := fun i hi => by
      have hlt2 : off + i < c.size := by omega
      rw [Array.getD_eq_getD_getElem?, Array.getElem?_eq_getElem (by rw [hcs']; exact hlt2)]
      simp only [putCells, Array.getElem_mapIdx, Option.getD_some]
      rw [if_pos (by omega)]
      have e5 : off + i - off = i := by omega
      rw [e5, getElem!_pos d' i hi]
    have hOn' : On w' ok w' (.os 1 enc (d'.toList.map (fun i => xs[i]))) (.slice (some ⟨b, off, none⟩) xs.length cap) F := by
      have g1 : ∀ i j i' j' k, (∃ h : i < d'.size, G (d'[i]).1 j k) → (∃ h : i' < d'.size, G (d'[i']).1 j' k) → i = i' ∧ j = j' := by
        intro i j i' j' k hk hk'
        obtain ⟨h3, hk⟩ := hk
        obtain ⟨h4, hk'⟩ := hk'
        obtain ⟨e1, e2⟩ := hdj _ _ _ _ _ hk hk'
        refine ⟨?_, e2⟩
        have e3 : d'[i] = d'[i'] := Fin.ext e1
        exact (List.getElem_inj (i := i) (j := i') (h₀ := by simpa using h3) (h₁ := by simpa using h4) hnd).1 (by simpa using e3)
      have g2 : ∀ (i j : Nat) (x : α) (A : AVal), (d'.toList.map (fun i => xs[i]))[i]? = some x → (enc x)[j]? = some A → On w' ok w' A ((putCells ev off d' c).getD (off + i * 1 + j) undef) (fun k => ∃ h : i < d'.size, G (d'[i]).1 j k) := by
        intro i j x A hx hA2
        rw [List.getElem?_map] at hx
        obtain ⟨q, hq, rfl⟩ := Option.map_eq_some_iff.1 hx
        have hi : i < d'.size := by simpa using (List.getElem?_eq_some_iff.1 hq).1
        have hqi : d'[i] = q := by have := (List.getElem?_eq_some_iff.1 hq).2; simpa using this
        have hj : j = 0 := by
          have := (List.getElem?_eq_some_iff.1 hA2).1; rw [h1] at this; omega
        subst hj
        have hA3 : A ∈ enc xs[q] := List.mem_of_getElem? hA2
        have h5 := hOn q A hA3
        have e6 : off + i * 1 + 0 = off + i := by omega
        rw [e6, hcell i hi, hqi]
        have h6 : On w ok w' A (ev q) (G q.1 0) := h5.later fun k hk hlt => hkeep k hlt (hG _ _ _ hk).2
        have h7 : On w' ok w' A (ev q) (G q.1 0) := h6.lift (fun k hk => hkeep k (hok k hk).1 (fun e => (hok k hk).2 (e ▸ hbF))) (fun _ h => h) rfl
        exact h7.mono fun k hk => ⟨hi, by rw [hqi]; exact hk⟩
      have := On.os (w0 := w') (ok := ok) (w := w') 1 enc (d'.toList.map (fun i => xs[i])) b off cap (putCells ev off d' c) T F (fun i j k => ∃ h : i < d'.size, G (d'[i]).1 j k) hbF (by rw [hw', sortWorld_heap hw b hblk, if_pos rfl]) (by simpa [hd's] using hlen2) (by rw [hcs']; exact hcap) (fun i x _ => h1 x)
        (fun i j k hk => ⟨hF1 k (hG _ _ _ hk.2).1, (hG _ _ _ hk.2).2⟩) g1 g2
      simpa [hd's] using this
    exact ⟨_, .tup [], [(0, .val (.os 1 enc (d'.toList.map (fun i => xs[i]))))], β, F, ok, he, ⟨_, hpost _ hperm2 hsort, rfl, rfl, hβ⟩, fun _ _ h => h, fun l x b hl hx _ => (by rw [List.getElem?_eq_none (by omega)] at hx; cases hx), hKp, fun _ h => h, fun b hb => ⟨.inl hb, Nat.lt_of_lt_of_le (hok b hb).1 hsize⟩, fun b hb => ⟨.inl hb, Nat.lt_of_lt_of_le (hF b hb) hsize, fun ho => (hok b ho).2 hb⟩,
      ⟨F, fun _ => False, fun _ h => h, fun _ h => h.elim, fun _ _ h => h, ⟨_, hv0, hOn'⟩, trivial⟩, .tup [] #[] rfl (by simp)⟩
end
/-- a row's value is one cell -/
theorem On.os_one {w0 w : World} {ok : Nat → Prop} {α : Type} {n : Nat} {enc : α → List AVal} {xs : List α} {y : Value} {F : Nat → Prop} (h : On w0 ok w (.os n enc xs) y F) : y.oneCell' = true := by
  obtain ⟨p, cap, rfl⟩ := h.os_len; rfl
end Go.Taq
