/- The library of the generated walks, part ZT: copy into an owned slice. -/
import Derived.Test.YthbeknnkokooiaaLibZA
set_option linter.unusedVariables false
set_option linter.unusedSimpArgs false
namespace Go.Taq
open Go
/-- a part of an owned slice is a source -/
theorem Src.part {w0 w : World} {ok : Nat → Prop} {α : Type} {n : Nat} {enc : α → List AVal} {xs : List α} {v : Value} {F : Nat → Prop} (h : Flat w0 ok w n enc xs F v) {i m : Nat} (him : i + m ≤ xs.length) {b o len cap c' : Nat} (hm : 0 < m) (hv : v = .slice (some ⟨b, o, none⟩) len cap) : Src w0 ok w n enc ((xs.drop i).take m) (.slice (some ⟨b, o + i * n, none⟩) m c') := by
  cases h with
  | nil p h => subst h; simp at him; omega
  | row b2 off2 cap2 c T hb hw hlen hcap hn hr =>
    cases hv
    have hsz : o + i * n + m * n ≤ c.size := by
      have : (i + m) * n ≤ cap * n := Nat.mul_le_mul_right _ (by omega)
      rw [Nat.add_mul] at this; omega
    have hl : ((xs.drop i).take m).length = m := by simp; omega
    have hget : ∀ (q : Nat) (y : α), ((xs.drop i).take m)[q]? = some y → q < m ∧ xs[i + q]? = some y := fun q y hy => by
      have hq := (List.getElem?_eq_some_iff.1 hy).1
      rw [hl] at hq
      rw [List.getElem?_take, if_pos hq, List.getElem?_drop] at hy
      exact ⟨hq, hy⟩
    refine ⟨some ⟨b, o + i * n, none⟩, c', (c.toList.drop (o + i * n)).take (m * n), by rw [hl], by rw [hl]; simp; omega, fun y hy => ?_, fun _ => ⟨_, rfl, fun j u hu => ?_⟩, fun q j y A hy hA => ?_⟩
    · obtain ⟨q, hq⟩ := List.getElem?_of_mem hy; exact hn _ y (hget q y hq).2
    · have hj := (List.getElem?_eq_some_iff.1 hu).1
      simp only [List.length_take, List.length_drop, Array.length_toList] at hj
      rw [List.getElem?_take, if_pos (by omega), List.getElem?_drop] at hu
      rw [addr_add]
      have : c[o + i * n + j]? = some u := by simpa using hu
      simp [World.cell?, hw, this]
    · obtain ⟨hq, hxq⟩ := hget q y hy
      have hjn : j < n := by rw [← hn _ y hxq]; exact (List.getElem?_eq_some_iff.1 hA).1
      have hlt : q * n + j < m * n := by
        have : (q + 1) * n ≤ m * n := Nat.mul_le_mul_right _ hq
        rw [Nat.succ_mul] at this; omega
      have := hr (i + q) j y A hxq hA
      have e : ((c.toList.drop (o + i * n)).take (m * n)).getD (q * n + j) undef = c.getD (o + (i + q) * n + j) undef := by
        simp only [List.getD_eq_getElem?_getD, Array.getD_eq_getD_getElem?]
        rw [List.getElem?_take, if_pos hlt, List.getElem?_drop, Nat.add_mul]
        have e2 : o + i * n + (q * n + j) = o + (i * n + q * n) + j := by omega
        rw [e2]; simp
      rw [e]; exact this
section
variable {P : Program} {B : Base} {tb : Tab} {Γ : Env} {H : Heap} {nl : Nat} {o : Oper}
/-- copy into an owned slice, or a part of one -/
theorem Eff1.cp (htb : TabOk P tb) {α : Type} {t : TypeId} {x y : Operand} {l n i m : Nat} {enc : α → List AVal} {xs ys : List α} {d e n' by_ : Nat} {zc : List Value} {e' : TE} {X Y : AVal}
    (ho : o.op = .call ⟨.builtin .copy, #[x, y], #[t, t]⟩) (hd : o.dst = some d) (hlt : d.blt B.n = true) (hx : ev Γ x = some X) (hX : X = .vw l n i m ∨ (X = .o l ∧ i = 0 ∧ m = xs.length)) (hl : find H l = some (.val (.os n enc xs))) (hy : ev Γ y = some Y)
    (hY : Y = .sl n enc ys ∨ (∃ l2, Y = .o l2 ∧ find H l2 = some (.val (.os n enc ys))) ∨ (∃ l2 i2 m2 zs, Y = .vw l2 n i2 m2 ∧ find H l2 = some (.val (.os n enc zs)) ∧ i2 + m2 ≤ zs.length ∧ ys = (zs.drop i2).take m2))
    (ht : find tb t = some ⟨.sl e, n', by_, zc⟩) (he : find tb e = some e') (hn : e'.n = n) (hflat : ∀ x, (enc x).all plain1 = true) (hm : i + m ≤ xs.length) {k : Nat} (hk : k = min ys.length m) :
    Eff1 P B Γ H nl o ((d, .v (.int .i64 (k : Int))) :: Γ) (setH H l (.val (.os n enc (xs.take i ++ (ys.take k ++ xs.drop (i + k)))))) nl (.fx [l] false) := Eff1.of_value fun B' hB β F a w hβ hf => by
  rw [← hB] at hlt
  have hfro : ∀ x A, A ∈ enc x → A.isRo = true := fun x A h => plain1_ro (List.all_eq_true.1 (hflat x) A h)
  obtain ⟨dst, op, ty, pos, af, g⟩ := o
  simp only at ho hd; subst ho; subst hd; subst hn; subst hβ
  obtain ⟨dd, hdd, rfl⟩ := htb.und ht
  have hok : ∀ b, B'.ok b → w.heap[b]? = B'.w0.heap[b]? := fun b hb => by have := hf.ok b hb; exact hf.kp.block b this.1 this.2
  -- the source
  have hsrc : Src B'.w0 B'.ok w e'.n enc ys (a.eval y) := by
    rcases hY with rfl | ⟨l2, rfl, h2⟩ | ⟨l2, i2, m2, zs, rfl, h2, h3, rfl⟩
    · exact Src.ro (ev_sound hf.env hy).sl_inv hok
    · obtain ⟨F2, _, v2, hv2, ho2⟩ := hf.heap.get h2
      have := (ev_sound (a := a) hf.env hy).o_inv
      rw [hv2] at this; cases this
      exact Src.own (ho2.flat_of hfro)
    · obtain ⟨F2, _, v2, hv2, ho2⟩ := hf.heap.get h2
      rcases (ev_sound (a := a) hf.env hy).vw_inv with ⟨h0, p, c, hv⟩ | ⟨h0, b', o', len, cap', h4, h5, hv⟩
      · subst h0
        rw [hv]
        exact ⟨p, c, [], by simp, by simp, by simp, fun h => absurd (by simp) h, by simp⟩
      · rw [hv2] at h4
        rw [hv]; exact Src.part (ho2.flat_of hfro) h3 h0 (Option.some.inj h4)
  obtain ⟨q, c2, news, hyv, hnl, hyn, hq, hnr⟩ := hsrc.h
  have hone := news_one hflat hnl hyn hnr
  have hkl : k ≤ ys.length ∧ k ≤ m := by omega
  have hnk : (news.take (k * e'.n)).length = k * e'.n := by
    have : k * e'.n ≤ ys.length * e'.n := Nat.mul_le_mul_right _ hkl.1
    rw [List.length_take, hnl]; omega
  have hfirst : (Builtin.firstCells e'.n k (.slice q ys.length c2)).run P w = .ok (news.take (k * e'.n)).toArray w := by
    by_cases h : ys = []
    · subst h
      have hk0 : k = 0 := by simp at hk; exact hk
      subst hk0
      cases q with
      | none => simp [Builtin.firstCells]
      | some p => simp [Builtin.firstCells, loadCells, loadCellsFrom]
    · obtain ⟨p, rfl, hp⟩ := hq h
      refine run_firstCells_some w e'.n k p _ c2 _ hnk (fun j u hu => ?_)
      have hj := (List.getElem?_eq_some_iff.1 hu).1
      rw [hnk] at hj
      rw [List.getElem?_take, if_pos hj] at hu
      exact hp j u hu
  obtain ⟨F1, hF1, ⟨v, hv, hon⟩, hset⟩ := hf.heap.set hl
  have hfl := hon.flat_of hfro
  -- the destination
  have hD : VwOk β l e'.n i m (a.eval x) := by
    rcases hX with rfl | ⟨rfl, rfl, rfl⟩
    · exact (ev_sound (a := a) hf.env hx).vw_inv
    · have := (ev_sound (a := a) hf.env hx).o_inv
      rw [hv] at this
      have hxv := Option.some.inj this
      rw [← hxv]
      cases hfl with
      | nil p h => subst h; exact .inl ⟨rfl, p, 0, rfl⟩
      | row b off cap c T hb hw hlen hcap hnn hr =>
        rcases Nat.eq_zero_or_pos xs.length with h0 | h0
        · rw [h0]; exact .inl ⟨rfl, _, _, rfl⟩
        · exact .inr ⟨h0, b, off, xs.length, cap, hv, by omega, by simp⟩
  have hlenY : ∀ w' : World, (Builtin.lenOf (.slice q ys.length c2)).run P w' = .ok ys.length w' := fun w' => by simp [Builtin.lenOf]
  have hsz := htb.size he
  rcases hD with ⟨h0, p, c, hxv⟩ | ⟨h0, b', o', len, cap', h1, h2, hxv⟩
  · subst h0
    have hk0 : k = 0 := by omega
    subst hk0
    have e1 : xs.take i ++ (ys.take 0 ++ xs.drop (i + 0)) = xs := by simp
    rw [e1]
    have hfb : FitsB B' β F Γ (setH H l (.val (.os e'.n enc xs))) a w := ⟨hf.kp, hf.ok, hf.own, hset _ _ (fun _ _ _ _ => rfl) ⟨v, hv, hon⟩, hf.env, hf.size, hf.defers, hf.pre⟩
    refine ⟨.int .i64 0, w, β, F, ?_, rfl, fun _ _ h => h, fun l x b hl hx _ => ?_, hfb.put hlt (.ro (.v _)), .refl _ _⟩
    · have hnt : news.take (0 * e'.n) = [] := by simp
      rw [hnt] at hfirst
      cases p <;> simp [execOp, resolve, invoke, builtin, hxv, hyv, Builtin.copy_, Builtin.lenOf, run_underlying hdd, hsz, hfirst, goInt, storeCells]
    · rw [List.getElem?_eq_none (by omega)] at hx; cases hx
  · rw [hv] at h1; cases h1
    generalize hvv : Value.slice (some ⟨b', o', none⟩) len cap' = v at hfl
    cases hfl with
    | nil p h => cases hvv; omega
    | row b off2 cap c T' hFb hw hlen hcap hnn hr =>
      cases hvv
      generalize hvs : news.take (k * e'.n) = vs at *
      have hie : o' + i * e'.n + vs.length ≤ c.size := by
        rw [hnk]
        have : (i + k) * e'.n ≤ cap' * e'.n := Nat.mul_le_mul_right _ (by omega)
        rw [Nat.add_mul] at this; omega
      have hone' : ∀ v ∈ vs, v.oneCell' = true := fun v hv => hone v (List.mem_of_mem_take (hvs ▸ hv))
      have hst := run_storeCells_at (P := P) b' (o' + i * e'.n) T' vs 0 c w hw (by simpa using hie) hone'
      simp only [Nat.add_zero] at hst
      generalize hc2 : (c.toList.take (o' + i * e'.n) ++ vs ++ c.toList.drop (o' + i * e'.n + vs.length)).toArray = c2' at hst
      have hc2s : c2'.size = c.size := by rw [← hc2]; simp only [List.size_toArray, List.length_append, List.length_take, List.length_drop, Array.length_toList]; omega
      have hrow := setRow_heap w b' c c2' T' (0, 0) hw
      have hhd : Mod β [l] b' := ⟨l, by simp, _, hv, by obtain ⟨k, rfl⟩ : ∃ k, cap' = k + 1 := ⟨cap' - 1, by omega⟩; rfl⟩
      have hkk := kp_setRow w b' c2' (fun x => x = b') rfl
      have hM : ∀ x, x = b' → x < B'.w0.heap.size → B'.M x := fun x hx hlt' => by subst hx; exact (hf.own x (hF1 x hFb)).2 hlt'
      have hxl : (xs.take i ++ (ys.take k ++ xs.drop (i + k))).length = xs.length := by simp; omega
      have hget : ∀ p u, (xs.take i ++ (ys.take k ++ xs.drop (i + k)))[p]? = some u → (p < i ∧ xs[p]? = some u) ∨ (i ≤ p ∧ p < i + k ∧ ys[p - i]? = some u) ∨ (i + k ≤ p ∧ xs[p]? = some u) := fun p u hu => by
        have hti : (xs.take i).length = i := by simp; omega
        have hyk : (ys.take k).length = k := by simp; omega
        rcases Nat.lt_or_ge p i with h | h
        · rw [List.getElem?_append_left (by omega), List.getElem?_take, if_pos h] at hu; exact .inl ⟨h, hu⟩
        · rw [List.getElem?_append_right (by omega), hti] at hu
          rcases Nat.lt_or_ge p (i + k) with h' | h'
          · rw [List.getElem?_append_left (by omega), List.getElem?_take, if_pos (by omega)] at hu
            exact .inr (.inl ⟨h, h', hu⟩)
          · rw [List.getElem?_append_right (by omega), hyk, List.getElem?_drop] at hu
            have e3 : i + k + (p - i - k) = p := by omega
            rw [e3] at hu
            exact .inr (.inr ⟨h', hu⟩)
      suffices hres : On B'.w0 B'.ok (w.setRow b' c2') (.os e'.n enc (xs.take i ++ (ys.take k ++ xs.drop (i + k)))) (.slice (some ⟨b', o', none⟩) xs.length cap') F1 by
        have hfb : FitsB B' β F Γ (setH H l (.val (.os e'.n enc (xs.take i ++ (ys.take k ++ xs.drop (i + k)))))) a (w.setRow b' c2') := ⟨hf.kp.trans hkk hM, hf.ok, fun b hb => by have := hf.own b hb; exact ⟨by simpa using this.1, this.2⟩, hset _ _ (fun b'' hb hn hlt => setRow_other w b' b'' c2' (fun e => hn (e ▸ hFb))) ⟨_, hv, hres⟩, hf.env, hf.size, hf.defers, hf.pre⟩
        refine ⟨.int .i64 k, w.setRow b' c2', β, F, ?_, rfl, fun _ _ h => h, fun l x b hl hx _ => ?_, hfb.put hlt (.ro (.v _)), kp_setRow w b' c2' _ hhd⟩
        · have hmin : Nat.min ys.length m = k := hk.symm
          simp only [execOp, resolve, invoke, builtin, Sem.run_bind, Sem.run_pure, Result.andThen_ok]
          simp [hxv, hyv, Builtin.copy_, Builtin.lenOf, run_underlying hdd, hsz, hmin, hfirst, hst, goInt]
        · rw [List.getElem?_eq_none (by omega)] at hx; cases hx
      have := On.flat (w0 := B'.w0) (ok := B'.ok) (enc := enc) (n := e'.n) (xs := xs.take i ++ (ys.take k ++ xs.drop (i + k))) (off := o') (cap := cap') (c := c2') (F := F1) hFb hrow (by rw [hxl]; exact hlen) (by rw [hc2s]; exact hcap) (fun p u hu => ?_) (fun p j u A hu hA => ?_)
      · rw [hxl] at this; exact this
      · rcases hget p u hu with h | h | h
        · exact hnn p u h.2
        · exact hyn u (List.mem_of_getElem? h.2.2)
        · exact hnn p u h.2
      · have hj : j < e'.n := by
          have := (List.getElem?_eq_some_iff.1 hA).1
          rcases hget p u hu with h | h | h
          · rw [hnn p u h.2] at this; exact this
          · rw [hyn u (List.mem_of_getElem? h.2.2)] at this; exact this
          · rw [hnn p u h.2] at this; exact this
        rw [← hc2, getD_splice _ _ _ hie, hnk]
        rcases hget p u hu with h | h | h
        · rw [if_neg]
          · exact hr p j u A h.2 hA
          · have : (p + 1) * e'.n ≤ i * e'.n := Nat.mul_le_mul_right _ (by omega)
            rw [Nat.succ_mul] at this; omega
        · obtain ⟨h4, h5, h6'⟩ := h
          have h6 : i * e'.n ≤ p * e'.n := Nat.mul_le_mul_right _ h4
          have h7 : (p + 1) * e'.n ≤ (i + k) * e'.n := Nat.mul_le_mul_right _ h5
          rw [Nat.succ_mul, Nat.add_mul] at h7
          rw [if_pos (by omega)]
          have e4 : o' + p * e'.n + j - (o' + i * e'.n) = (p - i) * e'.n + j := by rw [Nat.sub_mul]; omega
          have e5 : vs.getD ((p - i) * e'.n + j) undef = news.getD ((p - i) * e'.n + j) undef := by
            rw [← hvs, List.getD_eq_getElem?_getD, List.getD_eq_getElem?_getD, List.getElem?_take, if_pos]
            rw [Nat.sub_mul]; omega
          rw [e4, e5]
          exact hnr (p - i) j u A h6' hA
        · rw [if_neg]
          · exact hr p j u A h.2 hA
          · have : (i + k) * e'.n ≤ p * e'.n := Nat.mul_le_mul_right _ h.1
            rw [Nat.add_mul] at this; omega
end
end Go.Taq
