/- The library of the generated walks, part ZI: slices.Insert into an owned slice of flat elements: from what a walk of its text shows of cells to a contract. -/
import Derived.Test.YtbkpekodmhkbdaaGreatLibZA
import Derived.Deep.AppendSrc
import Derived.Lib.AppendZerosOnto
import Derived.Lib.Overlaps
set_option linter.unusedVariables false
set_option linter.unusedSimpArgs false
namespace Go.Taq
open Go

section
variable {P : Program}
/-- what a walk shows of slices.Insert: a row, another row, and where; the row behind it -/
def InsRaw (P : Program) (f : FuncId) (K : Nat) : Prop :=
  ∀ (w : World) (b off n c i vb voff m vc : Nat) (cb cv : Array Value) (Tb Tv : TypeId), w.heap[b]? = some (.cells cb Tb (0, 0)) → w.heap[vb]? = some (.cells cv Tv (0, 0)) → vb ≠ b → i < n → n ≤ c → 0 < m → m ≤ vc → off + c * K ≤ cb.size → voff + vc * K ≤ cv.size → n + m ≤ 1099511627776 →
    (∀ q, q < n * K → (cb.getD (off + q) undef).oneCell' = true) → (∀ q, q < m * K → (cv.getD (voff + q) undef).oneCell' = true) →
    Calls P f #[.slice (some ⟨b, off, none⟩) n c, .int .i64 i, .slice (some ⟨vb, voff, none⟩) m vc] w fun e w' =>
      ∃ b' off' c' cb' T', e = .returned (.slice (some ⟨b', off', none⟩) (n + m) c') ∧ n + m ≤ c' ∧ w'.heap[b']? = some (.cells cb' T' (0, 0)) ∧ off' + c' * K ≤ cb'.size ∧ (b' = b ∨ w.heap.size ≤ b' ∧ b' < w'.heap.size) ∧ Kp w (fun x => x = b) w' ∧
        ∀ q, q < (n + m) * K → cb'.getD (off' + q) undef = if q < i * K then cb.getD (off + q) undef else if q < (i + m) * K then cv.getD (voff + (q - i * K)) undef else cb.getD (off + (q - m * K)) undef
theorem alloc_size (w : World) (x : Obj) : (w.alloc x).heap.size = w.heap.size + 1 := Array.size_push ..
theorem Tr.insert {f : FuncId} {K : Nat} (hraw : InsRaw P f K) {α : Type} {enc : α → List AVal} (hflat : ∀ x, (enc x).all plain1 = true) (xs ys : List α) (i : Nat) (hi : i < xs.length) (hy : 0 < ys.length) (hsz : xs.length + ys.length ≤ 1099511627776) {post : List α → Prop} (hp : post (xs.take i ++ (ys ++ xs.drop i))) :
    Tr P f [.o 0, .v (.int .i64 (i : Int)), .o 1] [(0, .val (.os K enc xs)), (1, .val (.os K enc ys))] 2 (fun A H' k' => ∃ zs, post zs ∧ A = .o 2 ∧ H' = [(2, .val (.os K enc zs))] ∧ k' = 3) := by
  intro w ok F β vs hβ hok hF hH hd
  have hfro : ∀ x A, A ∈ enc x → A.isRo = true := fun x A h => plain1_ro (List.all_eq_true.1 (hflat x) A h)
  obtain ⟨F1, F2, hF1, hF2, h12, ⟨v0, hv0, hon0⟩, F3, F4, hF3, _, _, ⟨v1, hv1, hon1⟩, _⟩ := hH
  have hvs : vs = #[v0, .int .i64 (i : Int), v1] := by
    have h0 := (hd.2 0 _ rfl).o_inv
    have h1 := (hd.2 1 _ rfl).v_inv
    have h2 := (hd.2 2 _ rfl).o_inv
    rw [hv0] at h0; rw [hv1] at h2
    have hs := hd.1
    apply Array.ext
    · simpa using hs.symm
    · intro j hj1 hj2
      have hj : j = 0 ∨ j = 1 ∨ j = 2 := by simp at hj2; omega
      rcases hj with rfl | rfl | rfl
      · have := Option.some.inj h0; simp [Array.getD_eq_getD_getElem?, Array.getElem?_eq_getElem hj1] at this; simp [this]
      · simp [Array.getD_eq_getD_getElem?, Array.getElem?_eq_getElem hj1] at h1; simp [h1]
      · have := Option.some.inj h2; simp [Array.getD_eq_getD_getElem?, Array.getElem?_eq_getElem hj1] at this; simp [this]
  subst hvs
  have hf0 := hon0.flat_of hfro
  have hf1 := hon1.flat_of hfro
  cases hf0 with
  | nil p h => subst h; simp at hi
  | row b off c cb Tb hb hwb hlen hcap hn hr =>
  cases hf1 with
  | nil p h => subst h; simp at hy
  | row vb voff vc cv Tv hvb hwv hvlen hvcap hvn hvr =>
    have hbF : F b := hF1 b hb
    have hne : vb ≠ b := fun e => h12 b hb (e ▸ hF3 vb hvb)
    have hKx : ∀ (j : Nat) (x : α), xs[j]? = some x → (enc x).length = K := hn
    have ones : ∀ {zs : List α} {c0 : Array Value} {o : Nat}, (∀ (j : Nat) (x : α), zs[j]? = some x → (enc x).length = K) → (∀ (i j : Nat) (x : α) (A : AVal), zs[i]? = some x → (enc x)[j]? = some A → Ro w ok A (c0.getD (o + i * K + j) undef)) → ∀ q, q < zs.length * K → (c0.getD (o + q) undef).oneCell' = true := fun {zs c0 o} hzn hzr q hq => by
      obtain ⟨m1, m2, m3, m4⟩ := div_mod_lt hq
      have hx := List.getElem?_eq_getElem m2
      have hA := List.getElem?_eq_getElem (show q % K < (enc zs[q / K]).length by rw [hzn _ _ hx]; exact m3)
      have h1 := hzr _ _ _ _ hx hA
      have e : o + q / K * K + q % K = o + q := by rw [Nat.add_assoc, Nat.div_add_mod']
      rw [e] at h1
      exact (Dn.ro (β := []) h1).one (plain1_one (List.all_eq_true.1 (hflat _) _ (List.getElem_mem _)))
    refine (hraw w b off xs.length c i vb voff ys.length vc cb cv Tb Tv hwb hwv hne hi hlen hy hvlen hcap hvcap hsz (ones hn hr) (ones hvn hvr)).mono fun e w' => ?_
    rintro ⟨b', off', c', cb', T', he, hc', hw', hcap', hb', hk, hcell⟩
    have hzl : (xs.take i ++ (ys ++ xs.drop i)).length = xs.length + ys.length := by simp; omega
    have hblk : ∀ x, ok x → x < w.heap.size → w'.heap[x]? = w.heap[x]? := fun x hx hlt => hk.block x hlt (fun e => (hok x hx).2 (by have : x = b := e; rw [this]; exact hbF))
    have hget : ∀ p u, (xs.take i ++ (ys ++ xs.drop i))[p]? = some u → (p < i ∧ xs[p]? = some u) ∨ (i ≤ p ∧ p < i + ys.length ∧ ys[p - i]? = some u) ∨ (i + ys.length ≤ p ∧ p < xs.length + ys.length ∧ xs[p - ys.length]? = some u) := fun p u hu => by
      have hpl := (List.getElem?_eq_some_iff.1 hu).1
      rw [hzl] at hpl
      have hti : (xs.take i).length = i := by simp; omega
      rcases Nat.lt_or_ge p i with h | h
      · rw [List.getElem?_append_left (by omega), List.getElem?_take, if_pos h] at hu; exact .inl ⟨h, hu⟩
      · rw [List.getElem?_append_right (by omega), hti] at hu
        rcases Nat.lt_or_ge p (i + ys.length) with h' | h'
        · rw [List.getElem?_append_left (by omega)] at hu
          exact .inr (.inl ⟨h, h', hu⟩)
        · rw [List.getElem?_append_right (by omega), List.getElem?_drop] at hu
          have e3 : i + (p - i - ys.length) = p - ys.length := by omega
          rw [e3] at hu
          exact .inr (.inr ⟨h', hpl, hu⟩)
    have hOn : On w' ok w' (.os K enc (xs.take i ++ (ys ++ xs.drop i))) (.slice (some ⟨b', off', none⟩) (xs.length + ys.length) c') (fun x => x = b') := by
      have := On.flat (w0 := w') (ok := ok) (w := w') (enc := enc) (n := K) (xs := xs.take i ++ (ys ++ xs.drop i)) (b := b') (off := off') (cap := c') (c := cb') (T := T') (F := fun x => x = b') rfl hw' (by rw [hzl]; exact hc') hcap' (fun p u hu => ?_) (fun p j u A hu hA => ?_)
      · rw [hzl] at this; exact this
      · rcases hget p u hu with h | h | h
        · exact hn p u h.2
        · exact hvn _ u h.2.2
        · exact hn _ u h.2.2
      · have hpl : p < xs.length + ys.length := by rw [← hzl]; exact (List.getElem?_eq_some_iff.1 hu).1
        have hj : j < K := by
          have := (List.getElem?_eq_some_iff.1 hA).1
          rcases hget p u hu with h | h | h
          · rw [hn p u h.2] at this; exact this
          · rw [hvn _ u h.2.2] at this; exact this
          · rw [hn _ u h.2.2] at this; exact this
        have hq : p * K + j < (xs.length + ys.length) * K := by
          have : (p + 1) * K ≤ (xs.length + ys.length) * K := Nat.mul_le_mul_right _ hpl
          rw [Nat.succ_mul] at this; omega
        have hc2 := hcell (p * K + j) hq
        have ea : off' + p * K + j = off' + (p * K + j) := by omega
        rw [ea, hc2]
        refine Ro.later (w := w) hblk ?_
        rcases hget p u hu with h | h | h
        · have h1 : (p + 1) * K ≤ i * K := Nat.mul_le_mul_right _ h.1
          rw [Nat.succ_mul] at h1
          rw [if_pos (by omega)]
          have := hr p j u A h.2 hA
          have e2 : off + p * K + j = off + (p * K + j) := by omega
          rw [e2] at this; exact this
        · have h1 : i * K ≤ p * K := Nat.mul_le_mul_right _ h.1
          have h2 : (p + 1) * K ≤ (i + ys.length) * K := Nat.mul_le_mul_right _ h.2.1
          rw [Nat.succ_mul] at h2
          rw [if_neg (by omega), if_pos (by omega)]
          have := hvr (p - i) j u A h.2.2 hA
          have e2 : voff + (p - i) * K + j = voff + (p * K + j - i * K) := by rw [Nat.sub_mul]; omega
          rw [e2] at this; exact this
        · have h1 : (i + ys.length) * K ≤ p * K := Nat.mul_le_mul_right _ h.1
          have h3 : i * K ≤ (i + ys.length) * K := Nat.mul_le_mul_right _ (by omega)
          have h4 : ys.length * K ≤ (i + ys.length) * K := Nat.mul_le_mul_right _ (by omega)
          rw [if_neg (by omega), if_neg (by omega)]
          have := hr (p - ys.length) j u A h.2.2 hA
          have e2 : off + (p - ys.length) * K + j = off + (p * K + j - ys.length * K) := by rw [Nat.sub_mul]; omega
          rw [e2] at this; exact this
    have hsize : w.heap.size ≤ w'.heap.size := hk.size
    have hb2 : (F b' ∨ w.heap.size ≤ b') ∧ b' < w'.heap.size ∧ ¬ ok b' := by
      rcases hb' with e | ⟨e1, e2⟩
      · rw [e]; exact ⟨.inl hbF, Nat.lt_of_lt_of_le (hF b hbF) hsize, fun ho => (hok b ho).2 hbF⟩
      · exact ⟨.inr e1, e2, fun ho => by have := (hok b' ho).1; omega⟩
    refine ⟨_, .o 2, [(2, .val (.os K enc (xs.take i ++ (ys ++ xs.drop i))))], β ++ [.slice (some ⟨b', off', none⟩) (xs.length + ys.length) c'], fun x => x = b', ok, he, ⟨_, hp, rfl, rfl, by simp [hβ]⟩, fun l x h => getElem?_snoc h, fun l x b2 hl hx hh => ?_, hk.mono (fun x hx _ => by have : x = b := hx; rw [this]; exact hbF), fun _ h => h, fun x hx => ⟨.inl hx, Nat.lt_of_lt_of_le (hok x hx).1 hsize⟩, fun x hx => by have : x = b' := hx; rw [this]; exact hb2,
      ⟨fun x => x = b', fun _ => False, fun _ h => h, fun _ h => h.elim, fun _ _ h => h, ⟨_, by rw [← hβ]; simp, hOn⟩, trivial⟩, .o 2 _ (by rw [← hβ]; simp) rfl⟩
    have := new_lab hβ (by omega) hx
    subst this
    cases c' with
    | zero => cases hh
    | succ c' => cases hh; exact hb2.1
end
end Go.Taq
