/- The mathematics, part ND: what is near, which shelves disturb each other, dropping (rules). -/
import Derived.Test.YtpcdibgbijddlaaNC
set_option linter.unusedVariables false
set_option linter.unusedSimpArgs false
namespace Go.Taq
open Go

def nearB (f : ApiFloor) (a b : Int) : Bool := isC f b && ([0, 1, 2, 3] : List Int).any fun d => nbr f a d == b
theorem S_floor_Near {f : ApiFloor} (h : RF f) {a b : Int} {post : Bool → Prop} (hp : post (nearB f a b)) : V_floor_Near f a b post := by
  unfold V_floor_Near
  refine S_floor_is h (Ite.mk (fun hb => ?_) (fun hb => ?_))
  · simp only [Bool.not_eq_true'] at hb
    unfold nearB at hp; rw [hb] at hp; exact hp
  · simp only [Bool.not_eq_false'] at hb
    unfold nearB at hp; rw [hb] at hp
    exact V_anyc (xs := [0, 1, 2, 3]) (by simp [maxLen]) (fun d => nbr f a d == b) (T := fun x q => V_floor_beside f a x (fun r => q (r == b))) (fun x _ q hq => S_floor_beside h hq) hp
/-- the cells beside a cell -/
def besL (f : ApiFloor) (c : Int) : List Int := ([0, 1, 2, 3] : List Int).map (nbr f c) |>.filter fun x => !decide (x < 0)
theorem mem_besL {f : ApiFloor} (h : RF f) {c x : Int} : x ∈ besL f c ↔ nearB f c x = true := by
  unfold besL nearB
  rw [List.mem_filter, List.mem_map, Bool.and_eq_true, List.any_eq_true]
  constructor
  · rintro ⟨⟨d, hd, e⟩, h2⟩
    refine ⟨?_, d, hd, by simpa using e⟩
    rcases nbr_ok h c d with h3 | h3
    · rw [e] at h3; subst h3; simp at h2
    · rw [e] at h3; exact h3
  · rintro ⟨hx, d, hd, e⟩
    refine ⟨⟨d, hd, by simpa using e⟩, ?_⟩
    rw [isC_iff] at hx; simp; omega
section
variable {s : ApiSite} {st : ApiState}
theorem S_rules_beside (hf : RF s.Floor) {c : Int} (hc : isC s.Floor c = true) {post : List Int → Prop} (hp : post (besL s.Floor c)) : V_rules_beside s c post := by
  unfold V_rules_beside
  refine S_floor_At hf hc ?_
  have hb := p_bd hf hc
  have w := hf.W4; have hh := hf.H4; have hd := hf.D4
  dsimp only
  rw [w64_eq (x := pX s.Floor c + 1) (by omega) (by omega), w64_eq (x := pY s.Floor c + 1) (by omega) (by omega), w64_eq (x := pX s.Floor c - 1) (by omega) (by omega), w64_eq (x := pY s.Floor c - 1) (by omega) (by omega)]
  refine S_floor_Cell hf (S_floor_Cell hf (S_floor_Cell hf (S_floor_Cell hf ?_)))
  have n0 : cellF s.Floor (pX s.Floor c + 1) (pY s.Floor c) (pZ s.Floor c) = nbr s.Floor c 0 := by simp [nbr, hc]
  have n1 : cellF s.Floor (pX s.Floor c) (pY s.Floor c + 1) (pZ s.Floor c) = nbr s.Floor c 1 := by simp [nbr, hc]
  have n2 : cellF s.Floor (pX s.Floor c - 1) (pY s.Floor c) (pZ s.Floor c) = nbr s.Floor c 2 := by simp [nbr, hc]
  have n3 : cellF s.Floor (pX s.Floor c) (pY s.Floor c - 1) (pZ s.Floor c) = nbr s.Floor c 3 := by simp [nbr, hc]
  rw [n0, n1, n2, n3]
  unfold V_slices_DeleteFunc_int_int__o0_rules_beside_1 V_slices_IndexFunc_int_int__rules_beside_1
  have hm : ([nbr s.Floor c 0, nbr s.Floor c 1, nbr s.Floor c 2, nbr s.Floor c 3] : List Int).length ≤ maxLen := by simp [maxLen]
  refine V_fidxc hm (fun x => decide (x < 0)) (T := fun x q => V_rules_beside_1 x q) (fun x _ q hq => by unfold V_rules_beside_1; exact hq) ?_
  exact V_delrest hm 0 (fun x => decide (x < 0)) (T := fun x q => V_rules_beside_1 x q) (fun x _ q hq => by unfold V_rules_beside_1; exact hq) hp

/-- two shelves disturb each other -/
def badP (s : ApiSite) (st : ApiState) (a b : Nat) : Bool := nearB s.Floor (st.Shelves.getD a 0) (st.Shelves.getD b 0) && nev s (clsS s a) (clsS s b) && !carB st a && !carB st b
/-- the least one behind a shelf that it disturbs -/
def partner (s : ApiSite) (st : ApiState) (a : Nat) : Int := fnat (fun b => decide (a < b) && badP s st a b) st.Shelves.length
def apartS (s : ApiSite) (st : ApiState) : Int × Int × Bool :=
  let a := fnat (fun a => decide (0 ≤ partner s st a)) st.Shelves.length
  if a < 0 then (0, 0, false) else (a, partner s st a.toNat, true)
theorem nev_nosh {a b : ByteArray} (h : nev s a b = true) : nosh a = false ∧ nosh b = false := by
  unfold nev apB at h
  cases h1 : nosh a <;> cases h2 : nosh b <;> simp [h1, h2] at h ⊢

/-- the least of some places, looked at one after the other -/
theorem fnat_min {p q : Nat → Bool} {n : Nat} (h : ∀ i, i < n → p i = q i) : fnat p n = fnat q n := by
  rcases fnat_cases p n with ⟨i, hi, e, hp, hb⟩ | ⟨e, hb⟩
  · rw [e]; exact (fnat_some hi (by rw [← h i hi]; exact hp) (fun j hj => by rw [← h j (by omega)]; exact hb j hj)).symm
  · rw [e]; exact (fnat_none fun i hi => by rw [← h i hi]; exact hb i hi).symm

theorem S_rules_Apart (ks : OkApiSite s) (k : OkApiState st) (hf : RF s.Floor) (hl : st.Shelves.length ≤ 1000000) (hc : ∀ c, c ∈ st.Shelves → isC s.Floor c = true) {post : Int × Int × Bool → Prop} (hp : post (apartS s st)) : V_rules_Apart s st post := by
  unfold V_rules_Apart
  refine S_rules_classes ks (fun nm hnm => ?_)
  -- who stands at each cell
  have okS : ∀ (P : Nat → Bool), True := fun _ => trivial
  refine Jn.mk (fun m : List (Int × List Int) => ∀ c, (lk m c).getD [] = ((List.range st.Shelves.length).filter fun i => (st.Shelves.getD i 0 == c) && !nosh (clsS s i) && !carB st i).map fun (i : Nat) => (i : Int))
    (V_loopc k.Shelves.1 (fun t : List (Int × List Int) × Int => t.2) (fun n (t : List (Int × List Int) × Int) => ∀ c, (lk t.1 c).getD [] = ((List.range n).filter fun i => (st.Shelves.getD i 0 == c) && !nosh (clsS s i) && !carB st i).map fun (i : Nat) => (i : Int)) rfl (fun c => rfl) (fun n x t hx ht hI => ?_) (fun t h => h)) (fun m hm => ?_)
  · have hn := (List.getElem?_eq_some_iff.1 hx).1
    have hxg : st.Shelves.getD n 0 = x := by rw [List.getD_eq_getElem?_getD, hx]; rfl
    have hlen : ∀ c, ((lk t.1 c).getD []).length ≤ n := fun c => by rw [hI c, List.length_map]; exact Nat.le_trans (List.length_filter_le ..) (by simp)
    have step : ∀ c, ((List.range (n + 1)).filter fun i => (st.Shelves.getD i 0 == c) && !nosh (clsS s i) && !carB st i).map (fun (i : Nat) => (i : Int)) = (lk t.1 c).getD [] ++ if ((x == c) && !nosh (clsS s n) && !carB st n) = true then [(n : Int)] else [] := fun c => by
      rw [List.range_succ, List.filter_append, List.map_append, ← hI c]
      congr 1
      rw [← hxg]
      rw [List.filter_cons, List.filter_nil]
      cases hq : ((st.Shelves.getD n 0 == c) && !nosh (clsS s n) && !carB st n) <;> rfl
    rw [ht]
    refine Jn.mk (fun b => b = (!nosh (clsS s n) && !carB st n)) (S_rules_Class (Ite.mk (fun h => by rw [show nosh (clsS s n) = true from h]; rfl) (fun h => S_rules_Carried k (by rw [show nosh (clsS s n) = false from h]; unfold carB; by_cases h0 : 0 ≤ carr st n <;> simp [h0] <;> omega)))) (fun b hb => Jn.mk (fun m => ∀ c, (lk m c).getD [] = ((List.range (n + 1)).filter fun i => (st.Shelves.getD i 0 == c) && !nosh (clsS s i) && !carB st i).map fun (i : Nat) => (i : Int)) ?_ (fun m h => ⟨rfl, h⟩))
    refine Ite.mk (fun h => Jn.mk' ⟨fun y hy => ?_, fun hy => ?_⟩) (fun h c => ?_)
    · have hyl : y.length ≤ n := by have := hlen x; rw [hy] at this; exact this
      refine ⟨by simp; omega, fun c => ?_⟩
      rw [step, lk_upd]
      by_cases e : x = c
      · subst e; rw [if_pos rfl, hy]; rw [hb] at h; rw [if_pos (by simp only [Bool.and_eq_true] at h ⊢; exact ⟨⟨by simp, h.1⟩, h.2⟩)]; rfl
      · rw [if_neg e, if_neg (by simp [e])]; simp
    · refine ⟨by simp, fun c => ?_⟩
      rw [step, lk_upd, lk_upd]
      by_cases e : x = c
      · subst e; rw [if_pos rfl, hy]; rw [hb] at h; rw [if_pos (by simp only [Bool.and_eq_true] at h ⊢; exact ⟨⟨by simp, h.1⟩, h.2⟩)]; rfl
      · rw [if_neg e, if_neg e, if_neg (by simp [e])]; simp
    · rw [step, if_neg (by rw [hb] at h; intro h'; simp only [Bool.and_eq_true] at h'; rw [Bool.and_eq_false_iff] at h; rcases h with h | h <;> simp_all)]; simp
  -- the search
  refine Jn.mk (fun _ => ∀ a : Nat, a < st.Shelves.length → partner s st a = -1) (V_loopj (xs := st.Shelves) k.Shelves.1 (fun t => t) (fun n _ => ∀ a : Nat, a < n → partner s st a = -1) rfl (fun a h => by omega) (fun n x t hx ht hI => ?_) (fun t h => h)) (fun _ h => ?_)
  · have hn := (List.getElem?_eq_some_iff.1 hx).1
    have hxg : st.Shelves.getD n 0 = x := by rw [List.getD_eq_getElem?_getD, hx]; rfl
    rw [ht]
    refine Jn.mk (fun _ => partner s st n = -1) ⟨x, idx_of rfl hx, ?_⟩ (fun _ h => ⟨rfl, fun a ha => ?_⟩)
    · refine Jn.mk (fun b => b = (nosh (clsS s n) || carB st n)) (S_rules_Class (Ite.mk (fun h => by rw [show nosh (clsS s n) = true from h]; rfl) (fun h => S_rules_Carried k (by rw [show nosh (clsS s n) = false from h]; unfold carB; simp)))) (fun b hb => Ite.mk (fun h => ?_) (fun h => ?_))
      · refine fnat_none fun i hi => ?_
        rw [hb] at h
        cases hnv : nev s (clsS s n) (clsS s i) with
        | false => unfold badP; rw [hnv]; simp
        | true =>
          have := nev_nosh hnv
          rw [this.1] at h
          unfold badP; simp at h; simp [h]
      · rw [hb, Bool.or_eq_false_iff] at h
        have hxc := hc x (List.mem_of_getElem? hx)
        refine S_rules_beside hf hxc ?_
        -- the least one so far: among the cells beside that were looked at
        have hbm := fun y => mem_besL hf (c := x) (x := y)
        have hbl : (besL s.Floor x).length ≤ 4 := Nat.le_trans (List.length_filter_le ..) (by simp)
        refine Jn.mk (fun best => best = partner s st n)
          (V_loopj (xs := besL s.Floor x) (by unfold maxLen; omega) (fun t : Int × Int => t.2) (fun j (t : Int × Int) => t.1 = fnat (fun b => decide (n < b) && badP s st n b && ((besL s.Floor x).take j).contains (st.Shelves.getD b 0)) st.Shelves.length) rfl (by symm; exact fnat_none fun i hi => by simp) (fun j y t' hy ht' hJ => ?_) (fun t' h' => ?_)) (fun best hbest => ?_)
        · refine Jn.mk (fun r => r = fnat (fun b => decide (n < b) && badP s st n b && ((besL s.Floor x).take (j + 1)).contains (st.Shelves.getD b 0)) st.Shelves.length) ⟨y, by rw [ht']; exact idx_of rfl hy, ?_⟩ (fun r hr => ⟨by rw [ht'], hr⟩)
          have hat := hm y
          generalize hL : (lk m y).getD [] = L at hat
          have hLlen : L.length ≤ st.Shelves.length := by rw [hat, List.length_map]; exact Nat.le_trans (List.length_filter_le ..) (by simp)
          have hLm : ∀ z, z ∈ L ↔ ∃ i : Nat, i < st.Shelves.length ∧ z = (i : Int) ∧ st.Shelves.getD i 0 = y ∧ nosh (clsS s i) = false ∧ carB st i = false := fun z => by
            rw [hat, List.mem_map]
            constructor
            · rintro ⟨i, hi, rfl⟩
              rw [List.mem_filter] at hi
              simp at hi
              exact ⟨i, hi.1, rfl, hi.2.1.1, hi.2.1.2, hi.2.2⟩
            · rintro ⟨i, h1, rfl, h2, h3, h4⟩
              exact ⟨i, List.mem_filter.2 ⟨by simpa using h1, by rw [h2, h3, h4]; simp⟩, rfl⟩
          refine Jn.mk (fun r => r = fnat (fun b => decide (n < b) && badP s st n b && ((besL s.Floor x).take (j + 1)).contains (st.Shelves.getD b 0)) st.Shelves.length)
            (V_loopc (xs := L) (by unfold maxLen; omega) (fun t : Int × Int => t.2) (fun q (t : Int × Int) => t.1 = fnat (fun b => decide (n < b) && badP s st n b && (((besL s.Floor x).take j).contains (st.Shelves.getD b 0) || (L.take q).contains (b : Int))) st.Shelves.length) rfl (by simp [hJ]) (fun q z t'' hz ht'' hQ => ?_) (fun t'' h'' => ?_)) (fun r hr => hr)
          · obtain ⟨i, hi, rfl, hiy, hin, hic⟩ := (hLm z).1 (List.mem_of_getElem? hz)
            have hbad : badP s st n i = nev s (clsS s n) (clsS s i) := by
              unfold badP
              have hnr : nearB s.Floor (st.Shelves.getD n 0) (st.Shelves.getD i 0) = true := by
                rw [hxg, hiy, ← hbm]; exact List.mem_of_getElem? hy
              rw [hnr, h.2, hic]; simp
            have hstep : fnat (fun b => decide (n < b) && badP s st n b && (((besL s.Floor x).take j).contains (st.Shelves.getD b 0) || (L.take (q + 1)).contains (b : Int))) st.Shelves.length = if (decide (n < i) && badP s st n i) = true ∧ (t''.1 < 0 ∨ (i : Int) < t''.1) then (i : Int) else t''.1 := by
              rw [hQ]
              rcases fnat_cases (fun b => decide (n < b) && badP s st n b && (((besL s.Floor x).take j).contains (st.Shelves.getD b 0) || (L.take q).contains (b : Int))) st.Shelves.length with ⟨w, hw, e, hpw, hbw⟩ | ⟨e, hbw⟩
              · rw [e]
                by_cases hh : (decide (n < i) && badP s st n i) = true ∧ ((w : Int) < 0 ∨ (i : Int) < w)
                · rw [if_pos hh]
                  refine fnat_some hi (by rw [hh.1, take_succ hz]; simp) (fun b hb' => ?_)
                  have := hbw b (by omega)
                  rw [take_succ hz]
                  have hne : ((b : Int) == (i : Int)) = false := by simp; omega
                  simp only [List.contains_append, List.contains_cons, hne, List.contains_nil, Bool.or_false]
                  exact this
                · rw [if_neg hh]
                  refine fnat_some hw ?_ (fun b hb' => ?_)
                  · rw [take_succ hz]
                    simp only [List.contains_append] 
                    simp only [Bool.and_eq_true, Bool.or_eq_true] at hpw ⊢
                    exact ⟨hpw.1, hpw.2.imp id .inl⟩
                  · have hb'' := hbw b hb'
                    rw [take_succ hz]
                    by_cases e2 : b = i
                    · subst e2
                      have hz' : (decide (n < b) && badP s st n b) = false := by
                        rw [Bool.eq_false_iff]; intro h2; exact hh ⟨h2, .inr (by omega)⟩
                      simp only [hz', Bool.false_and]
                    · have hne : ((b : Int) == (i : Int)) = false := by simp; omega
                      simp only [List.contains_append, List.contains_cons, hne, List.contains_nil, Bool.or_false]
                      exact hb''
              · rw [e]
                by_cases hh : (decide (n < i) && badP s st n i) = true
                · rw [if_pos ⟨hh, .inl (by omega)⟩]
                  refine fnat_some hi (by rw [hh, take_succ hz]; simp) (fun b hb' => ?_)
                  have := hbw b (by omega)
                  rw [take_succ hz]
                  have hne : ((b : Int) == (i : Int)) = false := by simp; omega
                  simp only [List.contains_append, List.contains_cons, hne, List.contains_nil, Bool.or_false]
                  exact this
                · rw [if_neg (fun h2 => hh h2.1)]
                  refine fnat_none fun b hb' => ?_
                  have hb'' := hbw b hb'
                  rw [take_succ hz]
                  by_cases e2 : b = i
                  · subst e2
                    have hz' : (decide (n < b) && badP s st n b) = false := Bool.eq_false_iff.2 hh
                    simp only [hz', Bool.false_and]
                  · have hne : ((b : Int) == (i : Int)) = false := by simp; omega
                    simp only [List.contains_append, List.contains_cons, hne, List.contains_nil, Bool.or_false]
                    exact hb''
            have hnvv : (lk nm ⟨clsS s n, clsS s i⟩).getD false = badP s st n i := by rw [nev_lk hnm h.1 hin, hbad]
            refine Jn.mk (fun b => b = true ↔ (decide (n < i) && badP s st n i) = true ∧ (t''.1 < 0 ∨ (i : Int) < t''.1)) (Ite.mk (fun h1 => Ite.mk (fun h2 => ?_) (fun h2 => Ite.mk (fun h3 => ?_) (fun h3 => ?_))) (fun h1 => ?_)) (fun b hb => Jn.mk (fun r => r = fnat (fun b => decide (n < b) && badP s st n b && (((besL s.Floor x).take j).contains (st.Shelves.getD b 0) || (L.take (q + 1)).contains (b : Int))) st.Shelves.length) ?_ (fun r hr => ⟨by rw [ht''], hr⟩))
            · simp at h1 h2
              refine S_rules_Class (S_rules_Class ?_)
              rw [hnvv]; simp [h1, h2]
            · simp at h1 h2 h3
              refine S_rules_Class (S_rules_Class ?_)
              rw [hnvv]; simp [h1, h3]
            · simp at h1 h2 h3
              simp; intro _ _; omega
            · simp at h1
              simp; intro h4; omega
            · rw [hstep]
              refine Ite.mk (fun h1 => by rw [if_pos (hb.1 h1)]) (fun h1 => by rw [if_neg (fun h2 => by rw [hb.2 h2] at h1; cases h1)])
          · rw [h'']
            refine fnat_min fun b hb' => ?_
            rw [List.take_length, take_succ hy]
            cases hbd : badP s st n b with
            | false => simp
            | true =>
              have hbn : nosh (clsS s b) = false ∧ carB st b = false := by
                unfold badP at hbd
                simp only [Bool.and_eq_true, Bool.not_eq_true'] at hbd
                exact ⟨(nev_nosh hbd.1.1.2).2, hbd.2⟩
              have : L.contains (b : Int) = (st.Shelves.getD b 0 == y) := by
                rw [Bool.eq_iff_iff, List.contains_iff_mem, hLm, beq_iff_eq]
                constructor
                · rintro ⟨i, h1, h2, h3, _⟩
                  have : b = i := by omega
                  rw [this]; exact h3
                · intro h1; exact ⟨b, hb', rfl, h1, hbn⟩
              rw [this]
              simp only [List.contains_append, List.contains_cons, List.contains_nil, Bool.or_false]
        · rw [h', List.take_length]
          refine fnat_min fun b hb' => ?_
          cases hbd : badP s st n b with
          | false => simp
          | true =>
            have : (besL s.Floor x).contains (st.Shelves.getD b 0) = true := by
              rw [List.contains_iff_mem, hbm, ← hxg]
              unfold badP at hbd
              simp only [Bool.and_eq_true] at hbd
              exact hbd.1.1.1
            rw [this]; simp
        · rw [hbest]
          refine Ite.mk (fun h1 => ?_) (fun h1 => ?_)
          · have : apartS s st = ((n : Int), partner s st n, true) := by
              have hfn : fnat (fun a => decide (0 ≤ partner s st a)) st.Shelves.length = n := fnat_some hn (by simpa using h1) (fun a ha => by simp [hI a ha])
              unfold apartS
              simp only [hfn]
              rw [if_neg (by omega)]; rfl
            rw [this] at hp; exact hp
          · simp at h1
            rcases fnat_cases (fun b => decide (n < b) && badP s st n b) st.Shelves.length with ⟨w, hw, e, _⟩ | ⟨e, _⟩
            · unfold partner at h1; rw [e] at h1; omega
            · exact e
    · by_cases e : a = n
      · subst e; exact h
      · exact hI a (by omega)
  · have : apartS s st = (0, 0, false) := by
      have hfn : fnat (fun a => decide (0 ≤ partner s st a)) st.Shelves.length = -1 := fnat_none fun i hi => by simp [h i hi]
      unfold apartS; simp only [hfn]; rfl
    rw [this] at hp; exact hp
end
end Go.Taq
