/- SaleHall: the plain law. -/
import Derived.Test.YtdbaljbhnpchjaaSaleB12
namespace Go.Gh.Sale
set_option linter.unusedVariables false
set_option linter.unusedSimpArgs false

theorem mask_ex (P : Nat → Bool) : ∀ n : Nat, ∃ g : Nat, g < 2 ^ n ∧ ∀ i, g.testBit i = (decide (i < n) && P i)
 | 0 => ⟨0, by decide, fun i => by simp⟩
 | n + 1 => by
  obtain ⟨g, h1, h2⟩ := mask_ex P n
  have e : 2 ^ (n + 1) = 2 ^ n + 2 ^ n := by rw [Nat.pow_succ]; omega
  by_cases h : P n = true
  ·refine ⟨g ||| 2 ^ n, Nat.or_lt_two_pow (by omega) (by omega), fun i => ?_⟩
   rw [Nat.testBit_or, h2, Nat.testBit_two_pow]
   by_cases ei : n = i
   ·subst ei; simp [h]
   ·rw [decide_eq_false ei, Bool.or_false]
    congr 1
    exact decide_eq_decide.2 ⟨fun _ => by omega, fun _ => by omega⟩
  ·refine ⟨g, by omega, fun i => ?_⟩
   rw [h2]
   by_cases ei : n = i
   ·subst ei; simp [h]
   ·congr 1
    exact decide_eq_decide.2 ⟨fun _ => by omega, fun _ => by omega⟩

section
variable {m F : Nat} {s : List (List Int)} {p : List Int}

def okW (m : Nat) (s : List (List Int)) (p t : List Int) : Bool := (List.range s.length).all fun i => decide (owng s p i (fl t i) = mxg m s p i)
theorem okW_iff {t : List Int} : okW m s p t = true ↔ ∀ i, i < s.length → owng s p i (fl t i) = mxg m s p i := by
 unfold okW
 simp only [List.all_eq_true, List.mem_range, decide_eq_true_eq]

def hs (m : Nat) (s : List (List Int)) (p : List Int) : List (List Int) := (List.range s.length).map fun (i : Nat) => (List.range m).map fun (l : Nat) => if mxg m s p i ≠ 0 ∧ gv s p i l = mxg m s p i then (1 : Int) else 0
theorem hs_len : (hs m s p).length = s.length := by simp [hs]
theorem hs_vs (hv : Vs m s) : Vs m (hs m s p) := by
 refine ⟨fun r hr => ?_, by rw [hs_len]; exact hv.n, hv.m5⟩
 obtain ⟨i, _, rfl⟩ := List.mem_map.1 hr
 refine ⟨by simp, fun x hx => ?_⟩
 obtain ⟨l, _, rfl⟩ := List.mem_map.1 hx
 split <;> omega
theorem hs_va {i l : Nat} (hi : i < s.length) (hl : l < m) : va (hs m s p) i l = if mxg m s p i ≠ 0 ∧ gv s p i l = mxg m s p i then 1 else 0 := by
 have e : (hs m s p)[i]? = some ((List.range m).map fun (l : Nat) => if mxg m s p i ≠ 0 ∧ gv s p i l = mxg m s p i then (1 : Int) else 0) := by
  unfold hs
  rw [List.getElem?_map, List.getElem?_range hi]; rfl
 unfold va vl
 rw [if_neg (by omega), Int.toNat_natCast, e, Option.getD_some, List.getElem?_map, List.getElem?_range hl]
 rfl
theorem hs_one {i : Nat} {x : Int} (hi : i < s.length) (hx : -1 ≤ x ∧ x < m) : va (hs m s p) i x = 0 ∨ (va (hs m s p) i x = 1 ∧ mxg m s p i ≠ 0 ∧ owng s p i x = mxg m s p i) := by
 by_cases h0 : x < 0
 ·rw [show x = -1 by omega]; exact .inl rfl
 ·obtain ⟨l, rfl⟩ : ∃ l : Nat, x = l := ⟨x.toNat, by omega⟩
  rw [hs_va hi (by omega)]
  by_cases h : mxg m s p i ≠ 0 ∧ gv s p i l = mxg m s p i
  ·rw [if_pos h]; exact .inr ⟨rfl, h.1, h.2⟩
  ·rw [if_neg h]; exact .inl rfl

theorem hall (hv : Vs m s) : (∃ t, t ∈ ds m (-1) s.length 0 (all_ m) ∧ okW m s p t = true) ↔ ∀ g : Nat, 1 ≤ g → g < 2 ^ s.length → badG m s p g = false := by
 have hm := hv.m5
 have hL := all_lt hm
 have pcm : ∀ g, (((pcN (unG m s p g s.length)) : Nat) : Int) = sm m fun l => if (unG m s p g s.length).testBit l = true then 1 else 0 := fun g => by
  unfold pcN
  rw [cnt_sm]
  have e := sm_more (m := m) (f := fun l => if (unG m s p g s.length).testBit l = true then (1 : Int) else 0) (fun l hl => by
   rw [if_neg]
   intro h
   obtain ⟨i, _, _, h3⟩ := un_bit.1 h
   rw [wb_bit, decide_eq_false (by omega)] at h3
   cases h3) (5 - m)
  rw [show m + (5 - m) = 5 by omega] at e
  exact e
 have mbm : ∀ g, (((mbG s.length g).length : Nat) : Int) = sm s.length fun i => if g.testBit i = true then 1 else 0 := fun g => by
  unfold mbG
  rw [List.length_map, cnt_sm]
 constructor
 ·rintro ⟨t, ht, hok⟩ g hg1 hg2
  cases hb : badG m s p g with
  | false => rfl
  | true =>
   exfalso
   rw [okW_iff] at hok
   have hd := (ds_dv hm hL ht).1
   unfold badG at hb
   simp only [Bool.and_eq_true, Bool.not_eq_true', decide_eq_true_eq] at hb
   obtain ⟨hb1, hb2⟩ := hb
   have hp1 : ∀ l : Nat, l < m → pr (List.replicate m 1) l = 1 := fun l hl => by rw [pr_nat (by simpa using hl)]; simp
   have e := sm_lots (p := List.replicate m 1) (S := fun i => g.testBit i = true) s.length hd
   have e1 : sm s.length (fun i => cif (g.testBit i = true) (pr (List.replicate m 1) (fl t i))) = sm s.length fun i => if g.testBit i = true then 1 else 0 := sm_congr fun i hi => by
    by_cases h : g.testBit i = true
    ·rw [cif_pos h, if_pos h]
     have hr := hd.rg i hi
     have hne : mxg m s p i ≠ 0 := fun e => by
      have := fi_iff.2 ⟨i, hi, h, e⟩
      rw [this] at hb1; cases hb1
     have h0 : 0 ≤ fl t i := by
      by_cases h0 : 0 ≤ fl t i
      ·exact h0
      ·have := hok i hi
       rw [show fl t i = -1 by omega, owng_none] at this
       exact absurd this.symm hne
     obtain ⟨l, hl⟩ : ∃ l : Nat, fl t i = l := ⟨(fl t i).toNat, by omega⟩
     rw [hl, hp1 l (by omega)]
    ·rw [cif_neg h, if_neg h]
   have e2 : sm m (fun l => cif (∃ i, i < s.length ∧ g.testBit i = true ∧ fl t i = (l : Int)) (pr (List.replicate m 1) l)) ≤ sm m fun l => if (unG m s p g s.length).testBit l = true then 1 else 0 := sm_le fun l hl => by
    by_cases hex : ∃ i, i < s.length ∧ g.testBit i = true ∧ fl t i = (l : Int)
    ·rw [cif_pos hex, hp1 l hl, if_pos]
     ·exact Int.le_refl _
     ·obtain ⟨i, hi, h2, h3⟩ := hex
      refine un_bit.2 ⟨i, hi, h2, ?_⟩
      have := hok i hi
      rw [h3] at this
      rw [wb_bit, decide_eq_true hl, Bool.true_and]
      exact decide_eq_true this
    ·rw [cif_neg hex]
     split <;> omega
   have e3 := pcm g
   have e4 := mbm g
   omega
 ·intro hno
  have hv' := hs_vs (p := p) hv
  have hd := best_dv hv'
  have hq := lowP_fair hv'
  rw [hs_len] at hd hq
  by_cases hall : ∀ i, i < s.length → mxg m s p i ≠ 0 → va (hs m s p) i (lot m (hs m s p) i) = 1
  ·have hdv : Dv s.length m (fun i => if mxg m s p i = 0 then -1 else lot m (hs m s p) i) := by
    refine ⟨fun i hi => ?_, fun i j hi hj h1 h2 => ?_⟩
    ·split
     ·omega
     ·exact hd.rg i hi
    ·by_cases ei : mxg m s p i = 0
     ·rw [if_pos ei] at h2; omega
     ·by_cases ej : mxg m s p j = 0
      ·rw [if_neg ei, if_pos ej] at h1; rw [if_neg ei] at h2; omega
      ·rw [if_neg ei, if_neg ej] at h1; rw [if_neg ei] at h2; exact hd.inj i j hi hj h1 h2
   refine ⟨_, dv_ds hm hL hdv (bit_all hv hdv), okW_iff.2 fun i hi => ?_⟩
   rw [fl_map hi]
   by_cases ei : mxg m s p i = 0
   ·rw [if_pos ei, owng_none, ei]
   ·rw [if_neg ei]
    rcases hs_one (p := p) hi (hd.rg i hi) with h | h
    ·have := hall i hi ei; omega
    ·exact h.2.2
  ·exfalso
   obtain ⟨i0, h0⟩ := Classical.not_forall.1 hall
   obtain ⟨hi0, h0⟩ := Classical.not_imp.1 h0
   obtain ⟨hm0, hv0⟩ := Classical.not_imp.1 h0
   have hva0 : va (hs m s p) i0 (lot m (hs m s p) i0) = 0 := by
    rcases hs_one (p := p) hi0 (hd.rg i0 hi0) with h | h
    ·exact h
    ·exact absurd h.1 hv0
   obtain ⟨g, hg1, hg2⟩ := mask_ex (fun i => decide (mxg m s p i ≠ 0 ∧ va (hs m s p) i (lot m (hs m s p) i) - pr (lowP m (hs m s p)) (lot m (hs m s p) i) = 0)) s.length
   have hgi : ∀ i, i < s.length → (g.testBit i = true ↔ mxg m s p i ≠ 0 ∧ va (hs m s p) i (lot m (hs m s p) i) - pr (lowP m (hs m s p)) (lot m (hs m s p) i) = 0) := fun i hi => by
    rw [hg2 i, decide_eq_true hi, Bool.true_and, decide_eq_true_eq]
   have hpr0 : pr (lowP m (hs m s p)) (lot m (hs m s p) i0) = 0 := by
    have h1 := hq.own i0 hi0
    have h2 := pr_nn hq.nn (hd.rg i0 hi0)
    omega
   have hbit0 : g.testBit i0 = true := (hgi i0 hi0).2 ⟨hm0, by omega⟩
   have hg0 : 1 ≤ g := by
    by_cases h : g = 0
    ·rw [h] at hbit0; simp at hbit0
    ·omega
   have hbad : badG m s p g = true := by
    unfold badG
    have hf : fiG m s p g s.length = false := by
     cases hfi : fiG m s p g s.length with
     | false => rfl
     | true =>
      obtain ⟨i, hi, h2, h3⟩ := fi_iff.1 hfi
      exact absurd h3 ((hgi i hi).1 h2).1
    rw [hf]
    have hlt : pcN (unG m s p g s.length) < (mbG s.length g).length := by
     have e3 := pcm g
     have e4 := mbm g
     have e5 : sm m (fun l => if (unG m s p g s.length).testBit l = true then (1 : Int) else 0) ≤ sm m (fun l => pr (lowP m (hs m s p)) l) := sm_le fun l hl => by
      by_cases hb : (unG m s p g s.length).testBit l = true
      ·rw [if_pos hb]
       obtain ⟨i, hi, h2, h3⟩ := un_bit.1 hb
       rw [wb_bit, decide_eq_true hl, Bool.true_and, decide_eq_true_eq] at h3
       obtain ⟨h4, h5⟩ := (hgi i hi).1 h2
       have h6 := hq.best i hi l hl
       rw [hs_va hi hl, if_pos ⟨h4, h3⟩] at h6
       omega
      ·rw [if_neg hb]; exact hq.nn l hl
     have e6 := sm_sold hd hq.free
     have e7 : sm s.length (fun i => pr (lowP m (hs m s p)) (lot m (hs m s p) i)) ≤ sm s.length (fun i => (if g.testBit i = true then (1 : Int) else 0) + (if i = i0 then -1 else 0)) := sm_le fun i hi => by
      have h1 := hq.own i hi
      by_cases e : i = i0
      ·subst e
       rw [if_pos rfl, if_pos hbit0]; omega
      ·rw [if_neg e, Int.add_zero]
       rcases hs_one (p := p) hi (hd.rg i hi) with h | ⟨h, h2, _⟩
       ·split <;> omega
       ·by_cases hp1 : pr (lowP m (hs m s p)) (lot m (hs m s p) i) = 1
        ·rw [if_pos ((hgi i hi).2 ⟨h2, by omega⟩)]; omega
        ·split <;> omega
     rw [sm_add, sm_one hi0] at e7
     omega
    rw [decide_eq_true hlt]; rfl
   rw [hno g hg0 hg1] at hbad
   cases hbad

theorem f12_p1_eq {r w : List Int} (hr : r.length = m) (hm : m ≤ 4) (hw : w.length = 4) (hx : ∀ x : Int, x ∈ w → 0 ≤ x ∧ x ≤ 255) : ∀ (k i : Nat) (acc : List Int), i ≤ m → m < k + i → acc.length = i → (∀ x ∈ acc, 0 ≤ x ∧ x ≤ 99) → ∃ l, f12_p1 F r w s k i acc = some l ∧ l.length = m ∧ ∀ x ∈ l, 0 ≤ x ∧ x ≤ 99 := by
 intro k
 induction k with
 | zero => intro i acc _ h; omega
 | succ k ih =>
  intro i acc h1 h2 h3 h4
  unfold f12_p1
  by_cases hi : i < m
  ·have hx := hx _ (List.getElem_mem (l := w) (n := i) (by omega))
   obtain ⟨t1, t2, t3⟩ := tmod_bd (n := 6) hx (by omega)
   rw [if_pos (by simp; omega), req_pos (by omega), Int.toNat_natCast, Nat.zero_add, Nat.mul_one, List.getElem?_eq_getElem (by omega), Option.bind_some, req_pos (by simp; omega), w64_succ (by omega)]
   refine ih (i + 1) _ (by omega) (by omega) (by simp; omega) (fun x hx => ?_)
   rcases List.mem_append.1 hx with hx | hx
   ·exact h4 x hx
   ·simp at hx
    rw [hx, t1]
    exact ⟨t2, by have : Int.tmod w[i] ((6 : Nat) : Int) < ((6 : Nat) : Int) := t3; have e : ((6 : Nat) : Int) = 6 := rfl; rw [e] at this; omega⟩
  ·rw [if_neg (by simp; omega)]
   exact ⟨acc, rfl, by omega, h4⟩
theorem f12_p10_eq {r : List Int} {w : List (List Int)} {b : Nat} (hv : Vs m s) (hp : Pd m p) (hr : r.length = m) (hb : b < s.length) : ∀ (k j : Nat), j ≤ m → m < k + j → f12_p10 F r b s p w k (mxw (gv s p b) j) j = some (mxg m s p b) := by
 have hm := hv.m5
 have hlen := (hv.ok _ (List.getElem_mem hb)).1
 have hpl := hp.len
 intro k
 induction k with
 | zero => intro j _ h; omega
 | succ k ih =>
  intro j h1 h2
  unfold f12_p10
  by_cases hj : j < m
  ·have hg := gv_bd (i := b) hv hp hj
   have e : s[b][j]'(by omega) - p[j]'(by omega) = gv s p b j := by
    unfold gv
    rw [← va_at hv hb hj (by omega), pr_nat (by omega)]
   rw [if_pos (by simp; omega), at_get hb, Option.bind_some, at_get (by omega), Option.bind_some, take0, at_get (by omega), Option.bind_some, w64_succ (by omega), e, w64_in (n := gv s p b j) (by omega)]
   have := ih (j + 1) (by omega) (by omega)
   rw [mxw] at this
   exact this
  ·rw [if_neg (by simp; omega)]
   obtain rfl : j = m := by omega
   rfl
theorem f12_p14_eq {r : List Int} {w : List (List Int)} {b : Nat} (hv : Vs m s) (hp : Pd m p) (hr : r.length = m) (hb : b < s.length) {b0 : List Int} (hb0 : b0.length ≤ 1) : ∀ (k j : Nat), j ≤ m → m < k + j → f12_p14 F r b (mxg m s p b) s p w k j (b0 ++ ((List.range j).filter fun l => decide (gv s p b l = mxg m s p b)).map (fun (l : Nat) => (l : Int))) = some (b0 ++ ((List.range m).filter fun l => decide (gv s p b l = mxg m s p b)).map (fun (l : Nat) => (l : Int))) := by
 have hm := hv.m5
 have hlen := (hv.ok _ (List.getElem_mem hb)).1
 have hpl := hp.len
 intro k
 induction k with
 | zero => intro j _ h; omega
 | succ k ih =>
  intro j h1 h2
  unfold f12_p14
  by_cases hj : j < m
  ·have hg := gv_bd (i := b) hv hp hj
   have e : s[b][j]'(by omega) - p[j]'(by omega) = gv s p b j := by
    unfold gv
    rw [← va_at hv hb hj (by omega), pr_nat (by omega)]
   have hlf := List.length_filter_le (fun l => decide (gv s p b l = mxg m s p b)) (List.range j)
   rw [List.length_range] at hlf
   have := ih (j + 1) (by omega) (by omega)
   rw [fr_succ] at this
   rw [if_pos (by simp; omega), if_neg (by simp), if_pos (by simp), at_get hb, Option.bind_some, at_get (by omega), Option.bind_some, take0, at_get (by omega), Option.bind_some, w64_succ (by omega)]
   unfold f12_p17_1
   rw [e, w64_in (n := gv s p b j) (by omega)]
   by_cases ht : gv s p b j = mxg m s p b
   ·rw [if_pos (decide_eq_true ht)] at this
    rw [if_pos (by simpa using ht), req_pos (by simp; omega), Option.bind_some, List.append_assoc]
    exact this
   ·rw [if_neg (by simpa using ht), List.append_nil] at this
    rw [if_neg (by simpa using ht), Option.bind_some]
    exact this
  ·rw [if_neg (by simp; omega)]
   obtain rfl : j = m := by omega
   rfl
theorem f12_p14_all {r : List Int} {w : List (List Int)} {b : Nat} (hF : 100 ≤ F) (hv : Vs m s) (hp : Pd m p) (hr : r.length = m) (hb : b < s.length) : f12_p14 F r b (mxg m s p b) s p w F (-1) [] = some (wl m s p b) := by
 have hm := hv.m5
 obtain ⟨F', hF'⟩ : ∃ F', F = F' + 1 := ⟨F - 1, by omega⟩
 have e := fun (b0 : List Int) hb0 => f12_p14_eq (F := F) (w := w) (b0 := b0) hv hp hr hb hb0 F' 0 (by omega) (by omega)
 rw [show ((List.range 0).filter fun l => decide (gv s p b l = mxg m s p b)).map (fun (l : Nat) => (l : Int)) = [] from rfl] at e
 have hq : ∀ q : Nat, q = F' + 1 → f12_p14 F r b (mxg m s p b) s p w q (-1) [] = some (wl m s p b) := fun q hq => by
  rw [hq, f12_p14]
  rw [if_pos (by simp; omega), if_pos (by decide)]
  unfold wl
  by_cases h0 : mxg m s p b = 0
  ·have := e [-1] (by simp)
   rw [List.append_nil] at this
   rw [if_pos (by simpa using h0), req_pos (by simp), show w64 ((-1 : Int) + 1) = ((0 : Nat) : Int) by decide, if_pos h0]
   exact this
  ·have := e [] (by simp)
   rw [List.append_nil] at this
   rw [if_neg (by simpa using h0), if_neg (by decide), show w64 ((-1 : Int) + 1) = ((0 : Nat) : Int) by decide, if_neg h0]
   exact this
 exact hq F hF'
theorem f12_p6_eq {r : List Int} (hF : 100 ≤ F) (hv : Vs m s) (hp : Pd m p) (hr : r.length = m) : ∀ (k j : Nat), j ≤ s.length → s.length < k + j → f12_p6 F r s p (wls m s p) k j = some .c1 := by
 have hn := hv.n
 have hm := hv.m5
 intro k
 induction k with
 | zero => intro j _ h; omega
 | succ k ih =>
  intro j h1 h2
  unfold f12_p6
  by_cases hj : j < s.length
  ·have hwl := (wl_range (m := m) (i := j) (s := s) (p := p)).2
   rw [if_pos (by simp; omega), show f12_p10 F r j s p (wls m s p) F 0 0 = _ from f12_p10_eq hv hp hr hj F 0 (by omega) (by omega), Option.bind_some, f12_p14_all hF hv hp hr hj, Option.bind_some, wls_at hj, Option.bind_some, take0, f23_eq (by omega) (by omega), Option.bind_some, if_pos (by simp), w64_succ (by omega)]
   exact ih (j + 1) (by omega) (by omega)
  ·rw [if_neg (by simp; omega)]

theorem f55_eq (hF : 100 ≤ F) (hv : Vs m s) {t : List Int} (hl : t.length = s.length) (hx : ∀ x ∈ t, -1 ≤ x ∧ x < m) {c : Bool} : f55 F t (wls m s p) c = some (c || okW m s p t) := by
 have hn := hv.n
 have hm := hv.m5
 have loop : ∀ (k j : Nat) (a : Bool), j ≤ t.length → t.length < k + j → f55_p1 F t (wls m s p) c k a j = some (a && ((List.range t.length).drop j).all fun i => decide (owng s p i (fl t i) = mxg m s p i)) := by
  intro k
  induction k with
  | zero => intro j a _ h; omega
  | succ k ih =>
   intro j a h1 h2
   unfold f55_p1
   by_cases hj : j < t.length
   ·have hr := hx _ (List.getElem_mem hj)
    have hd : (List.range t.length).drop j = j :: (List.range t.length).drop (j + 1) := by rw [List.drop_eq_getElem_cons (by simpa using hj)]; simp
    rw [if_pos (by simp; omega), at_get hj, Option.bind_some, w64_succ (by omega), hd, List.all_cons]
    cases a with
    | true =>
     have hwl := (wl_range (m := m) (i := j) (s := s) (p := p)).2
     rw [if_pos rfl, wls_at (by omega), Option.bind_some, f53_eq (by omega) hF, Option.bind_some, ih (j + 1) _ (by omega) (by omega), Bool.true_and]
     congr 2
     rw [fl_get hj]
     exact decide_eq_decide.2 (mem_wl hr)
    | false =>
     rw [if_neg (by decide), ih (j + 1) _ (by omega) (by omega), Bool.false_and, Bool.false_and]
   ·rw [if_neg (by simp; omega), List.drop_eq_nil_of_le (by simp; omega), List.all_nil, Bool.and_true]
 have e := loop F 0 true (by omega) (by omega)
 rw [List.drop_zero, Bool.true_and] at e
 unfold f55
 rw [show f55_p1 F t (wls m s p) c F true 0 = _ from e, Option.bind_some]
 unfold okW
 rw [hl]
 cases c with
 | true => rw [if_pos rfl, Bool.true_or]
 | false => rw [if_neg (by decide), Bool.false_or]
theorem any_flat {α : Type} {P : List Int → Bool} {G : α → List (List Int)} : ∀ (xs : List α) (c : Bool), (c || (xs.flatMap G).any P) = xs.foldl (fun c x => c || (G x).any P) c
 | [], c => by simp
 | x :: xs, c => by rw [List.flatMap_cons, List.any_append, List.foldl_cons, ← any_flat xs, Bool.or_assoc]
theorem f97_5_p2_eq (hF : 100 ≤ F) (hm : m ≤ 5) {L : Nat} {l : List Int} {w : List (List Int)} {B : Int} (hl : l.length ≤ 20) (ha : Avail m L l) {rec : List Int → List (List Int) → Bool → Int → Int → Option Bool} {G : Bool → Int → Bool}
  (hrec : ∀ x c, x ∈ cand m L true → rec (l ++ [x]) w c B m = some (G c x)) : ∀ (k j : Nat) (c : Bool), m < k + j → j ≤ m → f97_5_p2 F rec l w B m k j c = some ((lotsF m L true j).foldl G c) := by
 intro k
 induction k with
 | zero => intro j c h _; omega
 | succ k ih =>
  intro j c h1 h2
  unfold f97_5_p2
  by_cases hj : j < m
  ·rw [if_pos (by simp; omega), if_neg (by simp), f53_eq (by omega) hF, Option.bind_some, lotsF_step hj, ha.2 j hj, w64_succ (by omega)]
   unfold f97_5_p5
   by_cases hc : (j : Int) ∈ l
   ·rw [decide_eq_true hc, if_pos rfl, Option.bind_some]
    simp only [Bool.not_true, Bool.and_false, Bool.false_eq_true, if_false]
    exact ih (j + 1) c (by omega) (by omega)
   ·have hmem : (j : Int) ∈ cand m L true := mem_cand_of ⟨by omega, by omega⟩ fun _ => by
     rw [Int.toNat_natCast, ha.2 j hj, decide_eq_false hc]; rfl
    rw [decide_eq_false hc, if_neg (by decide), f95_eq, Option.bind_some, req_pos (by simp; omega), hrec _ c hmem, Option.bind_some, Option.bind_some]
    simp only [Bool.not_false, Bool.and_true, if_true, List.foldl_cons]
    exact ih (j + 1) _ (by omega) (by omega)
  ·rw [if_neg (by simp; omega), lotsF_end (by omega)]
   rfl
theorem f97_5_eq (hF : 100 ≤ F) (hv : Vs m s) : ∀ (r k : Nat) (l : List Int) (L : Nat) (c : Bool), l.length + r = s.length → r < k → Avail m L l → (∀ x ∈ l, -1 ≤ x ∧ x < m) →
  f97_5 F k l (wls m s p) c s.length m = some (c || ((ds m (-1) r l.length L).map (l ++ ·)).any (okW m s p)) := by
 have hm := hv.m5
 have hn := hv.n
 intro r
 induction r with
 | zero =>
  intro k l L c h1 h2 h3 h4
  obtain ⟨k, rfl⟩ : ∃ q, k = q + 1 := ⟨k - 1, by omega⟩
  show f97_5_b F (f97_5 F k) l (wls m s p) c s.length m = _
  unfold f97_5_b
  rw [if_pos (by simp; omega), f55_eq hF hv (by omega) h4, Option.bind_some]
  simp [ds]
 | succ r ih =>
  intro k l L c h1 h2 h3 h4
  obtain ⟨k, rfl⟩ : ∃ q, k = q + 1 := ⟨k - 1, by omega⟩
  obtain ⟨F', hF'⟩ : ∃ F', F = F' + 1 := ⟨F - 1, by omega⟩
  show f97_5_b F (f97_5 F k) l (wls m s p) c s.length m = _
  unfold f97_5_b
  rw [if_neg (by simp; omega), ds_step, any_flat]
  have hrec : ∀ x (c : Bool), x ∈ cand m L true → f97_5 F k (l ++ [x]) (wls m s p) c s.length m = some (c || ((ds m (-1) r (l.length + 1) (dx L x)).map ((l ++ [x]) ++ ·)).any (okW m s p)) := by
   intro x c hx
   have hxr : -1 ≤ x ∧ x < m := by rcases mem_cand hx with rfl | ⟨y, rfl, h, _⟩ <;> omega
   have := ih k (l ++ [x]) (dx L x) c (by simp; omega) (by omega) (h3.next hm hx) (fun y hy => by
    rcases List.mem_append.1 hy with hy | hy
    ·exact h4 y hy
    ·simp at hy; subst hy; exact hxr)
   rw [this]
   simp
  have e := f97_5_p2_eq (B := (s.length : Int)) hF hm (by omega : l.length ≤ 20) h3 hrec F' 0
  have h0 : (-1 : Int) ∈ cand m L true := by simp [cand]
  have hr0 := hrec (-1) c h0
  have hq : ∀ q : Nat, q = F' + 1 → f97_5_p2 F (f97_5 F k) l (wls m s p) s.length m q (-1) c = some ((cand m L true).foldl (fun c x => c || ((ds m (-1) r (l.length + 1) (dx L x)).map ((l ++ [x]) ++ ·)).any (okW m s p)) c) := fun q hq => by
   rw [hq, f97_5_p2]
   rw [if_pos (by simp; omega), if_pos (by decide), f95_eq, Option.bind_some, req_pos (by simp; omega), hr0, Option.bind_some, show w64 ((-1 : Int) + 1) = ((0 : Nat) : Int) by decide, e _ (by omega) (by omega), lotsF_zero, List.foldl_cons]
  rw [hq F hF', Option.bind_some]

theorem f97_6_eq (hF : 100 ≤ F) (hv : Vs m s) (hp : Pd m p) (hno : ∀ t ∈ ds m (-1) s.length 0 (all_ m), fairB m s p t = false) : ∀ (r k : Nat) (l : List Int) (L : Nat), l.length + r = s.length → r < k → Avail m L l → (∀ t ∈ ds m (-1) r l.length L, l ++ t ∈ ds m (-1) s.length 0 (all_ m)) →
  f97_6 F k l s p true s.length m = some true := by
 have hm := hv.m5
 have hn := hv.n
 intro r
 induction r with
 | zero =>
  intro k l L h1 h2 h3 h4
  obtain ⟨k, rfl⟩ : ∃ q, k = q + 1 := ⟨k - 1, by omega⟩
  show f97_6_b F (f97_6 F k) l s p true s.length m = _
  have hmem := h4 [] (by simp [ds])
  rw [List.append_nil] at hmem
  obtain ⟨g1, g2⟩ := ds_range _ _ _ _ hmem
  unfold f97_6_b f57
  rw [if_pos (by simp; omega), if_pos rfl, f37_eq hF hv hp g1 g2 (ds_okD _ _ _ _ hmem), Option.bind_some, Option.bind_some, if_neg (by rw [hno _ hmem]; decide)]
  rfl
 | succ r ih =>
  intro k l L h1 h2 h3 h4
  obtain ⟨k, rfl⟩ : ∃ q, k = q + 1 := ⟨k - 1, by omega⟩
  obtain ⟨F', hF'⟩ : ∃ F', F = F' + 1 := ⟨F - 1, by omega⟩
  show f97_6_b F (f97_6 F k) l s p true s.length m = _
  have hrec : ∀ x, x ∈ cand m L true → f97_6 F k (l ++ [x]) s p true s.length m = some true := fun x hx => by
   refine ih k (l ++ [x]) (dx L x) (by simp; omega) (by omega) (h3.next hm hx) fun t ht => ?_
   rw [List.append_assoc]
   refine h4 (x :: t) ?_
   have hi : decide ((l.length : Int) ≠ -1) = true := by simp <;> omega
   simp only [ds, hi]
   refine List.mem_flatMap.2 ⟨x, hx, List.mem_map.2 ⟨t, ?_, rfl⟩⟩
   simpa using ht
  have loop : ∀ (q j : Nat), j ≤ m → m < q + j → f97_6_p2 F (f97_6 F k) l s p s.length m q j true = some true := by
   intro q
   induction q with
   | zero => intro j _ h; omega
   | succ q ihq =>
    intro j h5 h6
    unfold f97_6_p2
    by_cases hj : j < m
    ·rw [if_pos (by simp; omega), if_neg (by simp), f53_eq (by omega) hF, Option.bind_some, w64_succ (by omega)]
     unfold f97_6_p5
     by_cases hc : (j : Int) ∈ l
     ·rw [decide_eq_true hc, if_pos rfl, Option.bind_some]
      exact ihq (j + 1) (by omega) (by omega)
     ·have hmem : (j : Int) ∈ cand m L true := mem_cand_of ⟨by omega, by omega⟩ fun _ => by
       rw [Int.toNat_natCast, h3.2 j hj, decide_eq_false hc]; rfl
      rw [decide_eq_false hc, if_neg (by decide), f95_eq, Option.bind_some, req_pos (by simp; omega), hrec _ hmem, Option.bind_some, Option.bind_some]
      exact ihq (j + 1) (by omega) (by omega)
    ·rw [if_neg (by simp; omega)]
  have h0 : (-1 : Int) ∈ cand m L true := by simp [cand]
  unfold f97_6_b
  rw [if_neg (by simp; omega)]
  have hq : ∀ q : Nat, q = F' + 1 → f97_6_p2 F (f97_6 F k) l s p s.length m q (-1) true = some true := fun q hq => by
   rw [hq, f97_6_p2]
   rw [if_pos (by simp; omega), if_pos (by decide), f95_eq, Option.bind_some, req_pos (by simp; omega), hrec _ h0, Option.bind_some, show w64 ((-1 : Int) + 1) = ((0 : Nat) : Int) by decide]
   exact loop F' 0 (by omega) (by omega)
  rw [hq F hF', Option.bind_some]

def orL (L : Nat) : List Int → Nat
 | [] => L
 | x :: xs => orL (if x < 0 then L else L ||| 2 ^ x.toNat) xs
theorem orL_bit {j : Nat} : ∀ (xs : List Int) (L : Nat), (orL L xs).testBit j = (L.testBit j || decide ((j : Int) ∈ xs))
 | [], L => by simp [orL]
 | x :: xs, L => by
  rw [orL, orL_bit xs]
  by_cases h : x < 0
  ·rw [if_pos h]
   congr 1
   refine decide_eq_decide.2 ⟨fun h => List.mem_cons_of_mem _ h, fun h2 => ?_⟩
   rcases List.mem_cons.1 h2 with e | h2
   ·omega
   ·exact h2
  ·rw [if_neg h, Nat.testBit_or, Nat.testBit_two_pow]
   by_cases e : x.toNat = j
   ·have e2 : (j : Int) = x := by omega
    simp [e, e2]
   ·rw [decide_eq_false e, Bool.or_false]
    congr 1
    refine decide_eq_decide.2 ⟨fun h => List.mem_cons_of_mem _ h, fun h2 => ?_⟩
    rcases List.mem_cons.1 h2 with e | h2
    ·omega
    ·exact h2
theorem orL_wl {L i : Nat} : orL L (wl m s p i) = L ||| wbg m s p i := by
 refine Nat.eq_of_testBit_eq fun j => ?_
 rw [orL_bit, Nat.testBit_or]
 congr 1
 rw [wb_bit]
 by_cases hj : j < m
 ·rw [decide_eq_true hj, Bool.true_and]
  exact decide_eq_decide.2 (mem_wl ⟨by omega, by omega⟩)
 ·rw [decide_eq_false hj, Bool.false_and]
  refine decide_eq_false fun h => ?_
  have := wl_range.1 _ h
  omega
theorem orL_lt (hm : m ≤ 5) : ∀ (xs : List Int) (L : Nat), L < 32 → (∀ x ∈ xs, -1 ≤ x ∧ x < m) → orL L xs < 32
 | [], L, h, _ => h
 | x :: xs, L, h, hx => by
  have hx0 := hx x (by simp)
  rw [orL]
  refine orL_lt hm xs _ ?_ (fun y hy => hx y (by simp [hy]))
  split
  ·exact h
  ·have : 2 ^ x.toNat < 2 ^ 5 := Nat.pow_lt_pow_right (by decide) (by omega)
   exact Nat.or_lt_two_pow (n := 5) h this
theorem f12_p29_eq {r mb : List Int} {best : Option (List Int)} {g b : Int} {W : List (List Int)} {can : Bool} (hm : m ≤ 5) {xs : List Int} (hx : ∀ x ∈ xs, -1 ≤ x ∧ x < m) (hxl : xs.length ≤ 20) : ∀ (k j L : Nat) (f : Bool), j ≤ xs.length → xs.length < k + j → L < 32 → f12_p29_1 F r best g mb b s xs p W can k L f j = some (((orL L (xs.drop j) : Nat) : Int), f || decide ((-1 : Int) ∈ xs.drop j)) := by
 intro k
 induction k with
 | zero => intro j L f _ h; omega
 | succ k ih =>
  intro j L f h1 h2 h3
  unfold f12_p29_1
  by_cases hj : j < xs.length
  ·have hr := hx _ (List.getElem_mem hj)
   rw [if_pos (by simp; omega), at_get hj, Option.bind_some, w64_succ (by omega), drop_cons hj, orL]
   unfold f12_p32_1
   by_cases h0 : xs[j] < 0
   ·have e : xs[j] = -1 := by omega
    rw [if_pos (by simpa using h0), Option.bind_some, if_pos h0]
    dsimp only
    rw [ih (j + 1) L true (by omega) (by omega) h3, e]
    simp
   ·obtain ⟨x, hxx⟩ : ∃ x : Nat, xs[j] = x := ⟨xs[j].toNat, by omega⟩
    obtain ⟨_, _, _, l4⟩ := look_g h3 (show x < 5 by omega)
    have hlt : L ||| 2 ^ x < 32 := by
     have : 2 ^ x < 2 ^ 5 := Nat.pow_lt_pow_right (by decide) (by omega)
     exact Nat.or_lt_two_pow (n := 5) h3 this
    rw [if_neg (by simpa using h0), req_pos (by omega), if_neg h0, hxx, Int.toNat_natCast, l4, Option.bind_some]
    dsimp only
    rw [ih (j + 1) _ f (by omega) (by omega) hlt]
    congr 3
    refine decide_eq_decide.2 ⟨fun h => List.mem_cons_of_mem _ h, fun h => ?_⟩
    rcases List.mem_cons.1 h with h | h
    ·omega
    ·exact h
  ·rw [if_neg (by simp; omega), List.drop_eq_nil_of_le (by omega)]
   simp [orL]
theorem f12_p24_eq {r : List Int} {best : Option (List Int)} {can : Bool} (hF : 100 ≤ F) (hv : Vs m s) {g : Nat} (hg : g < 32) : ∀ (k j : Nat), j ≤ s.length → s.length < k + j → f12_p24 F r best g s p (wls m s p) can k (unG m s p g j : Nat) (fiG m s p g j) j (mbG j g) = some (((unG m s p g s.length : Nat) : Int), fiG m s p g s.length, mbG s.length g) := by
 have hn := hv.n
 have hm := hv.m5
 intro k
 induction k with
 | zero => intro j _ h; omega
 | succ k ih =>
  intro j h1 h2
  unfold f12_p24
  by_cases hj : j < s.length
  ·obtain ⟨_, l2, _⟩ := look_g hg (show j < 5 by omega)
   have hml := mb_len (g := g) (n := j)
   have := ih (j + 1) (by omega) (by omega)
   rw [unG, fiG, mb_succ] at this
   rw [if_pos (by simp; omega), req_pos (by omega), w64_succ (by omega), l2]
   by_cases ht : g.testBit j = true
   ·obtain ⟨w1, w2⟩ := wl_range (m := m) (i := j) (s := s) (p := p)
    rw [if_pos ht, if_pos ht, if_pos ht] at this
    have e29 := f12_p29_eq (F := F) (s := s) (p := p) (r := r) (mb := mbG j g ++ [(j : Int)]) (best := best) (g := (g : Int)) (b := (j : Int)) (W := wls m s p) (can := can) hm w1 (by omega) F 0 (unG m s p g j) (fiG m s p g j) (by omega) (by omega) (un32 hm)
    have e29' := f12_p29_eq (F := F) (s := s) (p := p) (r := r) (mb := mbG j g) (best := best) (g := (g : Int)) (b := (j : Int)) (W := wls m s p) (can := can) hm w1 (by omega) F 0 (unG m s p g j) (fiG m s p g j) (by omega) (by omega) (un32 hm)
    rw [List.drop_zero, orL_wl] at e29'
    have em : decide ((-1 : Int) ∈ wl m s p j) = (mxg m s p j == 0) := by
     by_cases h : mxg m s p j = 0
     ·rw [decide_eq_true ((mem_wl (m := m) (x := -1) ⟨by omega, by omega⟩).2 (by rw [owng_none, h])), h]; rfl
     ·rw [decide_eq_false (fun h' => h (by
       have := (mem_wl (m := m) (x := -1) ⟨by omega, by omega⟩).1 h'
       rw [owng_none] at this
       exact this.symm))]
      simp [h]
    rw [em] at e29'
    rw [if_neg (by simp [ht]), req_pos (by simp; omega), wls_at hj, Option.bind_some, show f12_p29_1 F r best g (mbG j g) j s (wl m s p j) p (wls m s p) can F (unG m s p g j : Nat) (fiG m s p g j) 0 = _ from e29', Option.bind_some]
    exact this
   ·rw [if_neg ht, if_neg ht, if_neg ht, List.append_nil] at this
    rw [if_pos (by simpa using ht)]
    exact this
  ·rw [if_neg (by simp; omega)]
   obtain rfl : j = s.length := by omega
   rfl
theorem f12_p34_eq {r mb : List Int} {best : Option (List Int)} {g : Int} {W : List (List Int)} {can c : Bool} (hm : m ≤ 5) (hr : r.length = m) {L : Nat} (hL : L < 32) : ∀ (k j : Nat), j ≤ m → m < k + j → f12_p34 F r best g mb L c s p W can k (sm j fun l => if L.testBit l = true then 1 else 0) j = some (sm m fun l => if L.testBit l = true then 1 else 0) := by
 intro k
 induction k with
 | zero => intro j _ h; omega
 | succ k ih =>
  intro j h1 h2
  unfold f12_p34
  by_cases hj : j < m
  ·obtain ⟨_, _, l3, _⟩ := look_g hL (show j < 5 by omega)
   have hb : 0 ≤ sm j (fun l => if L.testBit l = true then (1 : Int) else 0) ∧ sm j (fun l => if L.testBit l = true then (1 : Int) else 0) ≤ j * 1 := sm_bd fun l _ => by split <;> omega
   have := ih (j + 1) (by omega) (by omega)
   rw [sm] at this
   rw [if_pos (by simp; omega), req_pos (by omega), l3, w64_succ (by omega), w64_in (by split <;> omega)]
   exact this
  ·rw [if_neg (by simp; omega)]
   obtain rfl : j = m := by omega
   rfl
theorem f12_p20_eq {r : List Int} {can : Bool} (hF : 100 ≤ F) (hv : Vs m s) (hr : r.length = m) : ∀ (q k g : Nat) (best : Option (List Int)), g + q = 2 ^ s.length → q < k → f12_p20 F r s p (wls m s p) can k best g = some (selR F m s p q g best) := by
 have hn := hv.n
 have hm := hv.m5
 have hpow : 2 ^ s.length ≤ 2 ^ 5 := Nat.pow_le_pow_right (by decide) hn.2
 intro q
 induction q with
 | zero =>
  intro k g best h1 h2
  obtain ⟨k, rfl⟩ : ∃ q, k = q + 1 := ⟨k - 1, by omega⟩
  unfold f12_p20
  rw [req_pos (by omega), look_n hn.2, if_neg (by rw [decide_eq_true_eq]; omega)]
  rfl
 | succ q ih =>
  intro k g best h1 h2
  obtain ⟨k, rfl⟩ : ∃ q, k = q + 1 := ⟨k - 1, by omega⟩
  have e24 := f12_p24_eq (p := p) (g := g) (best := best) (r := r) (can := can) hF hv (by omega) F 0 (by omega) (by omega)
  have hu := un32 (m := m) (s := s) (p := p) hm (g := g) (j := s.length)
  have e34 := f12_p34_eq (F := F) (s := s) (p := p) (r := r) (mb := mbG s.length g) (best := best) (g := (g : Int)) (W := wls m s p) (can := can) (c := fiG m s p g s.length) hm hr hu F 0 (by omega) (by omega)
  have epc : (sm m fun l => if (unG m s p g s.length).testBit l = true then (1 : Int) else 0) = ((pcN (unG m s p g s.length) : Nat) : Int) := by
   unfold pcN
   rw [cnt_sm]
   have e := sm_more (m := m) (f := fun l => if (unG m s p g s.length).testBit l = true then (1 : Int) else 0) (fun l hl => by
    rw [if_neg]
    intro h
    obtain ⟨i, _, _, h3⟩ := un_bit.1 h
    rw [wb_bit, decide_eq_false (by omega)] at h3
    cases h3) (5 - m)
   rw [show m + (5 - m) = 5 by omega] at e
   exact e.symm
  rw [epc] at e34
  have hml := mb_len (g := g) (n := s.length)
  have next := fun b => ih k (g + 1) b (by omega) (by omega)
  unfold f12_p20
  rw [req_pos (by omega), look_n hn.2, if_pos (by rw [decide_eq_true_eq]; omega), show f12_p24 F r best g s p (wls m s p) can F 0 false 0 [] = _ from e24, Option.bind_some]
  dsimp only
  rw [show f12_p34 F r best g (mbG s.length g) (unG m s p g s.length : Nat) (fiG m s p g s.length) s p (wls m s p) can F 0 0 = _ from e34, Option.bind_some, w64_succ (by omega), selR]
  unfold selG
  cases hfi : fiG m s p g s.length with
  | true =>
   have hb : badG m s p g = false := by unfold badG; rw [hfi]; rfl
   rw [if_pos rfl, hb, if_neg (by decide)]
   exact next _
  | false =>
   rw [if_neg (by decide)]
   by_cases hc : pcN (unG m s p g s.length) < (mbG s.length g).length
   ·have hb : badG m s p g = true := by unfold badG; rw [hfi, decide_eq_true hc]; rfl
    have hne := bad_ne hb
    rw [if_pos (by simp; omega), if_pos hb]
    cases best with
    | none =>
     rw [if_pos (by decide), take0, req_pos hne]
     exact next _
    | some b =>
     rw [if_neg (by simp), Option.getD_some]
     dsimp only
     by_cases h1 : (mbG s.length g).length < b.length
     ·rw [if_pos (by simp; omega), take0, req_pos hne, if_pos h1]
      exact next _
     ·rw [if_neg (by simp; omega), if_neg h1]
      by_cases h2 : (mbG s.length g).length = b.length
      ·obtain ⟨x, hx⟩ := f56_some (b := b) hF (by omega : (mbG s.length g).length ≤ 5)
       rw [if_pos (by simp; omega), take0, hx, Option.bind_some, Option.getD_some]
       unfold f12_p37
       by_cases h3 : x < 0
       ·rw [if_pos (by simpa using h3), take0, req_pos hne, Option.bind_some, if_pos ⟨h2, h3⟩]
        exact next _
       ·rw [if_neg (by simpa using h3), Option.bind_some, if_neg (fun h => h3 h.2)]
        exact next _
      ·rw [if_neg (by simp; omega), if_neg (fun h => h2 h.1)]
       exact next _
   ·have hb : badG m s p g = false := by unfold badG; rw [decide_eq_false hc]; simp
    rw [if_neg (by simp; omega), hb, if_neg (by decide)]
    exact next _

theorem f23_1_eq {b : List Int} (hb : b.length ≤ 50) : f23_1 10000 b (some b) = some true := by
 have loop : ∀ (k j : Nat), j ≤ b.length → b.length < k + j → f23_1_p2 10000 b (some b) k j = some .c1 := by
  intro k
  induction k with
  | zero => intro j _ h; omega
  | succ k ih =>
   intro j h1 h2
   unfold f23_1_p2
   rw [Option.getD_some]
   by_cases hj : j < b.length
   ·rw [if_pos (by simp; omega), at_get hj, Option.bind_some, Option.bind_some, if_neg (by simp), w64_succ (by omega)]
    exact ih (j + 1) (by omega) (by omega)
   ·rw [if_neg (by simp; omega)]
 unfold f23_1
 rw [Option.getD_some, if_neg (by simp), show f23_1_p2 10000 b (some b) 10000 0 = _ from loop 10000 0 (by omega) (by omega)]
 rfl
theorem selR_len : ∀ (k g : Nat) (best : Option (List Int)), (∀ b, best = some b → b.length ≤ 50) → s.length ≤ 5 → ∀ b, selR F m s p k g best = some b → b.length ≤ 50
 | 0, _, best, h, _, b, e => h b e
 | k + 1, g, best, h, hs, b, e => by
  refine selR_len k (g + 1) (selG F m s p best g) (fun b e => ?_) hs b e
  have hml := mb_len (g := g) (n := s.length)
  unfold selG at e
  split at e
  ·cases best with
   | none =>
    have : mbG s.length g = b := by simpa using e
    rw [← this]; omega
   | some b0 =>
    have h0 := h b0 rfl
    dsimp only at e
    split at e
    ·have : mbG s.length g = b := by simpa using e
     rw [← this]; omega
    ·split at e
     ·have : mbG s.length g = b := by simpa using e
      rw [← this]; omega
     ·have : b0 = b := by simpa using e
      rw [← this]; exact h0
  ·exact h b e
end

theorem f12_plain (b l : Int) (w by_ : List Int) (hb : 0 ≤ b ∧ b ≤ 255) (hl : 0 ≤ l ∧ l ≤ 255) (hw : w.length = 16) (hx : ∀ x : Int, x ∈ w → 0 ≤ x ∧ x ≤ 255) (hw2 : by_.length = 4) (hv2 : ∀ x : Int, x ∈ by_ → 0 ≤ x ∧ x ≤ 255) : f12 10000 b l w by_ = some true := by
 obtain ⟨s, m, e43, hv, hs, hm, _⟩ := made_eq (F := 10000) (most := 5) (nb := 4) (nl := 4) (by omega) (by omega) ⟨by omega, by omega⟩ (by omega) hb hl hw hx
 have hn := hv.n
 obtain ⟨r, q1, q2⟩ := hv.at0
 obtain ⟨p, p1, p2, p3⟩ := f12_p1_eq (F := 10000) (s := s) q2 hm hw2 hv2 10000 0 [] (by omega) (by omega) rfl (by simp)
 have hp : Pd m p := Pd.of ⟨p2, p3⟩
 have hpow : 2 ^ s.length ≤ 2 ^ 5 := Nat.pow_le_pow_right (by decide) hn.2
 have h1 : 1 ≤ 2 ^ s.length := Nat.one_le_two_pow
 have ecan := f97_5_eq (F := 10000) (p := p) (by omega) hv s.length 10000 [] (all_ m) false (by simp) (by omega) (Avail.all hv.m5) (by simp)
 have em : (ds m (-1) s.length 0 (all_ m)).map (([] : List Int) ++ ·) = ds m (-1) s.length 0 (all_ m) := by simp
 rw [Bool.false_or, List.length_nil, em] at ecan
 have e20 := fun c => f12_p20_eq (F := 10000) (p := p) (r := r) (can := c) (by omega) hv q2 (2 ^ s.length - 1) 10000 1 none (by omega) (by omega)
 have e34 := f34_good (F := 10000) (by omega) hv hp
 have hhall : (ds m (-1) s.length 0 (all_ m)).any (okW m s p) = (overG 10000 m s p).isNone := by
  have hh := hall (p := p) hv
  have hsel := selR_none (F := 10000) (m := m) (s := s) (p := p) (2 ^ s.length - 1) 1 none
  cases hany : (ds m (-1) s.length 0 (all_ m)).any (okW m s p) with
  | true =>
   obtain ⟨t, t1, t2⟩ := List.any_eq_true.1 hany
   have := hh.1 ⟨t, t1, t2⟩
   have e : overG 10000 m s p = none := hsel.2 ⟨rfl, fun g g1 g2 => this g g1 (by omega)⟩
   rw [e]; rfl
  | false =>
   cases ho : overG 10000 m s p with
   | some b => rfl
   | none =>
    obtain ⟨t, t1, t2⟩ := hh.2 fun g g1 g2 => (hsel.1 ho).2 g g1 (by omega)
    rw [List.any_eq_true.2 ⟨t, t1, t2⟩] at hany
    cases hany
 unfold f12
 rw [show f43 10000 b l w 4 4 5 = some s from e43, Option.bind_some, q1, Option.bind_some, show f12_p1 10000 r by_ s 10000 0 [] = _ from p1, Option.bind_some, take0, f32_good (by omega) hv hp, Option.bind_some]
 dsimp only
 rw [if_neg (by decide), if_neg (by simp [wls_len]), show f12_p6 10000 r s p (wls m s p) 10000 0 = _ from f12_p6_eq (by omega) hv hp q2 10000 0 (by omega) (by omega), Option.bind_some]
 dsimp only
 unfold f54_3
 rw [q2, ecan, Option.bind_some, Option.bind_some, show ∀ c, f12_p20 10000 r s p (wls m s p) c 10000 none 1 = _ from e20, Option.bind_some, e34, Option.bind_some]
 have eo : selR 10000 m s p (2 ^ s.length - 1) 1 none = overG 10000 m s p := rfl
 rw [eo, hhall]
 cases ho : overG 10000 m s p with
 | none =>
  dsimp only
  rw [if_pos (by decide), if_pos (by decide), if_pos (by decide), if_pos (by decide), works10]
  rfl
 | some g =>
  have hlen := selR_len (F := 10000) (m := m) (s := s) (p := p) (2 ^ s.length - 1) 1 none (fun _ h => by cases h) hn.2 g ho
  have hnone : ∀ t ∈ ds m (-1) s.length 0 (all_ m), fairB m s p t = false := fun t ht => by
   cases hf : fairB m s p t with
   | false => rfl
   | true =>
    unfold fairB at hf
    rw [Bool.and_eq_true] at hf
    have : (ds m (-1) s.length 0 (all_ m)).any (okW m s p) = true := List.any_eq_true.2 ⟨t, ht, hf.1⟩
    rw [hhall, ho] at this
    cases this
  have e6 := f97_6_eq (F := 10000) (by omega) hv hp hnone s.length 10000 [] (all_ m) (by simp) (by omega) (Avail.all hv.m5) (fun t ht => ht)
  unfold f54_4
  dsimp only
  rw [if_pos (by simp), if_neg (by simp), e6, Option.bind_some, Option.bind_some, if_pos rfl, if_pos (by decide), f23_1_eq hlen, Option.bind_some, if_pos rfl, works10]
  rfl

end Go.Gh.Sale
