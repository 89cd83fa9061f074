/- SaleNamed: the plain law. -/
import Derived.Test.YtdbaljbhnpchjaaSaleB8
namespace Go.Gh.Sale
set_option linter.unusedVariables false
set_option linter.unusedSimpArgs false

theorem works8 : f16 10000 = some true := by decide +kernel

def ro (n r i : Nat) : Nat := if i + r < n then i + r else i + r - n
def roi (n r i : Nat) : Nat := if r ≤ i then i - r else i + n - r
theorem ro_rn {n r : Nat} (h : r < n) : Rn n (ro n r) (roi n r) := by
 refine ⟨fun i hi => ?_, fun i hi => ?_⟩
 ·unfold ro roi
  by_cases h1 : i + r < n
  ·rw [if_pos h1, if_pos (by omega)]; omega
  ·rw [if_neg h1, if_neg (by omega)]; omega
 ·unfold ro roi
  by_cases h1 : r ≤ i
  ·rw [if_pos h1, if_pos (by omega)]; omega
  ·rw [if_neg h1, if_neg (by omega)]; omega
theorem ro_tmod {n i : Nat} {k : Int} (hn : 0 < n ∧ n ≤ 5) (hi : i < n) (hk : 0 ≤ k ∧ k ≤ 255) : Int.tmod (w64 ((i : Int) + w64 k)) (n : Int) = ((ro n (k.toNat % n) i : Nat) : Int) := by
 obtain ⟨K, rfl⟩ := Int.eq_ofNat_of_zero_le hk.1
 rw [w64_in (n := (K : Int)) (by omega), w64_in (by omega), Int.tmod_eq_emod_of_nonneg (by omega), Int.toNat_natCast]
 have h : n = 1 ∨ n = 2 ∨ n = 3 ∨ n = 4 ∨ n = 5 := by omega
 unfold ro
 rcases h with rfl | rfl | rfl | rfl | rfl <;> split <;> omega

section
variable {m F : Nat} {s : List (List Int)} {x4 x5 : Int}
theorem f8_p5_eq (hm : m ≤ 5) (h5 : 0 ≤ x5 ∧ x5 ≤ 255) {x7 row : List Int} (hx7 : x7.length = m) (hrow : row.length = m) {b : Int} {R : List (List Int)} : ∀ (k j : Nat) (p : List Int), j ≤ m → m < k + j → p.length = m →
  ∃ p', f8_p5_1 F x4 x5 s x7 b row R k j p = some p' ∧ p'.length = m ∧ ∀ l, l < m → pr p' (ro m (x5.toNat % m) l : Nat) = if j ≤ l then pr row l else pr p (ro m (x5.toNat % m) l : Nat) := by
 intro k
 induction k with
 | zero => intro j p _ h; omega
 | succ k ih =>
  intro j p h1 h2 h3
  unfold f8_p5_1
  by_cases hj : j < m
  ·have hm0 : 0 < m := by omega
   have hr := ro_rn (n := m) (r := x5.toNat % m) (Nat.mod_lt _ hm0)
   have hj' := hr.a j hj
   obtain ⟨p', e1, e2, e3⟩ := ih (j + 1) (p.set (ro m (x5.toNat % m) j) (pr row j)) (by omega) (by omega) (by rw [List.length_set]; exact h3)
   refine ⟨p', ?_, e2, fun l hl => ?_⟩
   ·rw [hx7, hrow, if_pos (by simp; omega), at_of (pr_opt (by omega)), Option.bind_some, req_pos (by omega), ro_tmod ⟨hm0, hm⟩ hj h5, Int.toNat_natCast, Int.toNat_natCast, req_pos (by omega), Nat.zero_add, req_pos (by omega), w64_succ (by omega)]
    exact e1
   ·rw [e3 l hl]
    have hl' := hr.a l hl
    by_cases h : j + 1 ≤ l
    ·rw [if_pos h, if_pos (by omega)]
    ·rw [if_neg h, pr_set (by omega)]
     by_cases e : l = j
     ·subst e; rw [if_pos rfl, if_pos (Nat.le_refl _)]
     ·have hne : ro m (x5.toNat % m) l ≠ ro m (x5.toNat % m) j := fun e2 => e (by rw [← hl'.2, e2, hj'.2])
      rw [if_neg hne, if_neg (by omega)]
  ·rw [hrow, if_neg (by simp; omega)]
   exact ⟨p, rfl, h3, fun l hl => by rw [if_neg (by omega)]⟩

def rwL (R : List (List Int)) (i : Nat) : List Int := R[i]?.getD []
theorem rwL_set {R : List (List Int)} {k i : Nat} {v : List Int} (hk : k < R.length) : rwL (R.set k v) i = if i = k then v else rwL R i := by
 unfold rwL
 rw [List.getElem?_set]
 by_cases h : k = i
 ·subst h; rw [if_pos rfl, if_pos hk, if_pos rfl]; rfl
 ·rw [if_neg h, if_neg (fun e => h e.symm)]

theorem f8_p1_eq (hF : 100 ≤ F) (hv : Vs m s) (h4 : 0 ≤ x4 ∧ x4 ≤ 255) (h5 : 0 ≤ x5 ∧ x5 ≤ 255) {x7 : List Int} (hx7 : x7.length = m) : ∀ (k j : Nat) (R : List (List Int)), j ≤ s.length → s.length < k + j → R.length = s.length →
  ∃ R', f8_p1 F x4 x5 s x7 k j R = some R' ∧ R'.length = s.length ∧ ∀ b, b < s.length → rwL R' (ro s.length (x4.toNat % s.length) b) = if j ≤ b then pn m (roi m (x5.toNat % m)) (rwL s b) else rwL R (ro s.length (x4.toNat % s.length) b) := by
 have hm := hv.m5
 have hn := hv.n
 have hr := ro_rn (n := s.length) (r := x4.toNat % s.length) (Nat.mod_lt _ hn.1)
 intro k
 induction k with
 | zero => intro j R _ h; omega
 | succ k ih =>
  intro j R h1 h2 h3
  unfold f8_p1
  by_cases hj : j < s.length
  ·have hj' := hr.a j hj
   have hrow := (hv.ok _ (List.getElem_mem hj)).1
   have erow : rwL s j = s[j] := by unfold rwL; rw [List.getElem?_eq_getElem hj]; rfl
   obtain ⟨p', e1, e2, e3⟩ := f8_p5_eq (F := F) (s := s) (x4 := x4) hm h5 hx7 hrow (b := (j : Int)) (R := R) F 0 (List.replicate m 0) (by omega) (by omega) (by simp)
   have ep : p' = pn m (roi m (x5.toNat % m)) (rwL s j) := by
    refine pr_ext hv e2 (by simp [pn]) fun l hl => ?_
    have hq := (ro_rn (n := m) (r := x5.toNat % m) (Nat.mod_lt _ (by omega))).b l hl
    have := e3 _ hq.1
    rw [hq.2, if_pos (Nat.zero_le _)] at this
    rw [pn_pr hl, this, erow]
   obtain ⟨R', g1, g2, g3⟩ := ih (j + 1) (R.set (ro s.length (x4.toNat % s.length) j) p') (by omega) (by omega) (by rw [List.length_set]; exact h3)
   refine ⟨R', ?_, g2, fun b hb => ?_⟩
   ·rw [hx7, if_pos (by simp; omega), req_pos (by omega), at_get hj, Option.bind_some, Int.toNat_natCast, Int.toNat_natCast, show f8_p5_1 F x4 x5 s x7 j s[j] R F 0 (List.replicate m 0) = _ from e1, Option.bind_some, req_pos (by omega), req_pos (by omega), ro_tmod hn hj h4, Int.toNat_natCast, req_pos (by omega), Nat.zero_add, req_pos (by omega), w64_succ (by omega), List.drop_zero, Nat.zero_add, List.take_of_length_le (by omega)]
    exact g1
   ·have hb' := hr.a b hb
    rw [g3 b hb]
    by_cases h : j + 1 ≤ b
    ·rw [if_pos h, if_pos (by omega)]
    ·rw [if_neg h, rwL_set (by omega)]
     by_cases e : b = j
     ·subst e; rw [if_pos rfl, if_pos (Nat.le_refl _), ep]
     ·have hne : ro s.length (x4.toNat % s.length) b ≠ ro s.length (x4.toNat % s.length) j := fun e2 => e (by rw [← hb'.2, e2, hj'.2])
      rw [if_neg hne, if_neg (by omega)]
  ·rw [if_neg (by simp; omega)]
   exact ⟨R, rfl, h3, fun b hb => by rw [if_neg (by omega)]⟩

theorem sr_of (hv : Vs m s) {o : List (List Int)} (ho : o.length = s.length) (h : ∀ b, b < s.length → rwL o (ro s.length (x4.toNat % s.length) b) = pn m (roi m (x5.toNat % m)) (rwL s b)) :
  Sr m s o (ro s.length (x4.toNat % s.length)) (roi s.length (x4.toNat % s.length)) (ro m (x5.toNat % m)) (roi m (x5.toNat % m)) ∨ m = 0 := by
 have hn := hv.n
 by_cases hm0 : m = 0
 ·exact .inr hm0
 refine .inl ?_
 have hp := ro_rn (n := s.length) (r := x4.toNat % s.length) (Nat.mod_lt _ hn.1)
 have hq := ro_rn (n := m) (r := x5.toNat % m) (Nat.mod_lt _ (by omega))
 refine ⟨hv, ⟨fun r hr => ?_, by omega, hv.m5⟩, ho, hp, hq, fun b hb l hl => ?_⟩
 ·obtain ⟨i, hi, rfl⟩ := List.getElem_of_mem hr
  have hi' := hp.b i (by omega)
  have e := h _ hi'.1
  rw [hi'.2] at e
  have e2 : rwL o i = o[i] := by unfold rwL; rw [List.getElem?_eq_getElem hi]; rfl
  rw [← e2, e]
  refine ⟨by simp [pn], fun x hx => ?_⟩
  unfold pn at hx
  obtain ⟨l, hl, rfl⟩ := List.mem_map.1 hx
  exact row_bd hv _
 ·show pr (rwL o _) _ = pr (rwL s b) l
  have hl' := hq.a l hl
  rw [h b hb, pn_pr hl'.1, hl'.2]

theorem f8_p11_eq (h4 : 0 ≤ x4 ∧ x4 ≤ 255) (h5 : 0 ≤ x5 ∧ x5 ≤ 255) {o : List (List Int)} {x7 : List Int} (hx7 : x7.length = m)
  (hr : Sr m s o (ro s.length (x4.toNat % s.length)) (roi s.length (x4.toNat % s.length)) (ro m (x5.toNat % m)) (roi m (x5.toNat % m)) ∨ m = 0) (hv : Vs m s) (hvo : Vs m o) (ho : o.length = s.length) :
  ∀ (k b : Nat), b ≤ s.length → s.length < k + b → f8_p11 F x4 x5 s x7 o (ties m s) (bestD m o) (bestD m s) k b = some .c1 := by
 have hn := hv.n
 have hbl := (best_len hv).1
 have hp := ro_rn (n := s.length) (r := x4.toNat % s.length) (Nat.mod_lt _ hn.1)
 have hlot : ties m s = 1 → ∀ b, b < s.length → lot m o (ro s.length (x4.toNat % s.length) b) = tx (ro m (x5.toNat % m)) (lot m s b) := fun ht b hb => by
  rcases hr with hr | h0
  ·exact hr.lot ht hb
  ·have h1 := (best_dv hv).rg b hb
   have h2 := (best_dv hvo).rg (ro s.length (x4.toNat % s.length) b) (by rw [ho]; exact (hp.a b hb).1)
   rw [show lot m s b = -1 by omega, show lot m o (ro s.length (x4.toNat % s.length) b) = -1 by omega]; rfl
 intro k
 induction k with
 | zero => intro b _ h; omega
 | succ k ih =>
  intro b h1 h2
  unfold f8_p11
  by_cases hb : b < s.length
  ·obtain ⟨p1, p2⟩ := at_best hv hb
   have hb' := hp.a b hb
   obtain ⟨q1, _⟩ := at_best hvo (b := ro s.length (x4.toNat % s.length) b) (by rw [ho]; exact hb'.1)
   rw [if_pos (by rw [hbl]; simp; omega), p1, Option.bind_some, w64_succ (by omega)]
   by_cases h0 : lot m s b ≥ 0
   ·obtain ⟨l, hl⟩ : ∃ l : Nat, lot m s b = (l : Int) := ⟨(lot m s b).toNat, by omega⟩
    have e14 : f8_p14 F x4 x5 s x7 o (ties m s) (bestD m o) b (lot m s b) (bestD m s) = some ((ro m (x5.toNat % m) l : Nat) : Int) := by
     unfold f8_p14
     rw [hl] at p2 ⊢
     rw [hx7, if_pos (by simp; omega), req_pos (by omega), ro_tmod ⟨by omega, hv.m5⟩ (by omega) h5]
    rw [if_pos (by simpa using h0), e14, Option.bind_some]
    by_cases ht : ties m s = 1
    ·rw [if_pos (by simpa using ht), req_pos (by omega), ro_tmod hn hb h4, q1, Option.bind_some, hlot ht b hb, hl, tx_nat, if_neg (by simp)]
     exact ih (b + 1) (by omega) (by omega)
    ·rw [if_neg (by simpa using ht)]
     exact ih (b + 1) (by omega) (by omega)
   ·rw [if_neg (by simpa using h0)]
    by_cases ht : ties m s = 1
    ·rw [if_pos (by simpa using ht), req_pos (by omega), ro_tmod hn hb h4, q1, Option.bind_some, hlot ht b hb, show lot m s b = -1 by omega, tx_none, if_neg (by simp)]
     exact ih (b + 1) (by omega) (by omega)
    ·rw [if_neg (by simpa using ht)]
     exact ih (b + 1) (by omega) (by omega)
  ·rw [if_neg (by rw [hbl]; simp; omega)]

theorem f8_p22_eq (hm : m ≤ 5) (h5 : 0 ≤ x5 ∧ x5 ≤ 255) {x7 : List Int} (hx7 : x7.length = m) {o : List (List Int)} {p q : List Int} (hp : p.length = m) (hq : q.length = m) (h : ∀ l, l < m → pr q (ro m (x5.toNat % m) l : Nat) = pr p l) :
  ∀ (k l : Nat), l ≤ m → m < k + l → f8_p22 F x5 s x7 o p q k l = some .c1 ∧ f8_p22_1 F x5 s x7 o p q k l = some .c1 := by
 intro k
 induction k with
 | zero => intro l _ h; omega
 | succ k ih =>
  intro l h1 h2
  unfold f8_p22 f8_p22_1
  rw [hx7]
  by_cases hl : l < m
  ·have hl' := (ro_rn (n := m) (r := x5.toNat % m) (Nat.mod_lt _ (by omega))).a l hl
   obtain ⟨i1, i2⟩ := ih (l + 1) (by omega) (by omega)
   have e := h l hl
   refine ⟨?_, ?_⟩
   ·rw [if_pos (by simp; omega), at_of (pr_opt (by omega)), Option.bind_some, req_pos (by omega), ro_tmod ⟨by omega, hm⟩ hl h5, at_of (pr_opt (by omega)), Option.bind_some, e, if_neg (by simp), w64_succ (by omega)]
    exact i1
   ·rw [if_pos (by simp; omega), at_of (pr_opt (by omega)), Option.bind_some, req_pos (by omega), ro_tmod ⟨by omega, hm⟩ hl h5, at_of (pr_opt (by omega)), Option.bind_some, e, if_neg (by simp), w64_succ (by omega)]
    exact i2
  ·rw [if_neg (by simp; omega), if_neg (by simp; omega)]
   exact ⟨rfl, rfl⟩
end

theorem f8_plain (b l : Int) (w : List Int) (x4 x5 : Int) (hb : 0 ≤ b ∧ b ≤ 255) (hl : 0 ≤ l ∧ l ≤ 255) (hw : w.length = 16) (hx : ∀ x : Int, x ∈ w → 0 ≤ x ∧ x ≤ 255) (h4 : 0 ≤ x4 ∧ x4 ≤ 255) (h5 : 0 ≤ x5 ∧ x5 ≤ 255) : f8 10000 b l w x4 x5 = some true := by
 obtain ⟨s, m, e43, hv, hs, hm, _⟩ := made_eq (F := 10000) (most := 20) (nb := 4) (nl := 4) (by omega) (by omega) ⟨by omega, by omega⟩ (by omega) hb hl hw hx
 have hn := hv.n
 obtain ⟨r, q1, q2⟩ := hv.at0
 obtain ⟨o, g1, g2, g3⟩ := f8_p1_eq (F := 10000) (by omega) hv h4 h5 q2 10000 0 (List.replicate s.length []) (by omega) (by omega) (by simp)
 have g3 : ∀ b, b < s.length → rwL o (ro s.length (x4.toNat % s.length) b) = pn m (roi m (x5.toNat % m)) (rwL s b) := fun b hb => by rw [g3 b hb, if_pos (Nat.zero_le _)]
 have hr := sr_of hv g2 g3
 have hvo : Vs m o := by
  rcases hr with hr | h0
  ·exact hr.ho
  ·refine ⟨fun r hr => ?_, by omega, hv.m5⟩
   have hp := ro_rn (n := s.length) (r := x4.toNat % s.length) (Nat.mod_lt _ hn.1)
   obtain ⟨i, hi, rfl⟩ := List.getElem_of_mem hr
   have hi' := hp.b i (by omega)
   have e := g3 _ hi'.1
   rw [hi'.2] at e
   have e2 : rwL o i = o[i] := by unfold rwL; rw [List.getElem?_eq_getElem hi]; rfl
   rw [← e2, e]
   subst h0
   exact ⟨by simp [pn], fun x hx => by simp [pn] at hx⟩
 have hck := hv.ck
 have hcko := hvo.ck
 have hbl := best_len hv
 have hblo := best_len hvo
 have hties : ties m s = ties m o := by
  rcases hr with hr | h0
  ·exact hr.ties
  ·subst h0
   have one : ∀ {t : List (List Int)}, Vs 0 t → ties 0 t = 1 := fun {t} ht => by
    rw [ties_len ht]
    have hpos : (bestD 0 t) ∈ bests 0 t := List.mem_filter.2 ⟨(best_mem ht).1, decide_eq_true (best_mem ht).2⟩
    have hall : ∀ x ∈ bests 0 t, x = bestD 0 t := fun x hx => by
     obtain ⟨x1, x2, _⟩ := bests_in ht hx
     have hd := best_dv ht
     refine List.ext_getElem (by have := (best_len ht).1; omega) fun i i1 i2 => ?_
     have a1 := x2.rg i (by omega)
     have a2 := (best_len ht).2 _ (List.getElem_mem i2)
     rw [fl_get i1] at a1
     omega
    have hle : (bests 0 t).length ≤ [bestD 0 t].length := sub_len _ _ bests_nodup fun x hx => by rw [hall x hx]; exact List.mem_singleton.2 rfl
    have hge := List.length_pos_of_mem hpos
    simp only [List.length_singleton] at hle
    omega
   rw [one hv, one hvo]
 have hW : W m s (-1) = W m o (-1) := by
  rcases hr with hr | h0
  ·exact hr.W_eq
  ·subst h0
   have zero : ∀ {t : List (List Int)}, Vs 0 t → W 0 t (-1) = 0 := fun {t} ht => by
    rw [← best_wt ht, ← sm_zero t.length]
    refine sm_congr fun i hi => ?_
    have := (best_dv ht).rg i hi
    rw [show lot 0 t i = -1 by omega]; rfl
   rw [zero hv, zero hvo]
 have hlow : ∀ l, l < m → pr (lowP m o) (ro m (x5.toNat % m) l : Nat) = pr (lowP m s) l := fun l hl => by
  rcases hr with hr | h0
  ·exact hr.low hl
  ·omega
 have hhigh : ∀ l, l < m → pr (highP m o) (ro m (x5.toNat % m) l : Nat) = pr (highP m s) l := fun l hl => by
  rcases hr with hr | h0
  ·exact hr.high hl
  ·omega
 have t1 : f19 10000 s = some (ties m s, 0) := by rw [f19_eq (by omega), hv.head, if_neg (by simpa using hck)]; rfl
 have t2 : f19 10000 o = some (ties m o, 0) := by rw [f19_eq (by omega), hvo.head, if_neg (by simpa using hcko)]; rfl
 have u1 : f17 10000 s = some (bestD m s, 0) := by rw [f17_eq (by omega), hv.head, if_neg (by simpa using hck)]
 have u2 : f17 10000 o = some (bestD m o, 0) := by rw [f17_eq (by omega), hvo.head, if_neg (by simpa using hcko)]
 have v1 : f21 10000 s (bestD m s) = some (W m s (-1), 0) := by
  rw [f21_eq (by omega) hv hbl.1 hbl.2, if_pos (ds_okD _ _ _ _ (best_mem hv).1), (best_mem hv).2]; rfl
 have v2 : f21 10000 o (bestD m o) = some (W m o (-1), 0) := by
  rw [f21_eq (by omega) hvo hblo.1 hblo.2, if_pos (ds_okD _ _ _ _ (best_mem hvo).1), (best_mem hvo).2]; rfl
 have l1 : f39 10000 s = some (lowP m s, 0) := by rw [f39_eq (by omega), hv.head, if_neg (by simpa using hck)]
 have l2 : f39 10000 o = some (lowP m o, 0) := by rw [f39_eq (by omega), hvo.head, if_neg (by simpa using hcko)]
 have k1 : f41 10000 s = some (highP m s, 0) := by rw [f41_eq (by omega), hv.head, if_neg (by simpa using hck)]
 have k2 : f41 10000 o = some (highP m o, 0) := by rw [f41_eq (by omega), hvo.head, if_neg (by simpa using hcko)]
 have p11 : f8_p11 10000 x4 x5 s r o (ties m s) (bestD m o) (bestD m s) 10000 0 = some .c1 := f8_p11_eq h4 h5 q2 hr hv hvo g2 10000 0 (by omega) (by omega)
 have p22 : f8_p22 10000 x5 s r o (lowP m s) (lowP m o) 10000 0 = some .c1 := (f8_p22_eq hv.m5 h5 q2 lowP_len lowP_len hlow 10000 0 (by omega) (by omega)).1
 have p22b : f8_p22_1 10000 x5 s r o (highP m s) (highP m o) 10000 0 = some .c1 := (f8_p22_eq hv.m5 h5 q2 highP_len highP_len hhigh 10000 0 (by omega) (by omega)).2
 have hdt : List.drop 0 (List.take (0 + s.length) o) = o := by rw [Nat.zero_add, List.drop_zero, List.take_of_length_le (by omega)]
 unfold f8
 rw [show f43 10000 b l w 4 4 20 = some s from e43, Option.bind_some, q1, Option.bind_some, req_pos (by omega), Int.toNat_natCast, show f8_p1 10000 x4 x5 s r 10000 0 (List.replicate s.length []) = _ from g1, Option.bind_some, t1, Option.bind_some]
 dsimp only
 rw [hdt, t2, Option.bind_some]
 dsimp only
 rw [req_pos (by omega), u1, Option.bind_some]
 dsimp only
 rw [u2, Option.bind_some]
 dsimp only
 rw [if_neg (by decide), if_neg (by decide), if_neg (by decide), if_neg (by decide), if_neg (by rw [hties]; simp), if_neg (by rw [hbl.1]; simp), if_neg (by rw [hblo.1, g2]; simp), v1, Option.bind_some]
 dsimp only
 rw [v2, Option.bind_some]
 dsimp only
 rw [if_neg (by decide), if_neg (by decide), if_neg (by rw [hW]; simp), p11, Option.bind_some]
 dsimp only
 rw [l1, Option.bind_some]
 dsimp only
 rw [l2, Option.bind_some]
 dsimp only
 rw [if_neg (by decide), if_neg (by decide), if_neg (by rw [lowP_len, q2]; simp), if_neg (by rw [lowP_len, q2]; simp), p22, Option.bind_some]
 dsimp only
 rw [k1, Option.bind_some]
 dsimp only
 rw [k2, Option.bind_some]
 dsimp only
 rw [if_neg (by decide), if_neg (by decide), if_neg (by rw [highP_len, q2]; simp), if_neg (by rw [highP_len, q2]; simp), p22b, Option.bind_some]
 dsimp only
 rw [works8]
 rfl

end Go.Gh.Sale
