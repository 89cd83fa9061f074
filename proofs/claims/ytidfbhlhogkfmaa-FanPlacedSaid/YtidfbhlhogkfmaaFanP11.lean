/- The plain law of FanPlaced. -/
import Derived.Test.YtidfbhlhogkfmaaFanM
import Derived.Test.YtidfbhlhogkfmaaFanP10
import Derived.Test.YtidfbhlhogkfmaaFanX
namespace Go.Gh.Fan
set_option linter.unusedVariables false
set_option linter.unusedSimpArgs false

theorem full_len {l : List Int} : decide (posF 0 l 0 = []) = !decide ((0 : Int) ∈ l) := by
  by_cases h : (0 : Int) ∈ l
  · obtain ⟨i, hi⟩ := List.mem_iff_getElem?.1 h
    have := (mem_pos (x := (i : Int))).2 ⟨by omega, by simpa using hi⟩
    have hne : ¬ posF 0 l 0 = [] := by intro e; rw [e] at this; cases this
    simp [h, hne]
  · have : posF 0 l 0 = [] := by
      apply List.eq_nil_iff_forall_not_mem.2
      intro x hx
      exact h (List.mem_iff_getElem?.2 ⟨_, (mem_pos.1 hx).2⟩)
    simp [h, this]

theorem mem_iff_pos {l : List Int} {k : Int} : k ∈ l ↔ posF 0 l k ≠ [] := by
  constructor
  · intro h e
    obtain ⟨i, hi⟩ := List.mem_iff_getElem?.1 h
    have := (mem_pos (x := (i : Int))).2 ⟨by omega, by simpa using hi⟩
    rw [e] at this; cases this
  · intro h
    obtain ⟨x, xs, hx⟩ := List.exists_cons_of_ne_nil h
    exact List.mem_iff_getElem?.2 ⟨_, (mem_pos.1 (show x ∈ posF 0 l k by rw [hx]; simp)).2⟩

theorem f48_val {n : Int} {w : Bool} {l : List Int} (v : Val n w l) : f48 100 n w l = some (decide (posF 0 l 0 = []), 0) := by
  have hr := v.rng
  have hlen := v.len
  obtain ⟨m, rfl⟩ := Int.eq_ofNat_of_zero_le (show 0 ≤ n by omega)
  unfold f48
  rw [f57_eq (by omega) (by omega), if_pos (code_zero.2 v)]
  simp only [Option.bind_some, bne_self_eq_false]
  rw [w64_nat (show m < 1000000 by omega), Int.toNat_natCast, req_pos (by omega), f46_eq (by simp [tab]; omega) (by simp [tab]; omega)]
  simp only [Option.bind_some, Bool.false_eq_true, if_false]
  rw [req_pos (by rw [tab_len]; omega)]
  have hf := v.full
  by_cases e : posF 0 l 0 = []
  · have : ¬ (-1 : Int) ∈ List.drop 1 (List.take (1 + (m + 1 - 1)) (tab 9 (fstv l))) := by
      rw [mem_firsts (by omega)]
      rintro ⟨k, h1, h2, h3⟩
      exact hf.1 e k (by omega) (by omega) (fst_none.1 h3)
    rw [decide_eq_false this, e]; rfl
  · have : (-1 : Int) ∈ List.drop 1 (List.take (1 + (m + 1 - 1)) (tab 9 (fstv l))) := by
      rw [mem_firsts (by omega)]
      apply Classical.byContradiction
      intro g
      refine e (hf.2 fun k h1 h2 h3 => g ⟨k.toNat, by omega, by omega, fst_none.2 ?_⟩)
      rwa [show ((k.toNat : Nat) : Int) = k by omega]
    rw [decide_eq_true this, decide_eq_false e]; rfl

theorem f51_val {n : Int} {w : Bool} {l : List Int} (v : Val n w l) : f51 100 n w l = some 0 := by
  have hr := v.rng
  have hlen := v.len
  unfold f51
  rw [f57_eq (by omega) (by omega), if_pos (code_zero.2 v)]
  rfl

/-- The list is as before, but for two places. -/
theorem f11_p8_eq {x5 x6 n : Int} {l : List Int} {k p d : Nat} (hk : w64 (1 + Int.tmod (w64 x5) n) = (k : Int)) (hp : Int.tmod (w64 x6) ((l.length : Nat) : Int) = (p : Int)) (hl : l.length ≤ 60) (hpd : p + d < l.length) (a : Bool) (b : Int) (c : Bool) :
    ∀ (m i f : Nat), m < f → i + m = l.length → f11_p8 100 x5 n x6 l (d : Int) l (set2 l p (p + d) k) a b c f i = some .c1
  | 0, i, f + 1, _, hi => by
    obtain rfl : i = l.length := by omega
    simp [f11_p8, set2_len]
  | m + 1, i, f + 1, hf, hi => by
    have hlt : (i : Int) < (((set2 l p (p + d) (k : Int)).length : Nat) : Int) := by rw [set2_len]; omega
    have ih := f11_p8_eq hk hp hl hpd a b c m (i + 1) f (by omega) (by omega)
    have hg : (set2 l p (p + d) (k : Int))[i]? = some (if i = p ∨ i = p + d then (k : Int) else atv l i) := by
      rw [get_set2 (by omega) hpd]
      split
      · rfl
      · exact get_atv (by omega)
    simp only [f11_p8, decide_eq_true hlt, if_true, at_of hg, Option.bind_some, hk, hp, f11_p11]
    rw [w64_nat (by omega), ih, w64_in (n := (p : Int) + (d : Int)) (by omega)]
    by_cases g1 : i = p
    · subst g1; simp
    · have g1' : ¬ (i : Int) = (p : Int) := by omega
      by_cases g2 : i = p + d
      · subst g2
        have g3 : ¬ ((p + d : Nat) : Int) = (p : Int) := g1'
        have g4 : ((p + d : Nat) : Int) = (p : Int) + (d : Int) := by omega
        rw [if_neg (by simpa using g3), if_pos (by simp)]
        simp
      · have g2' : ¬ (i : Int) = (p : Int) + (d : Int) := by omega
        rw [if_neg (by simpa using g1'), if_neg (by simpa using g2'), at_of (get_atv (show i < l.length by omega))]
        simp [g1, g2]

theorem f11_plain (x1 : Int) (w : Bool) (ps : List Int) (x4 x5 x6 : Int) (h1 : 0 ≤ x1 ∧ x1 ≤ 255) (hps : ps.length = 8) (hb : ∀ x ∈ ps, 0 ≤ x ∧ x ≤ 255) (h5 : 0 ≤ x5 ∧ x5 ≤ 255) (h6 : 0 ≤ x6 ∧ x6 ≤ 255) :
    f11 100 x1 w ps x4 x5 x6 = some true := by
  obtain ⟨n, l, hm, v, hn⟩ := f43_eq h1 w hps hb x4 (m := 8) (by omega)
  have hr := v.rng
  have hlen := v.len
  have hmod := Int.emod_nonneg x5 (show n ≠ 0 by omega)
  have hmod' := Int.emod_lt_of_pos x5 (show (0 : Int) < n by omega)
  have hmp := Int.emod_nonneg x6 (show ((l.length : Nat) : Int) ≠ 0 by omega)
  have hmp' := Int.emod_lt_of_pos x6 (show (0 : Int) < ((l.length : Nat) : Int) by omega)
  obtain ⟨k, hk⟩ := Int.eq_ofNat_of_zero_le (show 0 ≤ 1 + x5 % n by omega)
  obtain ⟨p, hp⟩ := Int.eq_ofNat_of_zero_le hmp
  have ek : w64 (1 + Int.tmod (w64 x5) n) = (k : Int) := by rw [tmod_byte h5.1 h5.2 (by omega), w64_in (by omega), hk]
  have ep : Int.tmod (w64 x6) ((l.length : Nat) : Int) = (p : Int) := by rw [tmod_byte h6.1 h6.2 (by omega), hp]
  have hk' : 1 ≤ k ∧ (k : Int) ≤ n := by omega
  have hpl : p < l.length := by omega
  have hd := dN_rng (w := w) hk'.1
  have hne : l ≠ [] := by intro e; rw [e] at hlen; simp at hlen; omega
  have e44 : f44_6 100 l = some l := by
    unfold f44_6
    rw [req_pos hne, req_pos (by simp; omega)]
    simp
  have e15 : f15 100 n w l (k : Int) (p : Int) = some (if mayS w l k p = 0 then (n, w, set2 l p (p + dN w k) k, 0) else (0, false, [], mayS w l k p)) := by
    rw [f15_eq (by omega)]
    unfold putS
    rw [if_pos (code_zero.2 v), if_pos (by omega), if_pos (by omega)]
    simp
  have eend : w64 ((p : Int) + (dN w k : Nat)) = (p : Int) + (dN w k : Nat) := w64_in (by omega)
  unfold f11
  simp only [show ((8 : Nat) : Int) = 8 from rfl] at hm
  rw [hm]
  simp only [Option.bind_some]
  rw [req_pos (by omega), req_pos (by omega), ek, ep, f37_eq (by omega), dist_nat]
  simp only [Option.bind_some, e44, e15, f46_eq (show l.length < 100 by omega) (show l.length ≤ 1000 by omega), f51_val v, f22_refl (show l.length < 100 by omega) (show l.length ≤ 1000 by omega)]
  have emay : ∀ (y1 : Bool) (y2 : Int) (y3 : Bool) (y4 : List Int) (y5 : Int), f11_p1 100 x5 n x6 l ((dN w k : Nat) : Int) l y5 (decide ((k : Int) ∈ l)) y1 y2 y3 y4 = some (mayS w l k p) := by
    intro y1 y2 y3 y4 y5
    unfold f11_p1 mayS
    by_cases g0 : posF 0 l (k : Int) = []
    · have : ¬ (k : Int) ∈ l := fun q => mem_iff_pos.1 q g0
      simp only [this, decide_false, Bool.false_eq_true, if_false, f11_p2, ep, eend, g0, ne_eq, not_true_eq_false]
      by_cases g1 : l.length ≤ p + dN w k
      · have g1' : (p : Int) + (dN w k : Nat) ≥ ((l.length : Nat) : Int) := by omega
        simp [g1, g1']
      · have g1' : ¬ (p : Int) + (dN w k : Nat) ≥ ((l.length : Nat) : Int) := by omega
        have b1 := v.inr _ (atv_mem hpl)
        have b2 := v.inr _ (atv_mem (show p + dN w k < l.length by omega))
        rw [if_neg (by simpa using g1'), at_atv hpl, show (p : Int) + (dN w k : Nat) = ((p + dN w k : Nat) : Int) by omega, at_atv (by omega), if_neg g1]
        simp only [Option.bind_some, f11_p3, fitB]
        by_cases q1 : atv l p = 0
        · by_cases q2 : atv l (p + dN w k) = 0
          · simp [q1, q2]; omega
          · have : atv l (p + dN w k) > 0 := by omega
            simp [q1, q2, this]
        · have : atv l p > 0 := by omega
          simp [q1, this]
    · have : (k : Int) ∈ l := mem_iff_pos.2 g0
      simp [g0, this]
  by_cases hmay : mayS w l k p = 0
  · obtain ⟨g0, gf, gl⟩ := may_zero hmay
    have v' := put_val v hk' g0 gf
    have hself := put_self v hk' g0 gf
    have hback := put_back v hk' g0 gf
    have hlen' : (set2 l p (p + dN w k) (k : Int)).length = l.length := set2_len _ _ _ _
    have a1 : atv (set2 l p (p + dN w k) (k : Int)) p = k := by rw [atv, get_set2 hpl gl]; simp
    have a2 : atv (set2 l p (p + dN w k) (k : Int)) (p + dN w k) = k := by rw [atv, get_set2 hpl gl]; simp
    have e23a : f23 100 n w (set2 l p (p + dN w k) (k : Int)) (p : Int) = some ((p : Int) + (dN w k : Nat), 0) := by
      rw [f23_eq (by omega)]
      unfold partS
      rw [if_pos (code_zero.2 v'), if_pos (by omega), Int.toNat_natCast, a1, if_neg (by omega), hself, dist_nat]
      simp only [List.headD_cons]
      congr 2; omega
    have e23b : f23 100 n w (set2 l p (p + dN w k) (k : Int)) ((p : Int) + (dN w k : Nat)) = some ((p : Int), 0) := by
      rw [f23_eq (by omega)]
      unfold partS
      rw [if_pos (code_zero.2 v'), if_pos (by omega), show Int.toNat ((p : Int) + (dN w k : Nat)) = p + dN w k by omega, a2, if_neg (by omega), hself, dist_nat]
      simp only [List.headD_cons]
      congr 2; omega
    have e17 : f17 100 n w (set2 l p (p + dN w k) (k : Int)) (k : Int) = some (n, w, l, 0) := by
      rw [f17_eq (by omega)]
      unfold takeS
      rw [if_pos (code_zero.2 v'), if_pos (by omega), hself]
      simp only [List.headD_cons, Int.toNat_natCast, hback]
      simp
    have e8 := fun a b c => f11_p8_eq (x5 := x5) (x6 := x6) (n := n) (l := l) (k := k) (p := p) (d := dN w k) ek ep (by omega) gl a b c l.length 0 100 (by omega) (by omega)
    simp only [Int.natCast_zero] at e8
    simp only [hmay, if_true, emay, bne_self_eq_false, Bool.false_eq_true, if_false, Option.bind_some, beq_self_eq_true, hlen', f51_val v', e8, ep, e23a, eend, e23b, e17, f48_val v', f46_eq (show (set2 l p (p + dN w k) (k : Int)).length < 100 by omega) (show (set2 l p (p + dN w k) (k : Int)).length ≤ 1000 by omega), f22_refl (show l.length < 100 by omega) (show l.length ≤ 1000 by omega), full_len, f14_true]
  · have hb : (mayS w l k p != 0) = true := by simpa using hmay
    simp only [hmay, if_false, emay, bne_self_eq_false, Bool.false_eq_true, Option.bind_some, hb, if_true, List.length_nil, Int.natCast_zero, beq_self_eq_true, f14_true]

end Go.Gh.Fan
