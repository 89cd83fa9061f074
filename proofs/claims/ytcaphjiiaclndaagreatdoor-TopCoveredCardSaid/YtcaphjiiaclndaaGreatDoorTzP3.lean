/- The plain law of TopCovered. -/
import Derived.Test.YtcaphjiiaclndaaGreatDoorTzB3
namespace Go.Gh.Tz
set_option linter.unusedVariables false
set_option linter.unusedSimpArgs false
set_option maxRecDepth 100000

theorem near_self (n i : Nat) : near n i i = true := by simp [near]
theorem near_iff {n x i : Nat} : near n x i = true ↔ x = i ∨ ∃ k, k < n ∧ x ^^^ 2 ^ k = i := by
 unfold near
 simp only [Bool.or_eq_true, beq_iff_eq, List.any_eq_true, List.mem_range]

section
variable {F n : Nat} {w : List Nat} (T : Tb F) (h1 : 1 ≤ n) (h4 : n ≤ 4) (hw : Code n w)
include T h1 h4 hw

theorem trays_eq {a1 : Int} (hx : w64 (1 + (Int.tmod (w64 a1) 4)) = n) {a4 a3 : List Int} {a6 : Int} : f3_p6 F a1 a4 (cst w) a3 a6 F 0 n [] = some (.c1 n (w.map bt)) := by
 have hF := T.big
 have hlen := hw.len h4
 obtain ⟨s1, s2⟩ := sh h4
 have key : ∀ (k i : Nat), i ≤ w.length → w.length < k + i → f3_p6 F a1 a4 (cst w) a3 a6 k i n ((w.take i).map bt) = some (.c1 n (w.map bt)) := by
  intro k
  induction k with
  | zero => intro i _ h; omega
  | succ k ih =>
   intro i g1 g2
   unfold f3_p6
   rw [hx, s1]
   by_cases hi : i < w.length
   ·have hxi := hw.lt _ (List.getElem_mem hi)
    have e2 : (w.take i).map bt ++ [bt w[i]] = (w.take (i + 1)).map bt := by
     rw [List.take_succ_eq_append_getElem hi, List.map_append]; rfl
    rw [if_pos (by rw [cst_len, decide_eq_true_eq]; omega), cst_at hi, Option.bind_some, if_neg (by rw [decide_eq_true_eq]; omega), req_pos (by omega), if_neg (by rw [decide_eq_true_eq]; omega), T.held n _ h1 h4 hxi, Option.bind_some, req_pos (by simp; omega), w64_succ (by omega), e2]
    exact ih (i + 1) (by omega) (by omega)
   ·rw [if_neg (by rw [cst_len, decide_eq_true_eq]; omega), List.take_of_length_le (by omega)]
 exact key F 0 (by omega) (by omega)

theorem covers {a1 : Int} (hx : w64 (1 + (Int.tmod (w64 a1) 4)) = n) {lo hi : List (List Int)} (hlo : lo.length ≤ 16 ∧ (∀ x ∈ lo, x.length ≤ 100) ∧ ∀ i, i < 2 ^ n → (bt i ∈ lo ↔ ∃ x ∈ w, ∃ k, k < n ∧ i = x ^^^ 2 ^ k ∧ decide (x < i) = false))
  (hhi : hi.length ≤ 16 ∧ (∀ x ∈ hi, x.length ≤ 100) ∧ ∀ i, i < 2 ^ n → (bt i ∈ hi ↔ ∃ x ∈ w, ∃ k, k < n ∧ i = x ^^^ 2 ^ k ∧ decide (x < i) = true)) {a4 a3 : List Int} {a6 a20 : Int} :
  f3_p12 F a1 a4 (cst w) lo hi (tab (2 ^ n) (fun i => cnt n i w)) (cst (bare n w (2 ^ n))) a3 a6 a20 (w.map bt) F 0 = some .c1 := by
 have hF := T.big
 have hlen := hw.len h4
 have hp4 := pow_le h4
 obtain ⟨s1, s2⟩ := sh h4
 have hbl : (cst (bare n w (2 ^ n))).length ≤ 100 := by
  rw [cst_len]
  have : (bare n w (2 ^ n)).length ≤ 2 ^ n := Nat.le_trans (List.length_filter_le _ _) (by simp)
  omega
 have hts : ∀ x ∈ w.map bt, x.length ≤ 100 := fun x hx => by
  obtain ⟨y, _, rfl⟩ := List.mem_map.1 hx
  have := bt_small y
  omega
 have key : ∀ (k i : Nat), i ≤ 2 ^ n → 2 ^ n < k + i → f3_p12 F a1 a4 (cst w) lo hi (tab (2 ^ n) (fun i => cnt n i w)) (cst (bare n w (2 ^ n))) a3 a6 a20 (w.map bt) k i = some .c1 := by
  intro k
  induction k with
  | zero => intro i _ h; omega
  | succ k ih =>
   intro i g1 g2
   unfold f3_p12
   rw [hx, s1]
   by_cases hi2 : i < 2 ^ n
   ·-- covered
    have hcov : ∀ a26 a28 : List Int, f3_r28 F a1 a4 (cst w) lo hi a26 a28 i a3 a6 a20 (w.map bt) (bt i) = some (decide (0 < cnt n i w)) := by
     intro a26 a28
     have hz : (bt i ∈ w.map bt ∨ bt i ∈ lo ∨ bt i ∈ hi) ↔ 0 < cnt n i w := by
      rw [cnt_pos h4 hw hi2, hlo.2.2 i hi2, hhi.2.2 i hi2, List.mem_map]
      constructor
      ·rintro (⟨x, x1, x2⟩ | ⟨x, x1, k, k1, k2, _⟩ | ⟨x, x1, k, k1, k2, _⟩)
       ·exact ⟨x, x1, near_iff.2 (Or.inl ((ar h4 (hw.lt x x1) hi2).inj x2))⟩
       ·exact ⟨x, x1, near_iff.2 (Or.inr ⟨k, k1, k2.symm⟩)⟩
       ·exact ⟨x, x1, near_iff.2 (Or.inr ⟨k, k1, k2.symm⟩)⟩
      ·rintro ⟨x, x1, x2⟩
       rcases near_iff.1 x2 with rfl | ⟨k, k1, k2⟩
       ·exact Or.inl ⟨x, x1, rfl⟩
       ·by_cases hlt : x < i
        ·exact Or.inr (Or.inr ⟨x, x1, k, k1, k2.symm, decide_eq_true hlt⟩)
        ·exact Or.inr (Or.inl ⟨x, x1, k, k1, k2.symm, decide_eq_false hlt⟩)
     unfold f3_r28
     rw [take0, any_eq hF (by rw [List.length_map]; omega) hts, Option.bind_some]
     by_cases c1 : bt i ∈ w.map bt
     ·rw [decide_eq_true c1, if_pos rfl, decide_eq_true (hz.1 (Or.inl c1))]
     ·rw [decide_eq_false c1, if_neg (by decide), any_eq hF (by omega) hlo.2.1, Option.bind_some]
      by_cases c2 : bt i ∈ lo
      ·rw [decide_eq_true c2, if_pos rfl, decide_eq_true (hz.1 (Or.inr (Or.inl c2)))]
      ·rw [decide_eq_false c2, if_neg (by decide), any_eq hF (by omega) hhi.2.1, Option.bind_some]
       by_cases c3 : bt i ∈ hi
       ·rw [decide_eq_true c3, decide_eq_true (hz.1 (Or.inr (Or.inr c3)))]
       ·rw [decide_eq_false c3, decide_eq_false fun h => by
         rcases hz.2 h with h | h | h
         ·exact c1 h
         ·exact c2 h
         ·exact c3 h]
    have hc0 := (cnt_bd n i w).1
    have hb : ((i : Nat) : Int) ∈ cst (bare n w (2 ^ n)) ↔ ¬ 0 < cnt n i w := by
     rw [cst_mem]
     unfold bare
     rw [List.mem_filter, List.mem_range, decide_eq_true_eq]
     constructor
     ·rintro ⟨_, h⟩; omega
     ·intro h; exact ⟨hi2, by omega⟩
    rw [if_pos (by rw [decide_eq_true_eq]; omega), T.held n i h1 h4 hi2, Option.bind_some, hcov, Option.bind_some, count_eq hF h4 hw hi2, Option.bind_some, tab_at _ hi2, Option.bind_some, in_eq hF hbl, Option.bind_some, w64_succ (by omega)]
    have c1 : (decide (0 < cnt n i w) == decide (cnt n i w > 0)) = true := by simp
    have c2 : ¬ ((cnt n i w != cnt n i w) = true) := by simp
    have c3 : ¬ ((decide (((i : Nat) : Int) ∈ cst (bare n w (2 ^ n))) == decide (0 < cnt n i w)) = true) := by
     rw [beq_iff_eq]
     by_cases hp : 0 < cnt n i w
     ·rw [decide_eq_true hp, decide_eq_false (fun h => hb.1 h hp)]; decide
     ·rw [decide_eq_false hp, decide_eq_true (hb.2 hp)]; decide
    rw [if_pos c1, if_neg c2, if_neg c3]
    exact ih (i + 1) (by omega) (by omega)
   ·rw [if_neg (by rw [decide_eq_true_eq]; omega)]
 exact key F 0 (Nat.zero_le _) (by omega)
end

theorem codes {F n : Nat} {u v : List Nat} (T : Tb F) (h1 : 1 ≤ n) (h4 : n ≤ 4) (hu : Code n u) (hv : Code n v) {a1 : Int} (hx : w64 (1 + (Int.tmod (w64 a1) 4)) = n) : f3_p2 F a1 (cst v) (cst u) F 0 = some .c1 := by
 have hF := T.big
 obtain ⟨s1, s2⟩ := sh h4
 have step : ∀ (w : List Nat), Code n w → ∀ (k : Nat) (j : Nat), j < 2 → at? [cst u, cst v] (j : Int) = some (cst w) → f3_p2 F a1 (cst v) (cst u) (k + 1) j = f3_p2 F a1 (cst v) (cst u) k ((j + 1 : Nat) : Int) := by
  intro w hw k j hj he
  obtain ⟨lo, e1, l1, l2, l3⟩ := near_lists T h1 h4 hw false
  obtain ⟨hi, e2, k1, k2, k3⟩ := near_lists T h1 h4 hw true
  rw [if_neg (by decide)] at e1
  rw [if_pos rfl] at e2
  have hc := covers T h1 h4 hw hx ⟨l1, l2, l3⟩ ⟨k1, k2, k3⟩ (a4 := cst v) (a3 := cst u) (a6 := (j : Int)) (a20 := (n : Int))
  rw [f3_p2]
  rw [hx, s1, if_pos (by rw [decide_eq_true_eq]; simp; omega), he, Option.bind_some, trays_eq T h1 h4 hw hx, Option.bind_some]
  dsimp only
  rw [take0, e1, Option.bind_some]
  dsimp only
  rw [e2, Option.bind_some]
  dsimp only
  rw [f9_eq hF h4 h1 hw, Option.bind_some]
  dsimp only
  rw [f10_eq hF h4 h1 hw, Option.bind_some]
  dsimp only
  rw [if_neg (by decide), if_neg (by decide), if_neg (by decide), if_neg (by decide), req_pos (by omega), if_neg (by rw [tab_len]; simp), hc, Option.bind_some, w64_succ (by omega)]
 obtain ⟨k, hk⟩ : ∃ k, F = k + 1 + 1 + 1 := ⟨F - 3, by omega⟩
 have e0 := step u hu (k + 1 + 1) 0 (by omega) rfl
 have e1 := step v hv (k + 1) 1 (by omega) rfl
 rw [← hk] at e0
 rw [show f3_p2 F a1 (cst v) (cst u) F 0 = _ from e0, show f3_p2 F a1 (cst v) (cst u) (k + 1 + 1) ((0 + 1 : Nat) : Int) = _ from e1, f3_p2]
 rw [if_neg (by rw [decide_eq_true_eq]; simp)]

def bit (v : Int) (k : Nat) : Bool := (iAnd .i64 (iShr .i64 v k) 1) == 1
def held (v : Int) (m : Nat) : List Nat := (List.range m).filter (bit v)
theorem held_eq {F : Nat} {v : Int} (hF : 200 ≤ F) : f5 F v 16 = some (cst (held v 16)) := by
 have hl : ∀ m, (held v m).length ≤ m := fun m => Nat.le_trans (List.length_filter_le _ _) (by simp)
 have key : ∀ (k m : Nat), m ≤ 16 → 16 < k + m → f5_p1 F v 16 k m (cst (held v m)) = some (cst (held v 16)) := by
  intro k
  induction k with
  | zero => intro m _ h; omega
  | succ k ih =>
   intro m g1 g2
   unfold f5_p1
   by_cases hm : m < 16
   ·have hb := hl m
    have e3 : f5_p4_1 F v (cst (held v m)) m 16 = some (cst (held v (m + 1))) := by
     have e2 : held v (m + 1) = if bit v m = true then held v m ++ [m] else held v m := by
      unfold held
      rw [List.range_succ, List.filter_append]
      by_cases hc : bit v m = true
      ·rw [if_pos hc]; simp [hc]
      ·rw [if_neg hc]; simp [hc]
     unfold f5_p4_1
     rw [e2]
     by_cases hc : bit v m = true
     ·rw [if_pos hc, if_pos (show ((iAnd .i64 (iShr .i64 v m) 1) == 1) = true from hc), req_pos (by rw [cst_len]; simp; omega), cst_app]; rfl
     ·rw [if_neg hc, if_neg (show ¬ ((iAnd .i64 (iShr .i64 v m) 1) == 1) = true from hc)]
    rw [if_pos (by rw [decide_eq_true_eq]; omega), req_pos (by omega), e3, Option.bind_some, w64_succ (by omega)]
    exact ih (m + 1) (by omega) (by omega)
   ·rw [if_neg (by rw [decide_eq_true_eq]; omega), show m = 16 by omega]
 have e := key F 0 (by omega) (by omega)
 unfold f5
 rw [show f5_p1 F v 16 F 0 [] = _ from e, Option.bind_some, take0]
theorem held_code {v : Int} {n : Nat} (h0 : 0 ≤ v) (hv : v < ((2 ^ (2 ^ n) : Nat) : Int)) : Code n (held v 16) := by
 refine ⟨(List.pairwise_lt_range).filter _, fun x hx => ?_⟩
 obtain ⟨h1, h2⟩ := List.mem_filter.1 hx
 rw [List.mem_range] at h1
 false_or_by_contra
 rename_i hh
 have hp : 2 ^ (2 ^ n) ≤ 2 ^ x := Nat.pow_le_pow_right (by omega) (by omega)
 have e : iShr .i64 v (x : Int) = 0 := by
  unfold iShr
  rw [Int.toNat_natCast, show min x (IntKind.bits .i64) = x by show min x 64 = x; omega, Int.fdiv_eq_ediv_of_nonneg _ (by exact Int.le_of_lt (Int.pow_pos (by omega)))]
  refine Int.ediv_eq_zero_of_lt h0 ?_
  have : ((2 ^ x : Nat) : Int) = (2 : Int) ^ x := by rw [Int.natCast_pow]; rfl
  omega
 unfold bit at h2
 rw [e] at h2
 revert h2; decide

theorem sh2_look : ((List.range 5).all fun n => decide (1 ≤ n → (0 : Int) ≤ iShl .u64 1 (n : Nat) ∧ iShl .i64 1 (iShl .u64 1 (n : Nat)) = ((2 ^ (2 ^ n) : Nat) : Int))) = true := by decide +kernel
theorem sh2 {n : Nat} (h1 : 1 ≤ n) (h4 : n ≤ 4) : (0 : Int) ≤ iShl .u64 1 n ∧ iShl .i64 1 (iShl .u64 1 n) = ((2 ^ (2 ^ n) : Nat) : Int) := by
 have := (List.all_eq_true.1 sh2_look) n (List.mem_range.2 (by omega))
 exact (of_decide_eq_true this) h1
def best : Nat → List Nat
 | 1 => [0] | 2 => [0, 1] | 3 => [0, 7] | _ => [0, 1, 14, 15]
theorem best_look : ((List.range 5).all fun n => decide (1 ≤ n → f6 FF n = some (cst (best n), 0) ∧ (best n).Pairwise (· < ·) ∧ (∀ x ∈ best n, x < 2 ^ n) ∧ f10 FF n (cst (best n)) = some ([], 0))) = true := by decide +kernel
theorem tbFF : Tb FF := tb_of (by decide) (by decide +kernel) (by decide +kernel) (by decide +kernel)
theorem works : f15 FF = some true := by decide +kernel

theorem f3_core {F : Nat} (T : Tb F) (hb : ∀ n : Nat, 1 ≤ n → n ≤ 4 → f6 F n = some (cst (best n), 0) ∧ Code n (best n) ∧ f10 F n (cst (best n)) = some ([], 0)) (ew : f15 F = some true) (a b : Int) (ha : 0 ≤ a ∧ a ≤ 255) (hb2 : 0 ≤ b ∧ b ≤ 65535) : f3 F a b = some true := by
 have hF := T.big
 obtain ⟨n, en, n1, n4⟩ : ∃ n : Nat, w64 (1 + (Int.tmod (w64 a) 4)) = n ∧ 1 ≤ n ∧ n ≤ 4 := by
  refine ⟨(1 + a % 4).toNat, ?_, by omega, by omega⟩
  rw [w64_in (n := a) (by omega), Int.tmod_eq_emod_of_nonneg (by omega), w64_in (by omega)]; omega
 obtain ⟨s1, s2⟩ := sh2 n1 n4
 obtain ⟨g1, g2, g3⟩ := hb n n1 n4
 have hpos : (0 : Int) < ((2 ^ (2 ^ n) : Nat) : Int) := by
  have : 0 < 2 ^ (2 ^ n) := Nat.pow_pos (by omega)
  omega
 have hv : Code n (held (Int.tmod (w64 b) ((2 ^ (2 ^ n) : Nat) : Int)) 16) := by
  refine held_code ?_ ?_
  ·rw [w64_in (by omega), Int.tmod_eq_emod_of_nonneg (by omega)]; exact Int.emod_nonneg _ (by omega)
  ·rw [w64_in (by omega), Int.tmod_eq_emod_of_nonneg (by omega)]; exact Int.emod_lt_of_pos _ hpos
 have hc := codes T n1 n4 hv g2 en
 unfold f3
 rw [en, s2, req_pos (by omega), req_pos s1, req_pos (by omega), held_eq hF, Option.bind_some, g1, Option.bind_some]
 dsimp only
 rw [if_neg (by decide), hc, Option.bind_some]
 dsimp only
 rw [g3, Option.bind_some]
 dsimp only
 rw [if_pos (by decide), if_pos (by decide), ew]
 rfl
theorem f3_plain (a b : Int) (ha : 0 ≤ a ∧ a ≤ 255) (hb : 0 ≤ b ∧ b ≤ 65535) : f3 FF a b = some true := by
 refine f3_core tbFF (fun n n1 n4 => ?_) works a b ha hb
 have := (List.all_eq_true.1 best_look) n (List.mem_range.2 (by omega))
 obtain ⟨h1, h2, h3, h4⟩ := (of_decide_eq_true this) n1
 exact ⟨h1, ⟨h2, h3⟩, h4⟩

end Go.Gh.Tz
