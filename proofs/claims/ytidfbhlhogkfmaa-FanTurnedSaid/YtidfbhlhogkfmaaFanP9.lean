/- The plain law of FanTurned. -/
import Derived.Test.YtidfbhlhogkfmaaFanM
import Derived.Test.YtidfbhlhogkfmaaFanP10
import Derived.Test.YtidfbhlhogkfmaaFanQ
import Derived.Test.YtidfbhlhogkfmaaFanX
namespace Go.Gh.Fan
set_option linter.unusedVariables false
set_option linter.unusedSimpArgs false

theorem atv_rev {l : List Int} {i : Nat} (h : i < l.length) : atv l.reverse i = atv l (l.length - 1 - i) := by
  unfold atv
  rw [List.getElem?_reverse h]

theorem mem_rev {l : List Int} {k x : Int} : x ∈ posF 0 l.reverse k ↔ ((l.length : Int) - 1 - x) ∈ posF 0 l k := by
  constructor
  · intro h
    obtain ⟨h1, h2⟩ := mem_pos.1 h
    have hlt := (List.getElem?_eq_some_iff.1 h2).1
    rw [List.length_reverse] at hlt
    rw [List.getElem?_reverse hlt] at h2
    exact mem_pos.2 ⟨by omega, by rwa [show ((l.length : Int) - 1 - x).toNat = l.length - 1 - x.toNat by omega]⟩
  · intro h
    obtain ⟨h1, h2⟩ := mem_pos.1 h
    have hlt := (List.getElem?_eq_some_iff.1 h2).1
    have h0 : 0 ≤ x := by
      have := posF_mem h
      omega
    refine mem_pos.2 ⟨h0, ?_⟩
    rw [List.getElem?_reverse (by omega)]
    rwa [show l.length - 1 - x.toNat = ((l.length : Int) - 1 - x).toNat by omega]

theorem pos_rev_nil {l : List Int} {k : Int} (h : posF 0 l k = []) : posF 0 l.reverse k = [] := by
  apply List.eq_nil_iff_forall_not_mem.2
  intro x hx
  have := mem_rev.1 hx
  rw [h] at this; cases this

theorem pos_rev_two {l : List Int} {k : Int} {a d : Nat} (hd : 1 ≤ d) (h : posF 0 l k = [(a : Int), ((a + d : Nat) : Int)]) (hl : a + d < l.length) :
    posF 0 l.reverse k = [((l.length - 1 - (a + d) : Nat) : Int), ((l.length - 1 - (a + d) + d : Nat) : Int)] := by
  apply sorted_ext (sorted_pos _ _ _)
  · simp; omega
  · intro x
    rw [mem_rev, h]
    simp only [List.mem_cons, List.not_mem_nil, or_false]
    omega

theorem rev_val {n : Int} {w : Bool} {l : List Int} (v : Val n w l) : Val n w l.reverse := by
  refine ⟨v.rng, by rw [List.length_reverse]; exact v.len, fun x hx => v.inr x (List.mem_reverse.1 hx), fun k h1 h2 => ?_⟩
  obtain ⟨k, rfl⟩ := Int.eq_ofNat_of_zero_le (show 0 ≤ k by omega)
  by_cases h0 : posF 0 l (k : Int) = []
  · rw [pos_rev_nil h0]; rfl
  · obtain ⟨a, e1, e2, _⟩ := v.both (by omega) h0
    have hd := dN_rng (w := w) (k := k) (by omega)
    rw [pos_rev_two hd.1 e1 e2]
    simp [errP, dist_nat]

theorem rev_Q {n : Int} {w : Bool} {l x : List Int} (h : Q n w l x) : Q n w l.reverse x.reverse := by
  obtain ⟨v, h0, hs⟩ := h
  have hl := hs.1
  refine ⟨rev_val v, pos_rev_nil h0, by simp [hl], fun i hi hn => ?_⟩
  rw [List.length_reverse] at hi
  rw [atv_rev hi] at hn ⊢
  rw [atv_rev (by omega), hl]
  exact hs.2 _ (by omega) hn

theorem rev_count {n : Int} {w : Bool} {l : List Int} (v : Val n w l) : (comp w n.toNat l.reverse).length = (comp w n.toNat l).length := by
  have key : ∀ {l : List Int}, Val n w l → (comp w n.toNat l).length ≤ (comp w n.toNat l.reverse).length := by
    intro l v
    have hn : ((comp w n.toNat l).map List.reverse).Nodup := by
      refine List.Pairwise.map _ (fun a b h e => h ?_) (all_nodup v)
      rw [← List.reverse_reverse a, e, List.reverse_reverse]
    have := hn.length_le_of_subset (l₂ := comp w n.toNat l.reverse) fun x hx => by
      obtain ⟨y, hy, rfl⟩ := List.mem_map.1 hx
      exact (all_mem (rev_val v)).2 (rev_Q ((all_mem v).1 hy))
    simpa using this
  have h1 := key v
  have h2 := key (rev_val v)
  rw [List.reverse_reverse] at h2
  omega

theorem rev_cross {n : Int} {w : Bool} {l : List Int} (v : Val n w l) {k j : Nat} (hk : 1 ≤ k ∧ (k : Int) ≤ n) (hj : 1 ≤ j ∧ (j : Int) ≤ n) (h0 : posF 0 l (k : Int) ≠ []) :
    crossB w l.reverse k j = crossB w l k j := by
  obtain ⟨a, e1, e2, _⟩ := v.both hk h0
  have hd := dN_rng (w := w) hk.1
  have hdj := dN_rng (w := w) hj.1
  have c1 := cross_iff v hk hj e1
  have c2 := cross_iff (rev_val v) hk hj (pos_rev_two hd.1 e1 e2)
  rw [Bool.eq_iff_iff, c1, c2]
  by_cases g : posF 0 l (j : Int) = []
  · rw [pos_rev_nil g, g]
    constructor
    · rintro ⟨_, q, _⟩; cases q
    · rintro ⟨_, q, _⟩; cases q
  · obtain ⟨c, u1, u2, _⟩ := v.both hj g
    rw [pos_rev_two hdj.1 u1 u2, u1]
    constructor
    · rintro ⟨c', q1, q2⟩
      refine ⟨c, rfl, ?_⟩
      have : c' = l.length - 1 - (c + dN w j) := by simp at q1; omega
      omega
    · rintro ⟨c', q1, q2⟩
      refine ⟨l.length - 1 - (c + dN w j), rfl, ?_⟩
      have : c' = c := by simp at q1; omega
      omega

theorem rev_crs {n : Int} {w : Bool} {l : List Int} (v : Val n w l) {k : Nat} (hk : 1 ≤ k ∧ (k : Int) ≤ n) (h0 : posF 0 l (k : Int) ≠ []) : ∀ (m j : Nat), 1 ≤ j → (j : Int) + m ≤ n + 1 → crs w l.reverse k m j = crs w l k m j
  | 0, _, _, _ => rfl
  | m + 1, j, h1, h2 => by
    simp only [crs]
    rw [rev_cross v hk ⟨h1, by omega⟩ h0, rev_crs v hk h0 m (j + 1) (by omega) (by omega)]

theorem rev_crossS {n : Int} {w : Bool} {l : List Int} (v : Val n w l) (k : Int) : crossS n w l.reverse k = crossS n w l k := by
  unfold crossS
  rw [code_zero.2 v, code_zero.2 (rev_val v)]
  by_cases h1 : 1 ≤ k ∧ k ≤ n
  · obtain ⟨k, rfl⟩ := Int.eq_ofNat_of_zero_le (show 0 ≤ k by omega)
    by_cases h0 : posF 0 l (k : Int) = []
    · simp [h0, pos_rev_nil h0]
    · obtain ⟨a, e1, e2, _⟩ := v.both (by omega) h0
      have hd := dN_rng (w := w) (k := k) (by omega)
      have hr : posF 0 l.reverse (k : Int) ≠ [] := by rw [pos_rev_two hd.1 e1 e2]; simp
      simp only [h0, hr, if_false, Int.toNat_natCast]
      rw [rev_crs v (by omega) h0 n.toNat 1 (by omega) (by have := v.rng; omega)]
  · simp [h1]

theorem f47_val {n : Int} {w : Bool} {l : List Int} (v : Val n w l) : f47 100 n w l = some (n, w, l.reverse, 0) := by
  have hr := v.rng
  have hlen := v.len
  obtain ⟨m, rfl⟩ := Int.eq_ofNat_of_zero_le (show 0 ≤ n by omega)
  have hne : l ≠ [] := by intro e; subst e; simp at hlen; omega
  unfold f47
  rw [f57_eq (by omega) (by omega), if_pos (code_zero.2 v)]
  simp only [Option.bind_some, bne_self_eq_false, f62_1, f59]
  rw [w64_in (n := 2 * (m : Int)) (by omega), show 2 * (m : Int) = ((l.length : Nat) : Int) by omega, Int.toNat_natCast, Nat.zero_add, row_take (by omega)]
  rw [req_pos (by omega)]
  simp only [List.drop_zero, f44_2]
  rw [req_pos hne, req_pos (by simp; omega)]
  simp only [Option.bind_some, List.nil_append]
  rw [req_pos (by rw [tab_len]; omega)]
  simp only [Option.bind_some, Bool.false_eq_true, if_false]
  rw [f76_eq (by omega) (by omega)]
  simp only [Option.bind_some]
  rw [req_pos (by simp)]
  have : List.take (0 + l.length) l.reverse = l.reverse := by rw [Nat.zero_add, List.take_of_length_le (by simp)]
  rw [this]

theorem f9_p2_eq {F : Nat} {l : List Int} (hl : l.length ≤ 100) (a : Int) (b : Bool) (c : Int) (d : Bool) : ∀ (m i f : Nat), m < f → i + m = l.length → f9_p2 F l a b c d l.reverse f i = some .c1
  | 0, i, f + 1, _, hi => by
    obtain rfl : i = l.length := by omega
    simp [f9_p2]
  | m + 1, i, f + 1, hf, hi => by
    have hlt : (i : Int) < ((l.length : Nat) : Int) := by omega
    simp only [f9_p2, decide_eq_true hlt, if_true, List.length_reverse]
    rw [at_atv (by omega), w64_in (n := (l.length : Int) - 1) (by omega), w64_in (n := (l.length : Int) - 1 - i) (by omega), show (l.length : Int) - 1 - i = ((l.length - 1 - i : Nat) : Int) by omega]
    rw [at_atv (l := l.reverse) (by rw [List.length_reverse]; omega), atv_rev (by omega), show l.length - 1 - (l.length - 1 - i) = i by omega, w64_nat (by omega), f9_p2_eq hl a b c d m (i + 1) f (by omega) (by omega)]
    simp

theorem f9_p8_eq {n : Int} {w : Bool} {l : List Int} (v : Val n w l) : ∀ (m k f : Nat), m < f → 1 ≤ k → (k : Int) + m = n + 1 → f9_p8 100 n w l n w l.reverse f k = some .c1
  | 0, k, f + 1, _, _, hk => by
    have : ¬ (k : Int) ≤ n := by omega
    simp [f9_p8, this]
  | m + 1, k, f + 1, hf, h1, hk => by
    have hr := v.rng
    have hlen := v.len
    have hlt : (k : Int) ≤ n := by omega
    have hc : (crossS n w l k).1.length ≤ 60 := by
      unfold crossS
      have := crs_len w l k n.toNat 1
      split
      · split
        · split
          · simp
          · simp only [Int.toNat_natCast]; omega
        · simp
      · simp
    simp only [f9_p8, decide_eq_true hlt, if_true]
    rw [f27_eq (by omega), f27_eq (by rw [List.length_reverse]; omega), rev_crossS v, w64_nat (by omega), f9_p8_eq v m (k + 1) f (by omega) (by omega) (by omega)]
    simp [f22_refl (F := 100) (l := (crossS n w l k).1) (by omega) (by omega)]

theorem f9_plain (x1 : Int) (w : Bool) (ps : List Int) (x4 : Int) (h1 : 0 ≤ x1 ∧ x1 ≤ 255) (hps : ps.length = 8) (hb : ∀ x ∈ ps, 0 ≤ x ∧ x ≤ 255) : f9 100 x1 w ps x4 = some true := by
  obtain ⟨n, l, hm, v, hn⟩ := f43_eq h1 w hps hb x4 (m := 7) (by omega)
  have hr := v.rng
  have hlen := v.len
  have v' := rev_val v
  have e2 := f9_p2_eq (F := 100) (l := l) (by omega) n w n w l.length 0 100 (by omega) (by omega)
  have e8 := f9_p8_eq v n.toNat 1 100 (by omega) (by omega) (by omega)
  simp only [Int.natCast_zero] at e2
  simp only [Int.natCast_one] at e8
  simp only [show ((7 : Nat) : Int) = 7 from rfl] at hm
  unfold f9
  rw [hm]
  simp only [Option.bind_some]
  rw [f47_val v]
  simp only [Option.bind_some]
  rw [e2, f47_val v', f35_eq v, f35_eq v', rev_count v, e8]
  simp [f14_true, f22_refl (F := 100) (l := l) (by omega) (by omega)]

end Go.Gh.Fan
