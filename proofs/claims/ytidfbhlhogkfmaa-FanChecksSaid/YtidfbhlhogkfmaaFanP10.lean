/- The plain law of FanChecks. -/
import Derived.Test.YtidfbhlhogkfmaaFanU
namespace Go.Gh.Fan
set_option linter.unusedVariables false
set_option linter.unusedSimpArgs false

theorem rev_eq (F N : Nat) (hN : N ≤ 1000) : ∀ (f : Nat) (a m b : List Int), m.length ≤ 2 * f + 1 → a.length = b.length → a.length + m.length + b.length = N →
    f76_p1 F 0 N (f + 1) a.length ((a.length : Int) + m.length - 1) (a ++ m ++ b) = some (a ++ m.reverse ++ b) := by
  intro f
  induction f with
  | zero =>
    intro a m b h1 h2 h3
    have : ¬ (a.length : Int) < (a.length : Int) + m.length - 1 := by omega
    have e : m.reverse = m := by
      match m, h1 with
      | [], _ => rfl
      | [x], _ => rfl
    simp only [f76_p1, this, decide_false, e]
    simp
  | succ f ih =>
    intro a m b h1 h2 h3
    by_cases hm : m.length ≤ 1
    · have : ¬ (a.length : Int) < (a.length : Int) + m.length - 1 := by omega
      have e : m.reverse = m := by
        match m, hm with
        | [], _ => rfl
        | [x], _ => rfl
      simp only [f76_p1, this, decide_false, e]
      simp
    · obtain ⟨x, c, y, rfl⟩ : ∃ x c y, m = x :: (c ++ [y]) := by
        match m, hm with
        | [], h => simp at h
        | [x], h => simp at h
        | x :: z :: r, _ =>
          refine ⟨x, (z :: r).dropLast, (z :: r).getLast (by simp), ?_⟩
          rw [List.dropLast_concat_getLast]
      simp only [List.length_cons, List.length_append, List.length_nil] at h1 h3 hm
      have hlt : (a.length : Int) < (a.length : Int) + ((x :: (c ++ [y])).length : Nat) - 1 := by simp; omega
      have ej : (a.length : Int) + ((x :: (c ++ [y])).length : Nat) - 1 = ((a.length + c.length + 1 : Nat) : Int) := by simp; omega
      have g1 : (a ++ (x :: (c ++ [y])) ++ b)[0 + (a.length + c.length + 1)]? = some y := by
        rw [Nat.zero_add, List.append_assoc, List.getElem?_append_right (by omega)]
        simp [show a.length + c.length + 1 - a.length = c.length + 1 by omega]
      have g2 : (a ++ (x :: (c ++ [y])) ++ b)[0 + a.length]? = some x := by
        rw [Nat.zero_add, List.append_assoc, List.getElem?_append_right (by omega)]
        simp
      have s1 : (a ++ (x :: (c ++ [y])) ++ b).set (0 + a.length) y = a ++ (y :: (c ++ [y])) ++ b := by
        rw [Nat.zero_add, List.append_assoc, List.set_append_right _ _ (by omega)]
        simp
      have s2 : (a ++ (y :: (c ++ [y])) ++ b).set (0 + (a.length + c.length + 1)) x = (a ++ [y]) ++ c ++ (x :: b) := by
        rw [Nat.zero_add, List.append_assoc, List.set_append_right _ _ (by omega)]
        simp [show a.length + c.length + 1 - a.length = c.length + 1 by omega]
      have ih := ih (a ++ [y]) c (x :: b) (by omega) (by simp; omega) (by simp; omega)
      rw [f76_p1]
      simp only [decide_eq_true hlt, if_true]
      rw [ej]
      simp only [Int.toNat_natCast, g1, g2, s1, s2, Option.bind_some]
      rw [req_pos (by omega), req_pos (by omega), req_pos (by simp), req_pos (by simp; omega), w64_in (n := (a.length : Int) + 1) (by omega), w64_in (n := ((a.length + c.length + 1 : Nat) : Int) - 1) (by omega)]
      rw [show (a.length : Int) + 1 = ((a ++ [y]).length : Nat) by simp, show ((a.length + c.length + 1 : Nat) : Int) - 1 = ((a ++ [y]).length : Nat) + (c.length : Int) - 1 by simp only [List.length_append, List.length_singleton]; omega, ih]
      simp

theorem f76_eq {F : Nat} {l : List Int} (hF : l.length < F) (hl : l.length ≤ 1000) : f76 F 0 l.length l = some l.reverse := by
  obtain ⟨G, rfl⟩ : ∃ G, F = G + 1 := ⟨F - 1, by omega⟩
  have := rev_eq (G + 1) l.length hl G [] l [] (by omega) rfl (by simp)
  simp only [List.nil_append, List.append_nil, List.length_nil] at this
  unfold f76
  rw [w64_in (n := (l.length : Int) - 1) (by omega)]
  rw [show ((0 : Nat) : Int) + (l.length : Int) - 1 = (l.length : Int) - 1 by omega] at this
  simp only [Int.natCast_zero] at this
  rw [this]; rfl

theorem f50_p2_eq (F : Nat) (n : Int) (w : Bool) (l : List Int) (hl : l.length ≤ 1000) (a : Int) (b : Bool) : ∀ (i f : Nat) (out : List Int), i < f → i ≤ l.length → out.length + i ≤ 1000 →
    f50_p2 F n w l f ((i : Int) - 1) a b out = some (a, b, out ++ (l.take i).reverse)
  | 0, f + 1, out, _, _, _ => by simp [f50_p2]
  | i + 1, f + 1, out, hf, hi, ho => by
    have hge : (((i + 1 : Nat) : Int) - 1) ≥ 0 := by omega
    have e : ((i + 1 : Nat) : Int) - 1 = (i : Int) := by omega
    have hx : l[i]? = some l[i] := List.getElem?_eq_getElem (by omega)
    have ih := f50_p2_eq F n w l hl a b i f (out ++ [l[i]]) (by omega) (by omega) (by simp; omega)
    simp only [f50_p2, decide_eq_true hge, if_true]
    rw [e, at_of hx]
    simp only [Option.bind_some]
    rw [req_pos (by simp; omega), w64_in (n := (i : Int) - 1) (by omega), ih, show List.take (i + 1) l = List.take i l ++ [l[i]] by rw [List.take_add_one, hx]; rfl, List.reverse_append]
    simp

theorem row_take {l : List Int} (h : l.length ≤ 16) : List.take l.length (tab 16 (atv l)) = l := by
  apply List.ext_getElem?
  intro i
  rw [List.getElem?_take]
  split
  · rw [tab_get (by omega), atv, List.getElem?_eq_getElem (by omega)]; rfl
  · rw [List.getElem?_eq_none (by omega)]

theorem fst_none {l : List Int} {k : Nat} : fstv l k = -1 ↔ posF 0 l k = [] := by
  unfold fstv
  cases h : posF 0 l k with
  | nil => simp
  | cons y ys =>
    have := posF_mem (l := l) (i := 0) (j := y) (k := k) (by rw [h]; simp)
    simp only [List.headD_cons]
    constructor
    · intro e; omega
    · intro e; cases e

theorem mem_firsts {f : Nat → Int} {n : Nat} (hn : n ≤ 8) : (-1 : Int) ∈ List.drop 1 (List.take (1 + (n + 1 - 1)) (tab 9 f)) ↔ ∃ k, 1 ≤ k ∧ k ≤ n ∧ f k = -1 := by
  rw [List.mem_iff_getElem?]
  constructor
  · rintro ⟨i, h⟩
    rw [List.getElem?_drop, List.getElem?_take] at h
    split at h
    · rw [tab_get (by omega)] at h
      exact ⟨1 + i, by omega, by omega, by simpa using h⟩
    · cases h
  · rintro ⟨k, h1, h2, h3⟩
    refine ⟨k - 1, ?_⟩
    rw [List.getElem?_drop, List.getElem?_take, if_pos (by omega), tab_get (by omega)]
    rw [show 1 + (k - 1) = k by omega, h3]

theorem f48_eq {l : List Int} (hl : l.length ≤ 60) (n : Int) (w : Bool) : f48 100 n w l = f49 100 n w l := by
  unfold f48 f49
  rw [f57_eq (by omega) (by omega), f52_eq (by omega) (by omega)]
  by_cases h : code n w l = 0
  · have v := code_zero.1 h
    obtain ⟨m, rfl⟩ := Int.eq_ofNat_of_zero_le (show 0 ≤ n by have := v.rng; omega)
    have hr := v.rng
    have hlen := v.len
    rw [if_pos h, h]
    simp only [Option.bind_some, bne_self_eq_false]
    rw [w64_nat (show m < 1000000 by omega), Int.toNat_natCast, req_pos (by omega), f46_eq (by simp [tab]; omega) (by simp [tab]; omega)]
    simp only [Option.bind_some, Bool.false_eq_true, if_false]
    rw [req_pos (by rw [tab_len]; omega), f64_eq (by omega) (by omega)]
    simp only [Option.bind_some, Option.some.injEq, Prod.mk.injEq, and_true]
    have hf := v.full
    by_cases e : posF 0 l 0 = []
    · have : ¬ (-1 : Int) ∈ List.drop 1 (List.take (1 + (m + 1 - 1)) (tab 9 (fstv l))) := by
        rw [mem_firsts (by omega)]
        rintro ⟨k, h1, h2, h3⟩
        exact hf.1 e k (by omega) (by omega) (fst_none.1 h3)
      rw [decide_eq_false this, e]; rfl
    · have : (-1 : Int) ∈ List.drop 1 (List.take (1 + (m + 1 - 1)) (tab 9 (fstv l))) := by
        rw [mem_firsts (by omega)]
        apply Classical.byContradiction
        intro g
        refine e (hf.2 fun k h1 h2 h3 => g ⟨k.toNat, by omega, by omega, fst_none.2 ?_⟩)
        rwa [show ((k.toNat : Nat) : Int) = k by omega]
      have e' : ¬ ((posF 0 l 0).length : Int) = 0 := by
        intro g; exact e (List.length_eq_zero_iff.1 (by omega))
      rw [decide_eq_true this]; simp [e]
  · rw [if_neg h]
    simp [h]

theorem f47_eq {l : List Int} (hl : l.length ≤ 60) (n : Int) (w : Bool) : ∃ a b c e, f47 100 n w l = some (a, b, c, e) ∧ f50 100 n w l = some (a, b, c, e) ∧ c.length ≤ 60 := by
  unfold f47 f50
  rw [f57_eq (by omega) (by omega), f52_eq (by omega) (by omega)]
  by_cases h : code n w l = 0
  · have v := code_zero.1 h
    obtain ⟨m, rfl⟩ := Int.eq_ofNat_of_zero_le (show 0 ≤ n by have := v.rng; omega)
    have hr := v.rng
    have hlen := v.len
    have hne : l ≠ [] := by intro e; subst e; simp at hlen; omega
    refine ⟨m, w, l.reverse, 0, ?_, ?_, by simpa using hl⟩
    · rw [if_pos h]
      simp only [Option.bind_some, bne_self_eq_false, f62_1, f59]
      rw [w64_in (n := 2 * (m : Int)) (by omega), show 2 * (m : Int) = ((l.length : Nat) : Int) by omega, Int.toNat_natCast, Nat.zero_add, row_take (by omega)]
      rw [req_pos (by omega)]
      simp only [List.drop_zero, f44_2]
      rw [req_pos hne, req_pos (by simp; omega)]
      simp only [Option.bind_some, List.nil_append]
      rw [req_pos (by rw [tab_len]; omega)]
      simp only [Option.bind_some, Bool.false_eq_true, if_false]
      rw [f76_eq (by omega) (by omega)]
      simp only [Option.bind_some]
      rw [req_pos (by simp)]
      have : List.take (0 + l.length) l.reverse = l.reverse := by rw [Nat.zero_add, List.take_of_length_le (by simp)]
      rw [this]
    · rw [h]
      have := f50_p2_eq 100 m w l (by omega) m w l.length 100 [] (by omega) (Nat.le_refl _) (by simp only [List.length_nil]; omega)
      simp only [Option.bind_some, bne_self_eq_false, Bool.false_eq_true, if_false]
      rw [w64_in (n := (l.length : Int) - 1) (by omega), this]
      simp
  · refine ⟨0, false, [], code n w l, ?_, ?_, by simp⟩
    · rw [if_neg h]; simp [h]
    · simp [h]

theorem f14_true : f14 100 = some true := by decide +kernel

theorem f10_plain (n : Int) (w : Bool) (l : List Int) : f10 100 n w l = some true := by
  unfold f10 f13
  by_cases hl : (l.length : Int) > 60
  · simp [hl, f14_true]
  · have hl' : l.length ≤ 60 := by omega
    obtain ⟨a, b, c, e, h1, h2, h3⟩ := f47_eq hl' n w
    obtain ⟨⟨x, y⟩, h4⟩ : ∃ r, f49 100 n w l = some r := by
      unfold f49
      rw [f52_eq (by omega) (by omega)]
      simp only [Option.bind_some]
      split
      · exact ⟨_, rfl⟩
      · rw [f64_eq (by omega) (by omega)]; exact ⟨_, rfl⟩
    have h5 : f51 100 n w l = f52 100 n w l := by
      unfold f51
      rw [f57_eq (by omega) (by omega), f52_eq (by omega) (by omega)]
      by_cases h : code n w l = 0
      · simp [h]
      · simp [h]
    rw [f48_eq hl', h4, h1, h2, h5, f52_eq (by omega) (by omega)]
    simp [hl, f14_true, f21_refl (F := 100) (l := c) (by omega) (by omega)]

end Go.Gh.Fan
