/- BunchListed: the plain law. -/
import Derived.Test.YtegnegeoodkpcaaBunchB14
namespace Go.Gh.Bunch
set_option linter.unusedVariables false
set_option linter.unusedSimpArgs false

theorem Val.chk : ∀ (l : List Int) (m n : Nat), m ≤ 30 → n ≤ 30 → Val m n l → chkL m l = 0 ∧ sm l = n := by
  intro l
  induction l with
  | nil => intro m n _ _ h; exact ⟨rfl, by have h : n = 0 := h; subst h; rfl⟩
  | cons x r ih =>
    intro m n hm hn h
    obtain ⟨h1, h2, h3, h4⟩ := h
    obtain ⟨i1, i2⟩ := ih x.toNat (n - x.toNat) (by omega) (by omega) h4
    rw [Int.toNat_of_nonneg (by omega)] at i1
    refine ⟨by rw [chkL, if_pos (by omega), if_neg (by omega)]; exact i1, ?_⟩
    rw [sm_cons, i2]; omega

theorem number_is {l : List Int} (h : chk l = 0) : f36 2000 l = some (idx (sm l).toNat l, 0) := by
  have hl := len30 h
  obtain ⟨hc, _⟩ := chk_zero h
  have hx := chkL_all _ _ hc
  have e := f36_p2_eq (F := 2000) (by omega) (l := l) (by omega) 2000 0 30 (sm l).toNat 0 _ (by omega) (by omega) (by omega) (by rw [List.drop_zero]; exact chkL_val l 30 hc) Good.none (by omega) (by omega)
  rw [List.drop_zero, Int.zero_add, Int.toNat_of_nonneg (by omega)] at e
  unfold f36
  rw [f34_eq (by omega) (by omega), Option.bind_some, h, if_neg (by decide), f72_eq (by omega) (by omega) hx, Option.bind_some]
  rw [show f36_p2 2000 l 2000 (sm l) 0 0 (List.replicate 961 none) = _ from e, Option.bind_some]

theorem nth_is {n j : Nat} {l : List Int} (hn : n ≤ 30) (h : (al 2000 n n)[j]? = some l) : f38 2000 n j = some (l, 0) := by
  have hl := al_len 2000 n n (by omega) hn hn
  have hj := (List.getElem?_eq_some_iff.1 h).1
  have L := (c_look (n := n) (m := n) hn hn).1
  have e := f38_p4_eq (F := 2000) (by omega) 2000 2000 n n j l _ [] (by omega) (by omega) hn h Good.none (by simp; omega)
  have e0 : (if (0 : Int) > n then 0 else (n : Int)) = n := if_neg (by omega)
  unfold f38
  rw [f15_eq (by omega), e0, cc_nat hn hn, Option.bind_some]
  dsimp only
  rw [if_neg (by decide), f57_eq, w64_in (by omega), Option.bind_some, decide_eq_true (by omega), if_pos rfl, e, Option.bind_some, take0, List.nil_append]

theorem nth_end {n : Nat} (hn : n ≤ 30) : f38 2000 n (c n n) = some ([], 1) := by
  have L := (c_look (n := n) (m := n) hn hn).1
  have e0 : (if (0 : Int) > n then 0 else (n : Int)) = n := if_neg (by omega)
  unfold f38
  rw [f15_eq (by omega), e0, cc_nat hn hn, Option.bind_some]
  dsimp only
  rw [if_neg (by decide), f57_eq, w64_in (by omega), Option.bind_some, decide_eq_false (by omega)]
  rfl

theorem same_is {l : List Int} (hl : l.length ≤ 100) : f31 2000 l l = some true := by rw [f31_eq (by omega) (by omega)]; simp

theorem f14_p1_eq {a : List Int} {x : Int} {n : Nat} (hx : Int.tmod (w64 x) 21 = n) (hn : n ≤ 20) : ∀ (k i : Nat), i ≤ (al 2000 n n).length → (al 2000 n n).length < k + i → f14_p1 2000 a x (al 2000 n n) k i = some .c1 := by
  have hal := al_small (k := 2000) (n := n) (m := n) (by omega) (by omega) (by omega)
  intro k
  induction k with
  | zero => intro i _ h; omega
  | succ k ih =>
    intro i h1 h2
    unfold f14_p1
    by_cases hi : i < (al 2000 n n).length
    · have hg := List.getElem?_eq_getElem hi
      generalize (al 2000 n n)[i] = l at *
      obtain ⟨v1, v2⟩ := al_idx 2000 n n i l (by omega) (by omega) hg
      obtain ⟨v3, v4⟩ := Val.chk l n n (by omega) (by omega) v2
      have hck : chk l = 0 := chk_of (chkL_mono l n 30 v3 (by omega)) (by omega)
      have hll := len30 hck
      rw [if_pos (by simp; omega), at_of hg, Option.bind_some, number_is hck, v4, Int.toNat_natCast, ← v1, Option.bind_some]
      dsimp only
      rw [if_neg (by decide), if_neg (by simp)]
      have e5 : f14_p5 2000 a x (al 2000 n n) i l = some .c1 := by
        unfold f14_p5
        rw [hx]
        split
        · rw [nth_is (by omega) hg, Option.bind_some]
          dsimp only
          rw [if_neg (by decide), same_is (by omega), Option.bind_some, if_pos rfl]
        · rfl
      rw [e5, Option.bind_some, show w64 ((i : Int) + 1) = ((i + 1 : Nat) : Int) by rw [w64_in (by omega)]; omega]
      exact ih (i + 1) (by omega) (by omega)
    · rw [if_neg (by simp; omega)]

theorem works2000 : f19 2000 = some true := by decide +kernel

theorem f14_plain (x : Int) (by_ : List Int) (hx : 0 ≤ x ∧ x ≤ 255) (hb : ∀ x : Int, x ∈ by_ → 0 ≤ x ∧ x ≤ 255) : f14 2000 x by_ = some true := by
  obtain ⟨l, l1, l2, _⟩ := made_eq (q := 30) hb (by omega)
  have hl := len30 l2
  obtain ⟨hc, hs⟩ := chk_zero l2
  obtain ⟨n, hN, hN2⟩ := u8_mod hx 21 (by omega)
  have hN' : Int.tmod (w64 x) 21 = (n : Int) := hN
  have hal := al_len 2000 n n (by omega) (by omega) (by omega)
  have e1 : f48 2000 (n : Int) = some (al 2000 n n) := f48_eq (by omega)
  have e2 : f14_p1 2000 by_ x (al 2000 n n) 2000 0 = some .c1 := by
    have := al_small (k := 2000) (n := n) (m := n) (by omega) (by omega) (by omega)
    exact f14_p1_eq hN' (by omega) 2000 0 (by omega) (by omega)
  have e3 : f15 2000 (n : Int) = some (c n n, 0) := by
    rw [f15_eq (by omega), show (if (0 : Int) > n then 0 else (n : Int)) = n from if_neg (by omega), cc_nat (by omega) (by omega)]
  have e4 : f38 2000 n (c n n) = some ([], 1) := nth_end (by omega)
  have e5 := number_is l2
  have e6 := f54_eq (F := 2000) (by omega) l2
  have hck : chkL ((sm l).toNat : Nat) l = 0 := by
    rw [Int.toNat_of_nonneg hl.2.1]
    match l, hc with
    | [], _ => rfl
    | y :: r, hc =>
      obtain ⟨c1, c2, c3⟩ := chkL_cons hc
      have := (sm_nn r (chkL_all _ _ c3)).1
      rw [sm_cons, chkL, if_pos c1, if_neg (by omega)]
      exact c3
  obtain ⟨i0, i1, _⟩ := al_at (k := 2000) (n := (sm l).toNat) (by omega) (by omega) (chkL_val l _ hck)
  have e7 := nth_is (by omega) i1
  rw [Int.toNat_of_nonneg i0, Int.toNat_of_nonneg hl.2.1] at e7
  unfold f14
  simp only [hN', e1, Option.bind_some, e2, e3, hal, e4, l1, e5, e6, e7, same_is (l := l) (by omega), works2000, beq_self_eq_true, if_true]

end Go.Gh.Bunch
