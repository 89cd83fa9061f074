/- BunchSquared: the plain law. -/
import Derived.Test.YtegnegeoodkpcaaBunchB13
namespace Go.Gh.Bunch
set_option linter.unusedVariables false
set_option linter.unusedSimpArgs false

theorem same_is {l : List Int} (hl : l.length ≤ 100) : f31 2000 l l = some true := by rw [f31_eq (by omega) (by omega)]; simp

theorem f13_r3_eq {x2 : Int} {x3 x4 l : List Int} (h : chk l = 0) : f13_r3 2000 x2 x3 x4 l (dur 0 l) (rt l) (bl l) 0 = some false := by
  have hl := len30 h
  obtain ⟨hc, _⟩ := chk_zero h
  have hd := dur_bd l 0
  obtain ⟨d1, d2⟩ := dur_spec hc
  have hrt := rt_len (l := l)
  have hbl : (bl l).length ≤ 100 := by unfold bl; simp; omega
  have es : f31 2000 (bl l) (List.drop (dur 0 l) (List.take l.length l)) = some true := by rw [List.take_length]; exact same_is hbl
  unfold f13_r3
  rw [if_neg (by decide), if_neg (by simp <;> omega), if_neg (by simp <;> omega), if_neg (by simp <;> omega), Int.toNat_natCast]
  have last : req ((0 : Int) ≤ (dur 0 l : Int) ∧ ((dur 0 l : Int) : Int) ≤ ((List.length l : Nat) : Int) ∧ (((List.length l : Nat) : Int) : Int) ≤ ((List.length l : Nat) : Int)) (Option.bind (f31 2000 (bl l) (List.drop (dur 0 l) (List.take l.length l))) fun x12 => some (!x12)) = some false := by
    rw [req_pos (by omega), es]; rfl
  have mid : (if decide ((dur 0 l : Int) < ((List.length l : Nat) : Int)) = true then Option.bind (at? l (dur 0 l)) fun x11 => if decide (x11 > (dur 0 l : Int)) = true then some true else req ((0 : Int) ≤ (dur 0 l : Int) ∧ ((dur 0 l : Int) : Int) ≤ ((List.length l : Nat) : Int) ∧ (((List.length l : Nat) : Int) : Int) ≤ ((List.length l : Nat) : Int)) (Option.bind (f31 2000 (bl l) (List.drop (dur 0 l) (List.take l.length l))) fun x12 => some (!x12)) else req ((0 : Int) ≤ (dur 0 l : Int) ∧ ((dur 0 l : Int) : Int) ≤ ((List.length l : Nat) : Int) ∧ (((List.length l : Nat) : Int) : Int) ≤ ((List.length l : Nat) : Int)) (Option.bind (f31 2000 (bl l) (List.drop (dur 0 l) (List.take l.length l))) fun x12 => some (!x12))) = some false := by
    by_cases hlt : dur 0 l < l.length
    · rw [if_pos (by simp; omega), at_of (List.getElem?_eq_getElem hlt), Option.bind_some, if_neg (by rw [nxt_lt hlt] at d2; simp; omega)]
      exact last
    · rw [if_neg (by simp; omega)]
      exact last
  by_cases h0 : (dur 0 l : Int) > 0
  · have hlt : dur 0 l - 1 < l.length := by omega
    have hp := d1 (dur 0 l - 1) (by omega)
    rw [nxt_lt hlt] at hp
    rw [if_pos (by simpa using h0), show w64 ((dur 0 l : Int) - 1) = ((dur 0 l - 1 : Nat) : Int) by rw [w64_in (by omega)]; omega, at_of (List.getElem?_eq_getElem hlt), Option.bind_some, if_neg (by simp; omega)]
    exact mid
  · rw [if_neg (by simpa using h0)]
    exact mid

theorem f13_p2_eq {x2 : Int} {x3 x4 l : List Int} (h : chk l = 0) : ∀ (k i : Nat), i ≤ dur 0 l → dur 0 l < k + i → f13_p2 2000 x2 x3 x4 l (dur 0 l) (rt l) (bl l) k i = some .c1 := by
  have hl := len30 h
  obtain ⟨hc, _⟩ := chk_zero h
  have hd := dur_bd l 0
  obtain ⟨d1, d2⟩ := dur_spec hc
  have hrt := rt_len (l := l)
  have hxr := chkL_all _ _ (rt_chk hc)
  intro k
  induction k with
  | zero => intro i _ h; omega
  | succ k ih =>
    intro i h1 h2
    unfold f13_p2
    by_cases hi : i < dur 0 l
    · have hil : i < l.length := by omega
      have hn := nxt_rt hc i
      have hd1 := d1 i hi
      have hx := nxt_nn (chkL_all _ _ hc) i
      have hv : nxt l i = dur 0 l + nxt (rt l) i := by rw [hn]; split <;> omega
      have e5 : f13_p5 2000 x2 x3 x4 l (dur 0 l) (rt l) (bl l) i = some (nxt (rt l) i) := by
        unfold f13_p5
        by_cases hr : i < (rt l).length
        · rw [if_pos (by simp; omega), at_of (List.getElem?_eq_getElem hr), Option.bind_some, nxt_lt hr]
        · rw [if_neg (by simp; omega), nxt_ge (by omega)]
      have hw : w64 ((dur 0 l : Int) + nxt (rt l) i) = nxt l i := by rw [w64_in (by omega), hv]
      rw [if_pos (by simp; omega), e5, Option.bind_some, at_of (List.getElem?_eq_getElem hil), Option.bind_some, hw, ← nxt_lt hil, if_neg (by simp), show w64 ((i : Int) + 1) = ((i + 1 : Nat) : Int) by rw [w64_in (by omega)]; omega]
      by_cases hr : i < (rt l).length
      · have := nxt_pos hxr hr
        rw [if_pos (by simp; omega), if_neg (by simp; omega)]
        exact ih (i + 1) (by omega) (by omega)
      · rw [if_neg (by simp; omega)]
        exact ih (i + 1) (by omega) (by omega)
    · rw [if_neg (by simp; omega)]

theorem works2000 : f19 2000 = some true := by decide +kernel

theorem f13_plain (by_ : List Int) (sz : Int) (be un : List Int) (hb : ∀ x : Int, x ∈ by_ → 0 ≤ x ∧ x ≤ 255) (hz : 0 ≤ sz ∧ sz ≤ 255) (hbe : ∀ x : Int, x ∈ be → 0 ≤ x ∧ x ≤ 255) (hun : ∀ x : Int, x ∈ un → 0 ≤ x ∧ x ≤ 255) : f13 2000 by_ sz be un = some true := by
  obtain ⟨l, l1, l2, _⟩ := made_eq (q := 30) hb (by omega)
  obtain ⟨x, x1, x2, x3⟩ := made_eq (q := 9) hbe (by omega)
  obtain ⟨y, y1, y2, y3⟩ := made_eq (q := 9) hun (by omega)
  have hl := len30 l2
  have hx := len30 x2
  have hy := len30 y2
  obtain ⟨hc, hs⟩ := chk_zero l2
  obtain ⟨n, hN, hN2⟩ := u8_mod hz 6 (by omega)
  have hN' : Int.tmod (w64 sz) 6 = (n : Int) := hN
  obtain ⟨rc, bc⟩ := rb_chk l2
  have hrl := len30 rc
  have hbl := len30 bc
  have hdc := dv_chk0 l2
  have hdl := len30 hdc
  have e40 := f40_eq (F := 2000) (by omega) l2
  have e40' := f40_eq (F := 2000) (by omega) hdc
  rw [dur_dv hc hl.1, bl_dv hc hl.1, rt_dv hc hl.1] at e40'
  have e25 := f25_eq (F := 2000) (by omega) (by omega : l.length ≤ 100) l2
  have e25r := f25_eq (F := 2000) (by omega) (by omega : (rt l).length ≤ 100) rc
  have e25b := f25_eq (F := 2000) (by omega) (by omega : (bl l).length ≤ 100) bc
  have erd := len30 (dv_chk0 rc)
  have ebd := len30 (dv_chk0 bc)
  have e2 : f13_p2 2000 sz be un l (dur 0 l) (rt l) (bl l) 2000 0 = some .c1 := f13_p2_eq l2 2000 0 (by omega) (by have := dur_bd l 0; omega)
  have ej := f42_eq (K := n) x2 y2 (by omega)
  have e54x := f54_eq (F := 2000) (by omega) x2
  have e54y := f54_eq (F := 2000) (by omega) y2
  unfold f13
  simp only [l1, x1, y1, Option.bind_some, e40, e40', e25, e25r, e25b, f13_r3_eq l2, e2, join_back l2, same_is (l := l) (by omega), same_is (l := dv (rt l)) (by omega), same_is (l := dv (bl l)) (by omega), hN', ej, bne_self_eq_false, Bool.false_eq_true, if_true, if_false]
  have hnn : 0 ≤ (n : Int) * n ∧ (n : Int) * n ≤ 25 := ⟨Int.mul_nonneg (by omega) (by omega), by
    have : (n : Int) * n ≤ 5 * 5 := Int.mul_le_mul (by omega) (by omega) (by omega) (by omega)
    omega⟩
  have hw : w64 (w64 (w64 ((n : Int) * n) + sm x) + sm y) = (n : Int) * n + sm x + sm y := by
    rw [w64_in (n := (n : Int) * n) (by omega), w64_in (n := (n : Int) * n + sm x) (by omega), w64_in (by omega)]
  have e27 : ∀ a b, f13_r27 2000 sz x y a b = some (decide ((x.length : Int) > n ∨ nxt y 0 > n)) := by
    intro a b
    unfold f13_r27
    rw [hN']
    by_cases h1 : (x.length : Int) > n
    · rw [if_pos (by simpa using h1), decide_eq_true (.inl h1)]
    · rw [if_neg (by simpa using h1)]
      by_cases h2 : (y.length : Int) > 0
      · have h2' : 0 < y.length := by omega
        have e : at? y 0 = some (nxt y 0) := by rw [nxt_lt h2']; exact at_of (List.getElem?_eq_getElem h2')
        rw [if_pos (by simpa using h2), e, Option.bind_some]
        congr 1
        exact decide_eq_decide.2 ⟨.inr, fun h => h.resolve_left h1⟩
      · rw [if_neg (by simpa using h2), decide_eq_false]
        rw [nxt_ge (by omega)]
        omega
  have e9 : ∀ a b, f13_p9 2000 sz x y a b (decide ((x.length : Int) > n ∨ nxt y 0 > n)) = some (joinA n x y).2 := by
    intro a b
    unfold f13_p9 joinA
    by_cases h1 : (x.length : Int) > n
    · rw [if_pos (by simp; omega), if_pos h1]
    · rw [if_neg h1]
      by_cases h2 : nxt y 0 > n
      · rw [if_pos (by simp; omega), if_pos h2]
      · rw [if_neg (by simp; omega), if_neg h2, e54x, e54y, Option.bind_some, Option.bind_some]
        unfold f13_p10
        rw [hN', hw]
        by_cases h3 : (n : Int) * n + sm x + sm y > 30
        · rw [if_pos (by simpa using h3), if_pos h3]; rfl
        · rw [if_neg (by simpa using h3), if_neg h3]; rfl
  simp only [e27, e9, Option.bind_some, bne_self_eq_false, Bool.false_eq_true, if_false]
  have bad : ∀ e : Int, e ≠ 0 → joinA n x y = ([], e) → (if ((joinA n x y).2 != 0) = true then if ((((joinA n x y).1.length : Nat) : Int) == 0) = true then Option.bind (f19 2000) fun x47 => some x47 else none else Option.bind (f40 2000 (joinA n x y).1) fun (x48, x49, x50, x51) => if (x51 == 0) = true then if (x48 == (n : Int)) = true then Option.bind (f31 2000 x49 x) fun x52 => if x52 = true then Option.bind (f31 2000 x50 y) fun x53 => if x53 = true then Option.bind (f19 2000) fun x54 => some x54 else none else none else none else none) = some true := by
    intro e he hj
    rw [hj, if_pos (by simpa using he), if_pos (by simp), works2000]
    rfl
  by_cases h1 : (x.length : Int) > n
  · exact bad 5 (by decide) (by unfold joinA; rw [if_pos h1])
  by_cases h2 : nxt y 0 > n
  · exact bad 5 (by decide) (by unfold joinA; rw [if_neg h1, if_pos h2])
  by_cases h3 : (n : Int) * n + sm x + sm y > 30
  · exact bad 3 (by decide) (by unfold joinA; rw [if_neg h1, if_neg h2, if_pos h3])
  have hj : joinA n x y = (jn n x y, 0) := by unfold joinA; rw [if_neg h1, if_neg h2, if_neg h3]
  have xc := (chk_zero x2).1
  have yc := (chk_zero y2).1
  have hx0 : nxt x 0 ≤ sm x := by
    by_cases h : 0 < x.length
    · rw [nxt_lt h]; exact (sm_nn x (chkL_all _ _ xc)).2 _ (List.getElem_mem h)
    · rw [nxt_ge (by omega)]; omega
  have hJ := jn_chk (K := n) xc yc (by omega) (by omega) (by omega)
  have hJc : chk (jn n x y) = 0 := chk_of hJ (by rw [sm_jn (by omega)]; omega)
  have eJ := f40_eq (F := 2000) (by omega) hJc
  rw [dur_jn xc yc (by omega) (by omega) (by omega), rt_jn xc yc (by omega) (by omega) (by omega), bl_jn xc yc (by omega) (by omega) (by omega)] at eJ
  simp only [hj, eJ, Option.bind_some, bne_self_eq_false, beq_self_eq_true, Bool.false_eq_true, if_true, if_false, same_is (l := x) (by omega), same_is (l := y) (by omega), works2000]

end Go.Gh.Bunch
