/- The plain law of PacketSylvester. -/
import Derived.Test.YtkjlgbnbpeijbaaPackB10
namespace Go.Gh.Pack
set_option linter.unusedVariables false
set_option linter.unusedSimpArgs false

theorem md2 {p q n : Nat} : Md [(p : Int), (q : Int)] n ↔ ∃ c d : Nat, n = c * p + d * q := by
  constructor
  · intro h
    induction h with
    | zero => exact ⟨0, 0, by omega⟩
    | @add s n hs _ ih =>
      obtain ⟨c, d, rfl⟩ := ih
      rcases List.mem_cons.1 hs with rfl | hs
      · exact ⟨c + 1, d, by rw [Int.toNat_natCast, Nat.succ_mul]; omega⟩
      · rw [List.mem_singleton.1 hs]
        exact ⟨c, d + 1, by rw [Int.toNat_natCast, Nat.succ_mul]; omega⟩
  · rintro ⟨c, d, rfl⟩
    have h1 := Md.times (a := [(p : Int), (q : Int)]) (s := (p : Int)) (by simp) .zero c
    have h2 := Md.times (a := [(p : Int), (q : Int)]) (s := (q : Int)) (by simp) h1 d
    simpa using h2

section
variable {p q : Nat}
/-- Which multiple of q has the remainder of a number. -/
theorem jOf (ho : Orb q p 1 p) (n : Nat) : ∃ j, j < p ∧ (j * q) % p = n % p := by
  obtain ⟨t, h1, h2⟩ := ho.all (n % p) (Nat.mod_lt _ ho.pos) (Nat.mod_one _)
  exact ⟨t, h1, h2⟩
theorem md_j (ho : Orb q p 1 p) {n j : Nat} (hj : j < p) (he : (j * q) % p = n % p) : Md [(p : Int), (q : Int)] n ↔ j * q ≤ n := by
  rw [md2]
  constructor
  · rintro ⟨c, d, rfl⟩
    by_cases hd : j ≤ d
    · have := Nat.mul_le_mul_right q hd
      omega
    · exfalso
      have e1 : j * q = d * q + (j - d) * q := by rw [← Nat.add_mul, show d + (j - d) = j by omega]
      rw [Nat.mul_add_mod_self_right, e1] at he
      have hp := ho.pos
      have h0 := ho.far (j - d) (by omega) (by omega)
      have l1 := Nat.mod_lt (d * q) hp
      have l2 := Nat.mod_lt ((j - d) * q) hp
      rw [Nat.add_mod] at he
      generalize (d * q) % p = u at *
      generalize ((j - d) * q) % p = v at *
      by_cases hlt : u + v < p
      · rw [Nat.mod_eq_of_lt hlt] at he; omega
      · rw [Nat.mod_eq_sub_mod (by omega), Nat.mod_eq_of_lt (by omega)] at he; omega
  · intro h
    have e1 := Nat.div_add_mod n p
    have e2 := Nat.div_add_mod (j * q) p
    rw [he] at e2
    have hle : j * q / p ≤ n / p := Nat.div_le_div_right h
    refine ⟨n / p - j * q / p, j, ?_⟩
    rw [Nat.sub_mul, Nat.mul_comm (n / p), Nat.mul_comm (j * q / p)]
    have := Nat.mul_le_mul_left p hle
    omega
/-- Of two numbers with the sum of the greatest gap just one can be made. -/
theorem xor_md (ho : Orb q p 1 p) {l n : Nat} (hl : l + p + q = p * q) (hn : n ≤ l) : Md [(p : Int), (q : Int)] n ↔ ¬ Md [(p : Int), (q : Int)] (l - n) := by
  obtain ⟨j, j1, j2⟩ := jOf ho n
  have hp := ho.pos
  have e1 := Nat.div_add_mod n p
  have e2 := Nat.div_add_mod (j * q) p
  rw [j2] at e2
  have e3 : (p - 1 - j) * q + j * q + q = p * q := by
    rw [← Nat.add_mul, ← Nat.succ_mul]; congr 1; omega
  generalize hu : n / p = u at *
  generalize hv : j * q / p = v at *
  rw [md_j ho j1 j2]
  by_cases hle : j * q ≤ n
  · have huv : v ≤ u := by rw [← hu, ← hv]; exact Nat.div_le_div_right hle
    have e4 : p * u = p * v + p * (u - v) := by rw [← Nat.mul_add]; congr 1; omega
    have key : ((p - 1 - j) * q) % p = (l - n) % p := by
      have : (p - 1 - j) * q = (l - n) + p * (u - v + 1) := by rw [Nat.mul_succ]; omega
      rw [this, Nat.add_mul_mod_self_left]
    have := md_j ho (n := l - n) (j := p - 1 - j) (by omega) key
    constructor
    · intro _ h
      have := this.1 h
      have e5 : 0 ≤ p * (u - v) := Nat.zero_le _
      omega
    · intro _; exact hle
  · have huv : u < v := by
      false_or_by_contra
      have : p * v ≤ p * u := Nat.mul_le_mul_left p (by omega)
      omega
    have e4 : p * v = p * u + p * (v - u) := by rw [← Nat.mul_add]; congr 1; omega
    have e5 : p * (v - u) = p * (v - u - 1) + p := by rw [← Nat.mul_succ]; congr 1; omega
    constructor
    · intro h; exact absurd h hle
    · intro h
      exfalso
      apply h
      rw [md2]
      refine ⟨v - u - 1, p - 1 - j, ?_⟩
      rw [Nat.mul_comm (v - u - 1)]
      omega
/-- Above the greatest gap all can be made. -/
theorem md_above (ho : Orb q p 1 p) {n : Nat} (hn : p * q < n + p + q) : Md [(p : Int), (q : Int)] n := by
  obtain ⟨j, j1, j2⟩ := jOf ho n
  have hp := ho.pos
  rw [md_j ho j1 j2]
  false_or_by_contra
  have e1 := Nat.div_add_mod n p
  have e2 := Nat.div_add_mod (j * q) p
  rw [j2] at e2
  have e3 : (p - 1 - j) * q + j * q + q = p * q := by
    rw [← Nat.add_mul, ← Nat.succ_mul]; congr 1; omega
  generalize n / p = u at *
  generalize j * q / p = v at *
  have huv : u < v := by
    false_or_by_contra
    have : p * v ≤ p * u := Nat.mul_le_mul_left p (by omega)
    omega
  have e4 : p * v = p * u + p * (v - u) := by rw [← Nat.mul_add]; congr 1; omega
  have e5 : p * (v - u) = p * (v - u - 1) + p := by rw [← Nat.mul_succ]; congr 1; omega
  omega

/-- How many gaps there are, and the last one. -/
theorem half {z : Nat → Bool} : ∀ N : Nat, (∀ n, n < N → z n = !z (N - 1 - n)) → 2 * (List.range N).countP (fun n => !z n) = N := by
  intro N h
  have h1 : (List.range N).countP (fun n => !z n) = (List.range N).countP z := by
    have e : (List.range N).reverse = (List.range N).map fun x => N - 1 - x := by
      rw [List.range_eq_range', List.reverse_range', ← List.range_eq_range']
      exact List.map_congr_left fun x _ => by omega
    rw [← List.countP_reverse (l := List.range N), e, List.countP_map]
    refine List.countP_congr fun x hx => ?_
    rw [h x (List.mem_range.1 hx)]
    rfl
  have h2 := List.length_eq_countP_add_countP z (l := List.range N)
  rw [List.length_range] at h2
  have h3 : (List.range N).countP (fun a => decide ¬ z a = true) = (List.range N).countP (fun n => !z n) := List.countP_congr fun x _ => by simp
  omega
theorem syl_gaps (ho : Orb q p 1 p) {l : List Int} (hG : Gaps [(p : Int), (q : Int)] l) {t : Nat} (ht : t + p + q = p * q) : 2 * l.length = t + 1 ∧ l.getLast? = some (t : Int) := by
  obtain ⟨z, hz⟩ : ∃ z : Nat → Bool, ∀ n, z n = true ↔ Md [(p : Int), (q : Int)] n := ⟨fun n => @decide _ (Classical.propDecidable (Md [(p : Int), (q : Int)] n)), fun n => by simp⟩
  have hx : ∀ n, n < t + 1 → z n = !z (t + 1 - 1 - n) := fun n hn => by
    rw [Bool.eq_iff_iff, hz, xor_md ho ht (by omega), Nat.add_sub_cancel, ← hz]
    simp
  have hzt : z t = false := by
    have h0 : z 0 = true := (hz 0).2 .zero
    have := hx t (by omega)
    rw [Nat.add_sub_cancel, Nat.sub_self, h0] at this
    exact this
  have hG2 : Gaps [(p : Int), (q : Int)] (((List.range (t + 1)).filter fun n => !z n).map fun (n : Nat) => (n : Int)) := by
    refine ⟨?_, fun x => ?_⟩
    · rw [List.pairwise_map]
      exact (List.pairwise_lt_range.filter _).imp fun h => by omega
    · rw [List.mem_map]
      constructor
      · rintro ⟨n, h1, rfl⟩
        obtain ⟨_, h2⟩ := List.mem_filter.1 h1
        exact ⟨by omega, fun hm => by rw [Int.toNat_natCast, ← hz] at hm; rw [hm] at h2; cases h2⟩
      · rintro ⟨h0, hn⟩
        refine ⟨x.toNat, List.mem_filter.2 ⟨List.mem_range.2 ?_, ?_⟩, by omega⟩
        · false_or_by_contra
          exact hn (md_above ho (by omega))
        · have : z x.toNat = false := by
            cases h : z x.toNat with
            | false => rfl
            | true => exact absurd ((hz _).1 h) hn
          rw [this]; rfl
  have e := hG.uniq hG2 fun _ => Iff.rfl
  subst e
  constructor
  · rw [List.length_map, ← List.countP_eq_length_filter]
    exact half (t + 1) hx
  · rw [List.range_succ, List.filter_append, List.map_append]
    have : ([t].filter fun n => !z n) = [t] := by simp [hzt]
    rw [this]
    simp
end

theorem f10_p3_eq {F : Nat} {R : List Bool} {x3 x1 : Int} {x4 x5 : List Int} {x6 x7 x8 : Int} {x9 : Bool} {x10 : Int} (hR : R.length = 901) : ∀ (k i : Nat) (acc : List Int), i ≤ 901 → 901 < k + i → acc.length ≤ i → acc.Pairwise (· < ·) → (∀ x ∈ acc, x < (i : Int)) →
    ∃ out, f10_p3 F x3 x1 x4 x5 x6 x7 x8 x9 x10 R k i acc = some out ∧ out.Pairwise (· < ·) ∧ out.length ≤ 901 ∧ ∀ x, x ∈ out ↔ x ∈ acc ∨ ∃ n : Nat, i ≤ n ∧ n ≤ 900 ∧ x = n ∧ ¬ bt R n := by
  intro k
  induction k with
  | zero => intro i acc _ h; omega
  | succ k ih =>
    intro i acc h2 h3 h4 h5 h6
    unfold f10_p3
    by_cases hi : i < R.length
    · obtain ⟨v, g1, g2⟩ := bget (R := R) (y := i) hi
      rw [if_pos (by simp; omega), at_of g1, Option.bind_some, w64_succ (by omega)]
      unfold f10_p6_1
      cases v with
      | true =>
        rw [if_pos rfl, Option.bind_some]
        obtain ⟨out, e, p1, p2, p3⟩ := ih (i + 1) acc (by omega) (by omega) (by omega) h5 fun x hx => by have := h6 x hx; omega
        refine ⟨out, e, p1, p2, fun x => ?_⟩
        rw [p3]
        have hb : bt R i := g2.1 rfl
        constructor
        · rintro (h | ⟨n, n1, n2⟩)
          · exact Or.inl h
          · exact Or.inr ⟨n, by omega, n2⟩
        · rintro (h | ⟨n, n1, n2, n3, n4⟩)
          · exact Or.inl h
          · by_cases he : n = i
            · subst he; exact absurd hb n4
            · exact Or.inr ⟨n, by omega, n2, n3, n4⟩
      | false =>
        rw [if_neg (by decide), req_pos (by simp; omega), Option.bind_some]
        have hb : ¬ bt R i := fun h => by have := g2.2 h; cases this
        obtain ⟨out, e, p1, p2, p3⟩ := ih (i + 1) (acc ++ [(i : Int)]) (by omega) (by omega) (by simp; omega) (by
          rw [List.pairwise_append]
          refine ⟨h5, List.pairwise_singleton _ _, fun x hx y hy => ?_⟩
          rw [List.mem_singleton.1 hy]; exact h6 x hx) fun x hx => by
          rcases List.mem_append.1 hx with hx | hx
          · have := h6 x hx; omega
          · rw [List.mem_singleton.1 hx]; omega
        refine ⟨out, e, p1, p2, fun x => ?_⟩
        rw [p3, List.mem_append, List.mem_singleton]
        constructor
        · rintro ((h | h) | ⟨n, n1, n2⟩)
          · exact Or.inl h
          · exact Or.inr ⟨i, Nat.le_refl _, by omega, h, hb⟩
          · exact Or.inr ⟨n, by omega, n2⟩
        · rintro (h | ⟨n, n1, n2, n3, n4⟩)
          · exact Or.inl (Or.inl h)
          · by_cases he : n = i
            · subst he; exact Or.inl (Or.inr n3)
            · exact Or.inr ⟨n, by omega, n2, n3, n4⟩
    · rw [if_neg (by simp; omega)]
      refine ⟨acc, rfl, h5, by omega, fun x => ⟨Or.inl, ?_⟩⟩
      rintro (h | ⟨n, n1, n2, _⟩)
      · exact h
      · omega

theorem f10_p11_eq {p q t : Nat} {x1 x3 : Int} {R : List Bool} (hp : 1 ≤ p) (hpq : p < q) (hq : q ≤ 30) (ho : Orb q p 1 p) (hck : ck [(p : Int), (q : Int)] = 0) (ht : t + p + q = p * q) (hR : Rch [(p : Int), (q : Int)] 900 R)
    (e1 : (if x3 < (w64 (1 + (Int.tmod (w64 (x1)) 30))) then x3 else (w64 (1 + (Int.tmod (w64 (x1)) 30)))) = (p : Int)) (e2 : (if x3 > (w64 (1 + (Int.tmod (w64 (x1)) 30))) then x3 else (w64 (1 + (Int.tmod (w64 (x1)) 30)))) = (q : Int)) (e3 : w64 (w64 (w64 ((p : Int) * q) - p) - q) = (t : Int)) :
    ∀ (k i : Nat), i ≤ t + 1 → t + 1 < k + i → f10_p11 2100 [(p : Int), (q : Int)] R x3 x1 k i = some .c1 := by
  have hpq2 : p * q ≤ 30 * 30 := Nat.mul_le_mul (by omega) hq
  intro k
  induction k with
  | zero => intro i _ h; omega
  | succ k ih =>
    intro i h1 h2
    unfold f10_p11
    rw [e1, e2, e3]
    by_cases hi : i ≤ t
    · obtain ⟨z1, g1, g2⟩ := f17_eq (n := i) hck (by omega)
      obtain ⟨z2, g3, g4⟩ := f17_eq (n := t - i) hck (by omega)
      obtain ⟨v, g5, g6⟩ := bget (R := R) (y := i) (by rw [hR.len]; omega)
      have hx := xor_md ho ht hi
      have hz : z1 = !z2 := by
        rw [Bool.eq_iff_iff, g2, hx, ← g4]; simp
      have hv : v = z1 := by
        rw [Bool.eq_iff_iff, g6, hR.is i (by omega), g2]
      rw [if_pos (by simp; omega), show w64 ((t : Int) - i) = ((t - i : Nat) : Int) by rw [w64_in (by omega)]; omega, g1, Option.bind_some]
      dsimp only
      rw [g3, Option.bind_some]
      dsimp only
      rw [if_neg (by decide), if_neg (by decide), if_neg (by rw [hz]; cases z2 <;> decide), at_of g5, Option.bind_some, if_pos (by rw [hv]; cases z1 <;> decide), w64_succ (by omega)]
      exact ih (i + 1) (by omega) (by omega)
    · rw [if_neg (by simp; omega)]

theorem mul_less {p q : Nat} (hp : 1 ≤ p) (hq : 1 ≤ q) : (p - 1) * (q - 1) + p + q = p * q + 1 := by
  obtain ⟨p', rfl⟩ : ∃ p', p = p' + 1 := ⟨p - 1, by omega⟩
  obtain ⟨q', rfl⟩ : ∃ q', q = q' + 1 := ⟨q - 1, by omega⟩
  rw [Nat.add_sub_cancel, Nat.add_sub_cancel, Nat.add_mul, Nat.mul_add]; omega
theorem f10_plain (x1 x2 : Int) (h1 : 0 ≤ x1 ∧ x1 ≤ 255) (h2 : 0 ≤ x2 ∧ x2 ≤ 255) : f10 2100 x1 x2 = some true := by
  have ew := works
  -- the two sizes
  obtain ⟨A, eA, A1, A2⟩ : ∃ A : Nat, w64 (1 + Int.tmod (w64 x1) 30) = (A : Int) ∧ 1 ≤ A ∧ A ≤ 30 := by
    refine ⟨(1 + x1 % 30).toNat, ?_, by omega, by omega⟩
    rw [w64_in (n := x1) (by omega), Int.tmod_eq_emod_of_nonneg (by omega), w64_in (by omega)]; omega
  obtain ⟨B0, eB, B1, B2⟩ : ∃ B : Nat, w64 (1 + Int.tmod (w64 x2) 30) = (B : Int) ∧ 1 ≤ B ∧ B ≤ 30 := by
    refine ⟨(1 + x2 % 30).toNat, ?_, by omega, by omega⟩
    rw [w64_in (n := x2) (by omega), Int.tmod_eq_emod_of_nonneg (by omega), w64_in (by omega)]; omega
  obtain ⟨B, e0, C1, C2, C3⟩ : ∃ B : Nat, f10_p0 2100 x1 x2 = some (B : Int) ∧ 1 ≤ B ∧ B ≤ 30 ∧ A ≠ B := by
    unfold f10_p0
    rw [eA, eB]
    by_cases h : A = B0
    · subst h
      rw [if_pos (by simp)]
      refine ⟨A % 30 + 1, ?_, by omega, by omega, by omega⟩
      rw [Int.tmod_eq_emod_of_nonneg (by omega), w64_in (by omega)]; congr 1
    · rw [if_neg (by simp; omega)]
      exact ⟨B0, rfl, B1, B2, h⟩
  obtain ⟨p, q, e1, e2, p1, p2, p3⟩ : ∃ p q : Nat, (if (B : Int) < w64 (1 + Int.tmod (w64 x1) 30) then (B : Int) else w64 (1 + Int.tmod (w64 x1) 30)) = (p : Int) ∧ (if (B : Int) > w64 (1 + Int.tmod (w64 x1) 30) then (B : Int) else w64 (1 + Int.tmod (w64 x1) 30)) = (q : Int) ∧ 1 ≤ p ∧ p < q ∧ q ≤ 30 := by
    rw [eA]
    by_cases h : B < A
    · exact ⟨B, A, by rw [if_pos (by omega)], by rw [if_neg (by omega)], by omega, by omega, by omega⟩
    · exact ⟨A, B, by rw [if_neg (by omega)], by rw [if_pos (by omega)], by omega, by omega, by omega⟩
  have hck : ck [(p : Int), (q : Int)] = 0 := by
    unfold ck
    rw [if_neg (by simp), if_neg (by simp)]
    exact ckL_asc _ 0 (by simp; omega) fun x hx => by
      simp only [List.mem_cons, List.not_mem_nil, or_false] at hx
      rcases hx with rfl | rfl <;> omega
  have ha := ck_all hck
  have hpq : p * q ≤ 30 * 30 := Nat.mul_le_mul (by omega) p3
  obtain ⟨z, ez, hz⟩ := f53_eq (F := 2100) (a := [(p : Int), (q : Int)]) (by simp) (by simp) (by omega) ha
  unfold f10 f52
  rw [e0, Option.bind_some, e1, e2, Option.bind_some]
  by_cases hc : Com [(p : Int), (q : Int)]
  · obtain ⟨g1, g2, g3⟩ := inf_eq hck hc
    rw [g1, Option.bind_some]
    dsimp only
    rw [g2, Option.bind_some]
    dsimp only
    rw [g3, Option.bind_some]
    dsimp only
    rw [ez, Option.bind_some, hz.2 hc, if_pos rfl]
    simp only [beq_self_eq_true, if_true, List.length_nil, Int.natCast_zero, ew, Option.bind_some]
  · have hzf : z = false := by
      cases z with
      | false => rfl
      | true => exact absurd (hz.1 rfl) hc
    -- no common divisor
    have hg1 : Nat.gcd q p = 1 := by
      false_or_by_contra
      have hp := Nat.gcd_pos_of_pos_left p (by omega : 0 < q)
      refine hc ⟨Nat.gcd q p, by omega, fun x hx => ?_⟩
      simp only [List.mem_cons, List.not_mem_nil, or_false] at hx
      rcases hx with rfl | rfl
      · rw [Int.toNat_natCast]; exact Nat.gcd_dvd_right q p
      · rw [Int.toNat_natCast]; exact Nat.gcd_dvd_left q p
    have ho : Orb q p 1 p := by
      have := Orb.of (s := q) (b := p) (by omega) (by omega)
      rwa [hg1, Nat.div_one] at this
    obtain ⟨l, g1, hG, g2, g3, g4, g5⟩ := fin_eq hck hc
    obtain ⟨R, r1, hR⟩ := f54_eq (F := 2100) (N := 900) ha (by simp) (by omega) (by omega) (by omega)
    have wp : w64 ((p : Int) - 1) = ((p - 1 : Nat) : Int) := wm p1 (by omega)
    have wq : w64 ((q : Int) - 1) = ((q - 1 : Nat) : Int) := wm (by omega) (by omega)
    have wpq : w64 ((p : Int) * q) = ((p * q : Nat) : Int) := by rw [← Int.natCast_mul, w64_nat (by omega)]
    have wlast : w64 (w64 (w64 ((p : Int) * q) - p) - q) = ((p * q : Nat) : Int) - p - q := by
      rw [wpq, w64_in (n := ((p * q : Nat) : Int) - p) (by omega), w64_in (by omega)]
    -- as many gaps as the formula says
    have hcount : (p = 1 ∧ l = []) ∨ ∃ t : Nat, t + p + q = p * q ∧ 2 * l.length = t + 1 ∧ l.getLast? = some (t : Int) := by
      by_cases hp1 : p = 1
      · subst hp1
        refine Or.inl ⟨rfl, List.eq_nil_iff_forall_not_mem.2 fun x hx => ?_⟩
        exact ((hG.mem x).1 hx).2 (md_above ho (by omega))
      · have h2 : 2 * q ≤ p * q := Nat.mul_le_mul_right q (by omega)
        obtain ⟨t, ht⟩ : ∃ t : Nat, t + p + q = p * q := ⟨p * q - p - q, by omega⟩
        exact Or.inr ⟨t, ht, syl_gaps ho hG ht⟩
    have hmul := mul_less p1 (by omega : 1 ≤ q)
    have wmul : w64 (((p - 1 : Nat) : Int) * ((q - 1 : Nat) : Int)) = (((p - 1) * (q - 1) : Nat) : Int) := by
      rw [← Int.natCast_mul, w64_nat (by omega)]
    rw [g1, Option.bind_some]
    dsimp only
    have hlist : ∀ (x3 x1 : Int) (x4 x5 : List Int) (x6 x7 x8 : Int) (x9 : Bool) (x10 : Int), f10_p3 2100 x3 x1 x4 x5 x6 x7 x8 x9 x10 R 2100 0 [] = some l := by
      intro x3 x1 x4 x5 x6 x7 x8 x9 x10
      obtain ⟨out, o1, o2, _, o4⟩ := f10_p3_eq (F := 2100) (x3 := x3) (x1 := x1) (x4 := x4) (x5 := x5) (x6 := x6) (x7 := x7) (x8 := x8) (x9 := x9) (x10 := x10) hR.len 2100 0 [] (by omega) (by omega) (by simp) List.Pairwise.nil (by simp)
      have hmem : ∀ x, x ∈ out ↔ x ∈ l := fun x => by
        rw [o4]
        constructor
        · rintro (h | ⟨n, _, n2, rfl, n4⟩)
          · cases h
          · rw [hG.mem, Int.toNat_natCast]
            exact ⟨by omega, fun hm => n4 ((hR.is n n2).2 hm)⟩
        · intro hx
          have hb := g3 x hx
          have hm := (hG.mem x).1 hx
          exact Or.inr ⟨x.toNat, by omega, by omega, by omega, fun hb2 => hm.2 ((hR.is _ (by omega)).1 hb2)⟩
      have hp : out.Perm l := (List.perm_ext_iff_of_nodup (o2.imp fun h => Int.ne_of_lt h) (hG.so.imp fun h => Int.ne_of_lt h)).2 hmem
      have : out = l := hp.eq_of_pairwise (fun a b _ _ h1 h2 => absurd h1 (by omega)) o2 hG.so
      rw [← this]; exact o1
    rcases hcount with ⟨rfl, rfl⟩ | ⟨t, t1, t2, t3⟩
    · obtain ⟨k1, k2⟩ := g4 rfl
      rw [k1, Option.bind_some]
      dsimp only
      rw [k2, Option.bind_some]
      dsimp only
      rw [ez, Option.bind_some, hzf, if_neg (by decide), show f54 2100 [((1 : Nat) : Int), (q : Int)] 900 = some R from r1, Option.bind_some, hlist, Option.bind_some]
      rw [if_neg (by decide), if_neg (by decide), take0, f23_eq (by simp) (by omega), decide_eq_true rfl, Option.bind_some, if_pos rfl, wp, wq, wmul, wlast]
      rw [if_neg (by rw [bne_iff_ne, Decidable.not_not]; show w64 0 = _; rw [show w64 0 = 0 from w64_nat (n := 0) (by omega)]; omega), if_pos rfl, if_pos (by decide), if_pos (by decide), if_pos (by simp; omega), ew]
      rfl
    · obtain ⟨k1, k2⟩ := g5 t t3
      have hlen : l.length ≠ 0 := by omega
      have elast : w64 (((l.length : Nat) : Int) - 1) = ((l.length - 1 : Nat) : Int) := wm (by omega) (by omega)
      have et : ((p * q : Nat) : Int) - p - q = (t : Int) := by omega
      have hget : l[0 + Int.toNat ((l.length - 1 : Nat) : Int)]? = some (t : Int) := by
        rw [Nat.zero_add, Int.toNat_natCast, ← List.getLast?_eq_getElem?]; exact t3
      have p11 := f10_p11_eq (x1 := x1) (x3 := (B : Int)) p1 p2 p3 ho hck t1 hR e1 e2 (by rw [wlast, et]) 2100 0 (by omega) (by omega)
      have p11 : f10_p11 2100 [(p : Int), (q : Int)] R B x1 2100 0 = some .c1 := p11
      rw [k1, Option.bind_some]
      dsimp only
      rw [k2, Option.bind_some]
      dsimp only
      rw [ez, Option.bind_some, hzf, if_neg (by decide), show f54 2100 [(p : Int), (q : Int)] 900 = some R from r1, Option.bind_some, hlist, Option.bind_some]
      rw [if_neg (by decide), if_neg (by decide), take0, f23_eq (by omega) (by omega), decide_eq_true rfl, Option.bind_some, if_pos rfl, wp, wq, wmul, wlast, et, w64_in (n := 2 * (l.length : Int)) (by omega)]
      rw [if_neg (by rw [bne_iff_ne, Decidable.not_not]; omega), if_pos (decide_eq_true (by omega)), if_neg (by rw [beq_iff_eq]; omega), if_neg (by decide), if_neg (by simp), elast, rq (by omega), hget, Option.bind_some, if_neg (by simp), p11, Option.bind_some]
      dsimp only
      rw [ew]; rfl

end Go.Gh.Pack
