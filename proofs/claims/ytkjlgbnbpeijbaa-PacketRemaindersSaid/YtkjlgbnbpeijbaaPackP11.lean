/- The plain law of PacketRemainders. -/
import Derived.Test.YtkjlgbnbpeijbaaPackB11
namespace Go.Gh.Pack
set_option linter.unusedVariables false
set_option linter.unusedSimpArgs false

theorem f24_eq {a : List Int} (hck : ck a = 0) {k b : Nat} (hk : a[k]? = some (b : Int)) : ∃ L, f24 2100 a k = some (L, 0) ∧ Ring a b L := by
  obtain ⟨c1, c2, _⟩ := ck_zero hck
  have ha := ck_all hck
  obtain ⟨hkl, e⟩ := List.getElem?_eq_some_iff.1 hk
  have hb := ha _ (List.getElem_mem hkl)
  obtain ⟨L, e1, hR⟩ := f68_ring (b := b) (by omega) ha c2
  unfold f24
  rw [f26_eq (by omega), Option.bind_some, hck, if_neg (by decide), f67_eq, Option.bind_some, if_pos (decide_eq_true (by rw [w64_in (by omega)]; omega)), at_of hk, Option.bind_some, e1, Option.bind_some]
  exact ⟨L, rfl, hR⟩

section
variable {a L : List Int} {b : Nat}
/-- The first number of a remainder that can be made. -/
theorem fi_hit (hR : Ring a b L) {r j : Nat} (hr : r < b) (hn : ∀ i, i < j → ¬ Md a (r + i * b)) (hm : Md a (r + j * b)) : nt L r = ((r + j * b : Nat) : Int) := by
  have h1 := hR.low _ hm
  rw [Nat.add_mul_mod_self_right, Nat.mod_eq_of_lt hr] at h1
  rcases hR.val r hr with h2 | ⟨_, h2, h3⟩
  · omega
  · have e := Nat.div_add_mod (nt L r).toNat b
    rw [h3, Nat.mul_comm] at e
    by_cases hlt : (nt L r).toNat / b < j
    · exact absurd (by rw [show r + (nt L r).toNat / b * b = (nt L r).toNat by omega]; exact h2) (hn _ hlt)
    · have : j * b ≤ (nt L r).toNat / b * b := Nat.mul_le_mul_right b (by omega)
      omega
theorem fi_out (hR : Ring a b L) (ha : ∀ x ∈ a, 1 ≤ x ∧ x ≤ 30) (hb : 1 ≤ b ∧ b ≤ 30) {r j : Nat} (hr : r < b) (hn : ∀ i, i < j → ¬ Md a (r + i * b)) (hbig : 870 < r + j * b) : nt L r = -1 := by
  rcases hR.val r hr with h2 | ⟨h1, h2, h3⟩
  · exact h2
  · exfalso
    have hbd := hR.bound ha hb hr
    have e := Nat.div_add_mod (nt L r).toNat b
    rw [h3, Nat.mul_comm] at e
    have hlt : (nt L r).toNat / b < j := by
      false_or_by_contra
      have : j * b ≤ (nt L r).toNat / b * b := Nat.mul_le_mul_right b (by omega)
      omega
    exact hn _ hlt (by rw [show r + (nt L r).toNat / b * b = (nt L r).toNat by omega]; exact h2)

theorem p6_eq (hR : Ring a b L) (ha : ∀ x ∈ a, 1 ≤ x ∧ x ≤ 30) (hb : 1 ≤ b ∧ b ≤ 30) {R : List Bool} (hRc : Rch a 2000 R) {r : Nat} (hr : r < b) {x5 x12 x13 x16 x15 : Int} {x14 : Bool} {x9 : List Int} :
    ∀ (k j : Nat), 1 < k → 2002 < k + j → j ≤ 2001 → r + j * b ≤ 2040 → (∀ i, i < j → ¬ Md a (r + i * b)) → f11_p6 2100 a x5 b R x12 x13 x14 x16 x9 x15 k (-1) ((r + j * b : Nat) : Int) = some (nt L r) := by
  have hl := hRc.len
  intro k
  induction k with
  | zero => intro j h; omega
  | succ k ih =>
    intro j h0 h1 h2 h3 hn
    unfold f11_p6
    have hs : (j + 1) * b = j * b + b := Nat.succ_mul j b
    by_cases hx : r + j * b < R.length
    · obtain ⟨v, g1, g2⟩ := bget (R := R) (y := r + j * b) hx
      rw [hRc.is _ (by omega)] at g2
      rw [if_pos (by rw [decide_eq_true_eq]; omega), if_pos (by decide), at_of g1, Option.bind_some, show w64 (((r + j * b : Nat) : Int) + b) = ((r + (j + 1) * b : Nat) : Int) by rw [w64_in (by omega)]; omega]
      unfold f11_p9
      cases v with
      | true =>
        rw [if_pos rfl, Option.bind_some, fi_hit hR hr hn (g2.1 rfl)]
        obtain ⟨k', rfl⟩ : ∃ k', k = k' + 1 := ⟨k - 1, by omega⟩
        unfold f11_p6
        have c : ¬ (decide (((r + j * b : Nat) : Int) < 0) = true) := by rw [decide_eq_true_eq]; omega
        rw [if_neg c]
        split <;> rfl
      | false =>
        rw [if_neg (by decide), Option.bind_some]
        have hjb : j ≤ j * b := Nat.le_mul_of_pos_right j (by omega)
        refine ih (j + 1) (by omega) (by omega) (by omega) (by omega) fun i hi => ?_
        by_cases he : i = j
        · subst he; intro hm; have := g2.2 hm; cases this
        · exact hn i (by omega)
    · rw [if_neg (by rw [decide_eq_true_eq]; omega), fi_out hR ha hb hr hn (by omega)]
theorem p15_eq (hR : Ring a b L) (ha : ∀ x ∈ a, 1 ≤ x ∧ x ≤ 30) (hb : 1 ≤ b ∧ b ≤ 30) (h0b : at? a 0 = some (b : Int)) {R : List Bool} (hRc : Rch a 2000 R) {r : Nat} (hr : r < b) {x5 x8 x22 x23 x27 x28 x29 : Int} {x24 : Bool} :
    ∀ (k j : Nat), 1 < k → 2002 < k + j → j ≤ 2001 → r + j * b ≤ 2040 → (∀ i, i < j → ¬ Md a (r + i * b)) → f11_p15 2100 a x5 x8 R x22 x23 x24 x27 x28 x29 k (-1) ((r + j * b : Nat) : Int) = some (nt L r) := by
  have hl := hRc.len
  intro k
  induction k with
  | zero => intro j h; omega
  | succ k ih =>
    intro j h0 h1 h2 h3 hn
    unfold f11_p15
    have hs : (j + 1) * b = j * b + b := Nat.succ_mul j b
    by_cases hx : r + j * b < R.length
    · obtain ⟨v, g1, g2⟩ := bget (R := R) (y := r + j * b) hx
      rw [hRc.is _ (by omega)] at g2
      rw [if_pos (by rw [decide_eq_true_eq]; omega), if_pos (by decide), at_of g1, Option.bind_some]
      unfold f11_p18
      cases v with
      | true =>
        rw [if_pos rfl, Option.bind_some, h0b, Option.bind_some, fi_hit hR hr hn (g2.1 rfl)]
        obtain ⟨k', rfl⟩ : ∃ k', k = k' + 1 := ⟨k - 1, by omega⟩
        unfold f11_p15
        have c : ¬ (decide (((r + j * b : Nat) : Int) < 0) = true) := by rw [decide_eq_true_eq]; omega
        rw [if_neg c]
        split <;> rfl
      | false =>
        rw [if_neg (by decide), Option.bind_some, h0b, Option.bind_some, show w64 (((r + j * b : Nat) : Int) + b) = ((r + (j + 1) * b : Nat) : Int) by rw [w64_in (by omega)]; omega]
        have hjb : j ≤ j * b := Nat.le_mul_of_pos_right j (by omega)
        refine ih (j + 1) (by omega) (by omega) (by omega) (by omega) fun i hi => ?_
        by_cases he : i = j
        · subst he; intro hm; have := g2.2 hm; cases this
        · exact hn i (by omega)
    · rw [if_neg (by rw [decide_eq_true_eq]; omega), fi_out hR ha hb hr hn (by omega)]
end

/-- Sum, greatest gap, and whether all are there. -/
def sumL (f : Nat → Int) : Nat → Int
  | 0 => 0
  | r + 1 => sumL f r + f r
def topL (b : Int) (f : Nat → Int) : Nat → Int
  | 0 => -1
  | r + 1 => if f r - b > topL b f r then f r - b else topL b f r
def finL (f : Nat → Int) : Nat → Bool
  | 0 => true
  | r + 1 => if finL f r = true then decide (f r ≥ 0) else false
theorem finL_iff (f : Nat → Int) : ∀ r, finL f r = true ↔ ∀ q, q < r → 0 ≤ f q
  | 0 => by simp [finL]
  | r + 1 => by
    have ih := finL_iff f r
    unfold finL
    by_cases h : finL f r = true
    · rw [if_pos h, decide_eq_true_eq]
      constructor
      · intro h2 q hq
        by_cases he : q = r
        · subst he; exact h2
        · exact ih.1 h q (by omega)
      · intro h2; exact h2 r (by omega)
    · rw [if_neg h]
      constructor
      · intro h2; cases h2
      · intro h2; exact absurd (ih.2 fun q hq => h2 q (by omega)) h
theorem sumL_bd {f : Nat → Int} {b : Nat} (h : ∀ q, q < b → -1 ≤ f q ∧ f q ≤ 870) : ∀ r, r ≤ b → -(r : Int) ≤ sumL f r ∧ sumL f r ≤ 870 * r
  | 0, _ => by simp [sumL]
  | r + 1, hr => by
    have := sumL_bd h r (by omega)
    have := h r (by omega)
    rw [sumL]; omega
theorem topL_is {b : Int} {f : Nat → Int} : ∀ r, (∀ q, q < r → f q - b ≤ topL b f r) ∧ (topL b f r = -1 ∨ ∃ q, q < r ∧ topL b f r = f q - b) ∧ -1 ≤ topL b f r
  | 0 => ⟨fun q h => by omega, Or.inl rfl, Int.le_refl _⟩
  | r + 1 => by
    obtain ⟨h1, h2, h3⟩ := topL_is (b := b) (f := f) r
    unfold topL
    by_cases h : f r - b > topL b f r
    · rw [if_pos h]
      refine ⟨fun q hq => ?_, Or.inr ⟨r, by omega, rfl⟩, by omega⟩
      by_cases he : q = r
      · subst he; exact Int.le_refl _
      · have := h1 q (by omega); omega
    · rw [if_neg h]
      refine ⟨fun q hq => ?_, h2.imp id fun ⟨q, q1, q2⟩ => ⟨q, by omega, q2⟩, h3⟩
      by_cases he : q = r
      · subst he; omega
      · exact h1 q (by omega)

theorem p2_eq {a L : List Int} {b : Nat} (hR : Ring a b L) (ha : ∀ x ∈ a, 1 ≤ x ∧ x ≤ 30) (hb : 1 ≤ b ∧ b ≤ 30) {R : List Bool} (hRc : Rch a 2000 R) {x5 : Int} :
    ∀ (k r : Nat), r ≤ b → b < k + r → f11_p2 2100 a x5 b R L k (sumL (nt L) r) (topL b (nt L) r) (finL (nt L) r) r = some (.c1 (sumL (nt L) b) (topL b (nt L) b) (finL (nt L) b)) := by
  have hl := hR.len
  have hbd : ∀ q, q < b → -1 ≤ nt L q ∧ nt L q ≤ 870 := fun q hq => by
    have := hR.bound ha hb hq
    rcases hR.val q hq with h | h <;> omega
  intro k
  induction k with
  | zero => intro r _ h; omega
  | succ k ih =>
    intro r h1 h2
    unfold f11_p2
    by_cases hr : r < b
    · have e6 := p6_eq hR ha hb hRc hr (x5 := x5) (x12 := sumL (nt L) r) (x13 := topL b (nt L) r) (x14 := finL (nt L) r) (x16 := nt L r) (x9 := L) (x15 := (r : Int)) 2100 0 (by omega) (by omega) (by omega) (by omega) (fun i hi => by omega)
      rw [Nat.zero_mul, Nat.add_zero] at e6
      have hs := sumL_bd hbd r (by omega)
      have hv := hbd r hr
      have hi := ih (r + 1) (by omega) (by omega)
      have e1 : w64 (sumL (nt L) r + nt L r) = sumL (nt L) (r + 1) := by rw [w64_in (by omega)]; rfl
      have e2 : w64 (nt L r - b) = nt L r - b := w64_in (by omega)
      rw [if_pos (by simp; omega), at_get (by omega), Option.bind_some, ← nt_get (by omega), e6, Option.bind_some, if_neg (by simp), e1, e2, w64_succ (by omega)]
      by_cases hf : finL (nt L) r = true
      · rw [if_pos hf]
        have : finL (nt L) (r + 1) = decide (nt L r ≥ 0) := by rw [finL, if_pos hf]
        rw [this] at hi
        exact hi
      · rw [if_neg hf]
        have : finL (nt L) (r + 1) = false := by rw [finL, if_neg hf]
        rw [this] at hi
        exact hi
    · have : r = b := by omega
      subst this
      rw [if_neg (by simp; omega)]

/-- The sum tells how many gaps there are. -/
theorem sum_count {a L : List Int} {b : Nat} (hR : Ring a b L) (hpos : ∀ q, q < b → 0 ≤ nt L q) : ∀ r, r ≤ b → 2 * sumL (nt L) r = 2 * ((b * (gl b L r).length : Nat) : Int) + ((r * (r - 1) : Nat) : Int)
  | 0, _ => by simp [sumL, gl]
  | r + 1, hr => by
    have ih := sum_count hR hpos r (by omega)
    have hp := hpos r (by omega)
    have hm : (nt L r).toNat % b = r := by
      rcases hR.val r (by omega) with h | ⟨_, _, h⟩
      · omega
      · exact h
    have e := Nat.div_add_mod (nt L r).toNat b
    rw [hm] at e
    rw [sumL, gl_succ, List.length_append, rn_len, Nat.mul_add, Nat.add_sub_cancel]
    have e2 : (r + 1) * r = r * (r - 1) + 2 * r := by
      cases r with
      | zero => rfl
      | succ r => rw [Nat.add_sub_cancel, Nat.succ_mul (r + 1) (r + 1), Nat.mul_succ (r + 1) r]; omega
    omega

theorem Md.plus {a : List Int} {m n : Nat} (h : Md a m) (k : Md a n) : Md a (m + n) := by
  induction k with
  | zero => exact h
  | add hs _ ih => rw [← Nat.add_assoc]; exact .add hs ih
/-- At least half of the numbers up to a gap are gaps. -/
theorem half_le {a l : List Int} (hG : Gaps a l) {t : Nat} (ht : ¬ Md a t) (hmax : ∀ x ∈ l, x ≤ (t : Int)) : (t : Int) + 1 ≤ 2 * (l.length : Int) := by
  obtain ⟨z, hz⟩ : ∃ z : Nat → Bool, ∀ n, z n = true ↔ Md a n := ⟨fun n => @decide _ (Classical.propDecidable (Md a n)), fun n => by simp⟩
  have hG2 : Gaps a (((List.range (t + 1)).filter fun n => !z n).map fun (n : Nat) => (n : Int)) := by
    refine ⟨?_, fun x => ?_⟩
    · rw [List.pairwise_map]
      exact (List.pairwise_lt_range.filter _).imp fun h => by omega
    · rw [List.mem_map]
      constructor
      · rintro ⟨n, h1, rfl⟩
        obtain ⟨_, h2⟩ := List.mem_filter.1 h1
        exact ⟨by omega, fun hm => by rw [Int.toNat_natCast, ← hz] at hm; rw [hm] at h2; cases h2⟩
      · rintro ⟨h0, hn⟩
        have hle := hmax x ((hG.mem x).2 ⟨h0, hn⟩)
        refine ⟨x.toNat, List.mem_filter.2 ⟨List.mem_range.2 (by omega), ?_⟩, by omega⟩
        have : z x.toNat = false := by
          cases h : z x.toNat with
          | false => rfl
          | true => exact absurd ((hz _).1 h) hn
        rw [this]; rfl
  have e := hG.uniq hG2 fun _ => Iff.rfl
  rw [e, List.length_map, ← List.countP_eq_length_filter]
  have h1 : (List.range (t + 1)).countP z ≤ (List.range (t + 1)).countP fun n => !z n := by
    have er : (List.range (t + 1)).reverse = (List.range (t + 1)).map fun x => t - x := by
      rw [List.range_eq_range', List.reverse_range', ← List.range_eq_range']
      exact List.map_congr_left fun x _ => by omega
    rw [← List.countP_reverse (p := z), er, List.countP_map]
    refine List.countP_mono_left fun x hx h => ?_
    have hx := List.mem_range.1 hx
    have h : z (t - x) = true := h
    have hm := (hz _).1 h
    cases hzx : z x with
    | false => rfl
    | true =>
      exfalso
      apply ht
      have : Md a (t - x + x) := hm.plus ((hz _).1 hzx)
      rwa [show t - x + x = t by omega] at this
  have h2 := List.length_eq_countP_add_countP z (l := List.range (t + 1))
  rw [List.length_range] at h2
  have h3 : (List.range (t + 1)).countP (fun a => decide ¬ z a = true) = (List.range (t + 1)).countP (fun n => !z n) := List.countP_congr fun x _ => by simp
  omega

theorem f11_plain (z t : List Int) (c m k0 : Int) (hz : z.length = 4) (hzr : ∀ x ∈ z, 0 ≤ x ∧ x ≤ 255) (ht : t.length = 4) (htr : ∀ x ∈ t, 0 ≤ x ∧ x ≤ 255) (hc : 0 ≤ c ∧ c ≤ 255) (hm : 0 ≤ m ∧ m ≤ 255) (hk0 : 0 ≤ k0 ∧ k0 ≤ 65535) : f11 2100 z t c m k0 = some true := by
  obtain ⟨a, st, e1, hst, e2, e3, _⟩ := made2_eq (sz := 30) (st := 1) hz hzr ht htr (by omega) (by omega) hc
  have hck := (stk_zero hst).1
  obtain ⟨c1, c2, _⟩ := ck_zero hck
  have ha := ck_all hck
  have ew := works
  obtain ⟨k, ek, hk⟩ : ∃ k : Nat, Int.tmod (w64 m) ((List.length a : Nat) : Int) = (k : Int) ∧ k < a.length := by
    have h1 := Int.emod_nonneg m (b := (a.length : Int)) (by omega)
    have h2 := Int.emod_lt_of_pos m (b := (a.length : Int)) (by omega)
    refine ⟨(m % (a.length : Int)).toNat, ?_, by omega⟩
    rw [w64_in (by omega), Int.tmod_eq_emod_of_nonneg (by omega)]; omega
  obtain ⟨n, en, hn⟩ : ∃ n : Nat, Int.tmod (w64 k0) 1001 = (n : Int) ∧ n ≤ 1000 := by
    refine ⟨(k0 % 1001).toNat, ?_, by omega⟩
    rw [w64_in (by omega), Int.tmod_eq_emod_of_nonneg (by omega)]; omega
  have hb := ha _ (List.getElem_mem hk)
  obtain ⟨b, eb⟩ : ∃ b : Nat, a[k] = b := ⟨a[k].toNat, by omega⟩
  have hb1 : 1 ≤ b ∧ b ≤ 30 := by omega
  have hba : (b : Int) ∈ a := by rw [← eb]; exact List.getElem_mem hk
  have hkb : a[k]? = some (b : Int) := by rw [List.getElem?_eq_getElem hk, eb]
  obtain ⟨L, g1, hR⟩ := f24_eq hck hkb
  have hl := hR.len
  obtain ⟨R, g2, hRc⟩ := f54_eq (F := 2100) (N := 2000) ha (by omega) (by omega) (by omega) (by omega)
  have g3 := p2_eq hR ha hb1 hRc (x5 := k0) 2100 0 (by omega) (by omega)
  have g3 : f11_p2 2100 a k0 b R L 2100 0 (-1) true 0 = some (.c1 (sumL (nt L) b) (topL b (nt L) b) (finL (nt L) b)) := g3
  obtain ⟨zn, g4, hzn⟩ := f17_eq (n := n) hck hn
  obtain ⟨b0, L0, hF⟩ := First.of hck
  obtain ⟨g5, g6⟩ := f21_eq hck hF hn
  obtain ⟨v, g7, g8⟩ := bget (R := R) (y := n) (by rw [hRc.len]; omega)
  rw [hRc.is n (by omega)] at g8
  have hvz : zn = v := by rw [Bool.eq_iff_iff, hzn, g8]
  obtain ⟨zc, g9, hzc⟩ := f53_eq (F := 2100) (a := a) (by omega) c1 (by omega) ha
  have hfin : finL (nt L) b = !zc := by
    have h1 := hR.inf ha hb1 hba
    rw [has_neg hR] at h1
    rw [Bool.eq_iff_iff, finL_iff]
    have : ((!zc) = true) ↔ ¬ Com a := by rw [← hzc]; simp
    rw [this, ← h1]
    constructor
    · rintro h ⟨q, q1, q2⟩
      have := h q q1; omega
    · intro h q hq
      rcases hR.val q hq with h2 | h2
      · exact absurd ⟨q, hq, h2⟩ h
      · exact h2.1
  -- why it cannot be made
  obtain ⟨r1, r2, r3, g10, g11⟩ : ∃ r1 r2 r3, f21 2100 a n = some (r1, r2, r3) ∧ f11_p12 2100 a k0 b R (sumL (nt L) b) (topL b (nt L) b) (finL (nt L) b) r1 r2 r3 zn = some .c1 := by
    by_cases hmd : Md a n
    · refine ⟨0, 0, 13, g5 hmd, ?_⟩
      unfold f11_p12
      rw [hzn.2 hmd, if_pos rfl, if_neg (by decide), if_neg (by decide), if_neg (by decide)]
    · refine ⟨_, _, _, g6 hmd, ?_⟩
      have hzf : zn = false := by
        cases h : zn with
        | false => rfl
        | true => exact absurd (hzn.1 h) hmd
      have hq := Nat.mod_lt n hF.lo
      have hmod : Int.tmod (n : Int) (b0 : Int) = ((n % b0 : Nat) : Int) := by rw [Int.tmod_eq_emod_of_nonneg (by omega), Int.natCast_emod]
      have hlo := hF.lo
      have hhi := hF.hi
      have e15 := p15_eq hF.ring ha ⟨hF.lo, hF.hi⟩ hF.at0 hRc hq (x5 := k0) (x8 := (b : Int)) (x22 := sumL (nt L) b) (x23 := topL b (nt L) b) (x24 := finL (nt L) b) (x27 := ((n % b0 : Nat) : Int)) (x28 := nt L0 (n % b0)) (x29 := 0) 2100 0 (by omega) (by omega) (by omega) (by omega) (fun i hi => by omega)
      rw [Nat.zero_mul, Nat.add_zero] at e15
      unfold f11_p12
      rw [hzf, if_neg (by decide), hF.at0, Option.bind_some, req_pos (by omega), en, hmod, e15, Option.bind_some, if_neg (by decide), if_neg (by simp), if_neg (by simp)]
      have hcan := hF.ring.can hF.mem hF.lo n
      by_cases h0 : 0 ≤ nt L0 (n % b0)
      · rw [if_pos (by simpa using h0), if_neg (by rw [decide_eq_true_eq]; exact fun h => hmd (hcan.2 ⟨h0, h⟩))]
      · rw [if_neg (by simpa using h0)]
  unfold f11
  rw [e1, Option.bind_some]
  dsimp only
  rw [req_pos (by omega), ek, at_of hkb, Option.bind_some, g1, Option.bind_some]
  dsimp only
  rw [if_neg (by decide), if_neg (by simp [hl]), show f54 2100 a 2000 = some R from g2, Option.bind_some, g3, Option.bind_some]
  dsimp only
  rw [en, g4, Option.bind_some]
  dsimp only
  rw [g10, Option.bind_some]
  dsimp only
  rw [if_neg (by decide), at_of g7, Option.bind_some, if_pos (by rw [hvz]; simp), g11, Option.bind_some]
  dsimp only
  by_cases hcom : Com a
  · obtain ⟨k1, k2, _⟩ := inf_eq hck hcom
    have hz1 : zc = true := hzc.2 hcom
    rw [k1, Option.bind_some]
    dsimp only
    rw [k2, Option.bind_some]
    dsimp only
    rw [g9, Option.bind_some, hfin, hz1, if_neg (by decide), if_neg (by decide), if_pos (by decide), if_pos (by decide), ew]
    rfl
  · obtain ⟨l, k1, hG, k2, k3, k4, k5⟩ := fin_eq hck hcom
    have hz1 : zc = false := by
      cases h : zc with
      | false => rfl
      | true => exact absurd (hzc.1 h) hcom
    have hpos : ∀ q, q < b → 0 ≤ nt L q := (finL_iff _ _).1 (by rw [hfin, hz1]; rfl)
    have hbd : ∀ q, q < b → -1 ≤ nt L q ∧ nt L q ≤ 870 := fun q hq => by
      have := hR.bound ha hb1 hq
      have := hpos q hq
      omega
    obtain ⟨p1, p2⟩ := gl_gaps hR hba (by omega) hpos
    have hperm : l.Perm (gl b L b) := (List.perm_ext_iff_of_nodup (hG.so.imp fun h => Int.ne_of_lt h) p1).2 fun x => by rw [hG.mem, p2]
    have hcnt := sum_count hR hpos b (Nat.le_refl _)
    rw [← hperm.length_eq] at hcnt
    have hsb := sumL_bd hbd b (Nat.le_refl _)
    have hbl : b * l.length ≤ 30 * 900 := Nat.mul_le_mul hb1.2 k2
    have hbb : b * (b - 1) ≤ 30 * 30 := Nat.mul_le_mul hb1.2 (by omega)
    have ebb : w64 ((b : Int) * w64 ((b : Int) - 1)) = ((b * (b - 1) : Nat) : Int) := by
      rw [wm hb1.1 (by omega), ← Int.natCast_mul, w64_nat (by omega)]
    have ebl : w64 ((b : Int) * (l.length : Int)) = ((b * l.length : Nat) : Int) := by
      rw [← Int.natCast_mul, w64_nat (by omega)]
    have eq : w64 (sumL (nt L) b - w64 (Int.tdiv (w64 ((b : Int) * w64 ((b : Int) - 1))) 2)) = ((b * l.length : Nat) : Int) := by
      rw [ebb, Int.tdiv_eq_ediv_of_nonneg (by omega), w64_in (n := ((b * (b - 1) : Nat) : Int) / 2) (by omega), w64_in (by omega)]; omega
    obtain ⟨t1, t2, t3⟩ := topL_is (b := (b : Int)) (f := nt L) b
    rw [k1, Option.bind_some]
    dsimp only
    by_cases hl0 : l = []
    · subst hl0
      obtain ⟨q1, _⟩ := k4 rfl
      have htop : topL b (nt L) b < 1 := by
        rcases t2 with h | ⟨q, q1, q2⟩
        · omega
        · false_or_by_contra
          have hq := hpos q q1
          have hmem : nt L q - b ∈ ([] : List Int) := by
            rw [hG.mem]
            refine ⟨by omega, fun hm => ?_⟩
            have h1 := hR.low _ hm
            rcases hR.val q q1 with h2 | ⟨_, _, h3⟩
            · omega
            · have e5 : (nt L q - b).toNat % b = q := by
                have : (nt L q).toNat = (nt L q - b).toNat + b := by omega
                rw [this, Nat.add_mod_right] at h3
                exact h3
              rw [e5] at h1; omega
          cases hmem
      rw [q1, Option.bind_some]
      dsimp only
      rw [g9, Option.bind_some, hfin, hz1, if_neg (by decide), if_pos (by decide), if_neg (by decide), ebl, eq, if_neg (by simp), if_pos (by decide), if_pos (by decide), if_pos (by simpa using htop), ew]
      rfl
    · obtain ⟨w, hw⟩ : ∃ w, l.getLast? = some w := by
        cases h : l.getLast? with
        | none => exact absurd (List.getLast?_eq_none_iff.1 h) hl0
        | some w => exact ⟨w, rfl⟩
      obtain ⟨q1, _⟩ := k5 w hw
      have hwl : w ∈ l := List.mem_of_getLast? hw
      have hwm := (hG.mem w).1 hwl
      -- the last one is the greatest
      have hmax : ∀ x ∈ l, x ≤ w := fun x hx => by
        have e5 : l = l.dropLast ++ [w] := by
          have := List.dropLast_concat_getLast hl0
          rw [List.getLast?_eq_some_getLast hl0] at hw
          have hw := Option.some.inj hw
          rw [hw] at this; exact this.symm
        have hso := hG.so
        rw [e5] at hso hx
        rcases List.mem_append.1 hx with hx | hx
        · have := (List.pairwise_append.1 hso).2.2 x hx w (by simp)
          omega
        · rw [List.mem_singleton.1 hx]; exact Int.le_refl _
      have hgap : ∀ x ∈ l, ∃ q, q < b ∧ x ≤ nt L q - b ∧ 0 ≤ x := fun x hx => by
        have hm := (hG.mem x).1 hx
        have hq := Nat.mod_lt x.toNat hb1.1
        refine ⟨x.toNat % b, hq, ?_, hm.1⟩
        have hcan := hR.can hba hb1.1 x.toNat
        have hp := hpos _ hq
        have hlt : ¬ nt L (x.toNat % b) ≤ (x.toNat : Int) := fun h => hm.2 (hcan.2 ⟨hp, h⟩)
        rcases hR.val _ hq with h2 | ⟨_, _, h3⟩
        · omega
        · have d1 := Nat.div_add_mod x.toNat b
          have d2 := Nat.div_add_mod (nt L (x.toNat % b)).toNat b
          rw [h3] at d2
          have hdiv : x.toNat / b < (nt L (x.toNat % b)).toNat / b := by
            false_or_by_contra
            have : b * ((nt L (x.toNat % b)).toNat / b) ≤ b * (x.toNat / b) := Nat.mul_le_mul_left b (by omega)
            omega
          have := Nat.mul_le_mul_left b hdiv
          rw [Nat.succ_eq_add_one, Nat.mul_succ] at this
          omega
      have htop : w = topL b (nt L) b := by
        obtain ⟨q, q2, q3, q4⟩ := hgap w hwl
        have h1 := t1 q q2
        rcases t2 with h | ⟨q', q5, q6⟩
        · omega
        · have hmem : nt L q' - b ∈ l := by
            rw [hG.mem]
            refine ⟨by omega, fun hm => ?_⟩
            have h1 := hR.low _ hm
            rcases hR.val q' q5 with h2 | ⟨_, _, h3⟩
            · have := hpos q' q5; omega
            · have e5 : (nt L q' - b).toNat % b = q' := by
                have : (nt L q').toNat = (nt L q' - b).toNat + b := by omega
                rw [this, Nat.add_mod_right] at h3
                exact h3
              rw [e5] at h1; omega
          have := hmax _ hmem
          omega
      have hhalf := half_le hG (t := w.toNat) hwm.2 (fun x hx => by have := hmax x hx; omega)
      have hwb := k3 w hwl
      have hl1 : l.length ≠ 0 := fun h => hl0 (List.length_eq_zero_iff.1 h)
      rw [q1, Option.bind_some]
      dsimp only
      rw [g9, Option.bind_some, hfin, hz1, if_neg (by decide), if_pos (by decide), if_neg (by decide), ebl, eq, if_neg (by simp), if_neg (by rw [beq_iff_eq]; omega), if_pos (by decide), if_pos (by rw [htop]; simp), w64_in (n := 2 * (l.length : Int)) (by omega), w64_in (n := w + 1) (by omega), if_pos (decide_eq_true (by omega)), ew]
      rfl

end Go.Gh.Pack
