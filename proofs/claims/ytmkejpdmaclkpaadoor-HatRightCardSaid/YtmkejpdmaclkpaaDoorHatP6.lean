/- The plain law of HatRight. -/
import Derived.Test.YtmkejpdmaclkpaaDoorHatM
namespace Go.Gh.Hat
set_option linter.unusedVariables false
set_option linter.unusedSimpArgs false

section
variable {n : Nat} {s : List (List Int)}

/-- What a colouring adds to a helper's balance. -/
def bal (s : List (List Int)) (c j : Nat) : Int := (rt s c j : Int) - (wr s c j : Int)

theorem bal_le (s : List (List Int)) (c j : Nat) : -1 ≤ bal s c j ∧ bal s c j ≤ 1 := by
  unfold bal rt wr; split <;> split <;> omega

theorem bal_p (v : VP n s) (hn : n ≤ 4) {c : Nat} (hc : c < 2 ^ n) (x5 x6 x7 x39 x43 x40 x44 : Int) : ∀ (m i f : Nat) (b : Nat → Int), m < f → i + m = n → (∀ j, i ≤ j → -1000 ≤ b j ∧ b j ≤ 1000) →
    f6_p6_1 1000 n x5 x6 x7 x39 x43 x40 x44 c (mapF (sv s c) 0 n) s f i (mapF b 0 4) = some (.c1 (mapF (fun j => if i ≤ j ∧ j < n then b j + bal s c j else b j) 0 4))
  | 0, i, f + 1, b, _, hi, _ => by
    have : ¬ (i : Int) < (n : Int) := by omega
    have e : mapF (fun j => if i ≤ j ∧ j < n then b j + bal s c j else b j) 0 4 = mapF b 0 4 := mapF_congr _ _ fun j _ _ => if_neg (by omega)
    simp only [f6_p6_1, mapF_len, decide_eq_false this, Bool.false_eq_true, if_false, e]
  | m + 1, i, f + 1, b, hf, hi, hb => by
    have hr := v.rng
    have hlt : (i : Int) < (n : Int) := by omega
    obtain ⟨l, g1, g2, g3, g4⟩ := v.at (i := i) (by omega) hc
    have hbit := bit_le c i
    have hbi := hb i (Nat.le_refl _)
    have hat : at? (mapF (sv s c) 0 n) (i : Int) = some (sv s c i) := by
      have := mapF_get (f := sv s c) n 0 i (by omega)
      rw [Nat.zero_add] at this
      exact at_of this
    have hget : (mapF b 0 4)[i]? = some (b i) := by
      have := mapF_get (f := b) 4 0 i (by omega)
      rwa [Nat.zero_add] at this
    have hset : ∀ x : Int, x = b i + bal s c i → (mapF b 0 4).set i x = mapF (fun j => if j = i then b j + bal s c j else b j) 0 4 := by
      intro x hx
      rw [mapF_set _ _ _ (by omega)]
      apply mapF_congr
      intro j _ _
      simp only [Nat.zero_add]
      by_cases e : j = i
      · subst e; rw [if_pos rfl, if_pos rfl, hx]
      · rw [if_neg e, if_neg e]
    have hstep : f6_p11_3 1000 n x5 x6 x7 x39 x43 x40 x44 c i (mapF (sv s c) 0 n) (sv s c i) s (mapF b 0 4) = some (mapF (fun j => if j = i then b j + bal s c j else b j) 0 4) := by
      unfold f6_p11_3 f6_p12_3
      rw [arB (by omega) (v.c128 hc), w64_in (n := 1 - (bit c i : Int)) (by omega)]
      simp only [Int.toNat_natCast, Nat.zero_add, Nat.mul_one]
      by_cases q2 : sv s c i = (bit c i : Int)
      · have e1 : rt s c i = 1 := by unfold rt; rw [if_pos q2]
        have e2 : wr s c i = 0 := by unfold wr; rw [if_neg (by simp [q2])]
        rw [if_pos (by simpa using q2), req_pos (by omega), hget]
        simp only [Option.bind_some]
        rw [req_pos (by omega), w64_in (by omega), hset _ (by unfold bal; rw [e1, e2]; omega)]
      · have e1 : rt s c i = 0 := by unfold rt; rw [if_neg q2]
        rw [if_neg (by simpa using q2), req_pos (by omega)]
        by_cases q1 : sv s c i = 2
        · have e2 : wr s c i = 0 := by unfold wr; rw [if_neg (by simp [q1])]
          have q3 : ¬ sv s c i = 1 - (bit c i : Int) := by omega
          rw [if_neg (by simpa using q3)]
          simp only [Option.bind_some]
          congr 1
          apply mapF_congr
          intro j _ _
          by_cases e : j = i
          · subst e; rw [if_pos rfl]; unfold bal; rw [e1, e2]; omega
          · rw [if_neg e]
        · have e2 : wr s c i = 1 := by unfold wr; rw [if_pos ⟨q1, q2⟩]
          have q3 : sv s c i = 1 - (bit c i : Int) := by omega
          rw [if_pos (by simpa using q3), req_pos (by omega), hget]
          simp only [Option.bind_some]
          rw [req_pos (by omega), w64_in (by omega), hset _ (by unfold bal; rw [e1, e2]; omega)]
          rfl
    simp only [f6_p6_1, mapF_len, decide_eq_true hlt, if_true, hat, Option.bind_some]
    rw [f40_eq hr hc (by omega), f41_eq hn (by omega) hc]
    simp only [Option.bind_some, g1, g2, bne_self_eq_false, Bool.false_eq_true, if_false]
    rw [req_pos (by omega), hstep]
    simp only [Option.bind_some]
    rw [w64_nat (by omega), bal_p v hn hc x5 x6 x7 x39 x43 x40 x44 m (i + 1) f (fun j => if j = i then b j + bal s c j else b j) (by omega) (by omega) (fun j => ?_)]
    · congr 2
      apply mapF_congr
      intro j _ _
      by_cases e : j = i
      · subst e; rw [if_neg (by omega), if_pos rfl, if_pos (by omega)]
      · by_cases g : i + 1 ≤ j ∧ j < n
        · rw [if_pos g, if_neg e, if_pos (by omega)]
        · rw [if_neg g, if_neg e, if_neg (by omega)]
    · intro hj
      have hne : ¬ j = i := by omega
      simp only [if_neg hne]
      exact hb j (by omega)

theorem all_p (v : VP n s) (hn : n ≤ 4) (x5 x6 x7 : Int) : ∀ (m c f r w : Nat) (b : Nat → Int), m < f → c + m = 2 ^ n → r ≤ 7 * c → w ≤ 7 * c → (∀ j, -(c : Int) ≤ b j ∧ b j ≤ (c : Int)) →
    f6_p1_8 1000 n x5 x6 x7 s f r w c (mapF b 0 4) = some (.c1 ((r + sumF (R s n) c m : Nat) : Int) ((w + sumF (Wn s n) c m : Nat) : Int)
      (mapF (fun j => if j < n then b j + ((sumF (fun c => rt s c j) c m : Nat) : Int) - ((sumF (fun c => wr s c j) c m : Nat) : Int) else b j) 0 4))
  | 0, c, f + 1, r, w, b, _, hi, _, _, _ => by
    have : ¬ (c : Int) < ((2 ^ n : Nat) : Int) := by omega
    have e : mapF (fun j => if j < n then b j + ((sumF (fun c => rt s c j) c 0 : Nat) : Int) - ((sumF (fun c => wr s c j) c 0 : Nat) : Int) else b j) 0 4 = mapF b 0 4 := by
      apply mapF_congr
      intro j _ _
      simp [sumF]
    rw [e]
    simp only [f6_p1_8, shl_eq v.rng.2, decide_eq_false this, Bool.false_eq_true, if_false, sumF, Nat.add_zero]
  | m + 1, c, f + 1, r, w, b, hf, hi, h1, h2, hb => by
    have hp := pw_le v.rng.2
    have hr := v.rng
    have b1 := R_le s n c
    have b2 := Wn_le s n c
    have hlt : (c : Int) < ((2 ^ n : Nat) : Int) := by omega
    have hin := bal_p v hn (show c < 2 ^ n by omega) x5 x6 x7 (r : Int) (R s n c : Int) (w : Int) (Wn s n c : Int) n 0 1000 b (by omega) (by omega) (fun j _ => by have := hb j; omega)
    simp only [Int.natCast_zero] at hin
    simp only [f6_p1_8, shl_eq v.rng.2, decide_eq_true hlt, if_true]
    rw [f38_eq v hn (by omega), f39_eq v (by omega)]
    simp only [Option.bind_some, mapF_len, bne_self_eq_false, Bool.false_eq_true, if_false]
    rw [hin]
    simp only [Option.bind_some, sumF]
    rw [w64_nat (by omega), w64_in (n := (r : Int) + (R s n c : Int)) (by omega), w64_in (n := (w : Int) + (Wn s n c : Int)) (by omega), ← Int.natCast_add, ← Int.natCast_add]
    rw [all_p v hn x5 x6 x7 m (c + 1) f _ _ _ (by omega) (by omega) (by omega) (by omega) (fun j => ?_), Nat.add_assoc, Nat.add_assoc]
    · congr 2
      apply mapF_congr
      intro j _ _
      by_cases g : j < n
      · rw [if_pos g, if_pos g, if_pos (by omega)]
        unfold bal
        omega
      · rw [if_neg g, if_neg g, if_neg (by omega)]
    · have := hb j
      have := bal_le s c j
      split <;> omega
end

theorem f6_plain (x1 : Int) (ps : List Int) (h1 : 0 ≤ x1 ∧ x1 ≤ 255) (hps : ps.length = 32) (hb : ∀ x ∈ ps, 0 ≤ x ∧ x ≤ 255) : f6 1000 x1 ps = some true := by
  obtain ⟨n, s, e31, v, hn⟩ := f31_eq h1 hps hb (m := 4) (by omega)
  simp only [show ((4 : Nat) : Int) = 4 from rfl] at e31
  have hp := pw_le v.rng.2
  have ha := all_p v hn ((sumF (R s n) 0 (2 ^ n) : Nat) : Int) ((sumF (Wn s n) 0 (2 ^ n) : Nat) : Int) 0 (2 ^ n) 0 1000 0 0 (fun _ => 0) (by omega) (by omega) (by omega) (by omega) (fun j => by omega)
  simp only [Int.natCast_zero, Nat.zero_add] at ha
  have e0 : mapF (fun j => if j < n then (0 : Int) + ((sumF (fun c => rt s c j) 0 (2 ^ n) : Nat) : Int) - ((sumF (fun c => wr s c j) 0 (2 ^ n) : Nat) : Int) else 0) 0 4 = mapF (fun _ => 0) 0 4 := by
    apply mapF_congr
    intro j _ _
    by_cases g : j < n
    · rw [if_pos g, even v g]; omega
    · rw [if_neg g]
  rw [e0] at ha
  unfold f6
  rw [e31]
  simp only [Option.bind_some]
  rw [f37_eq v]
  simp only [Option.bind_some]
  rw [req_pos (by omega), mapF_rep 0 4 0, ha]
  simp only [Option.bind_some, beq_self_eq_true, if_true, even_all v]
  simp [works, eqL, mapF]

end Go.Gh.Hat
