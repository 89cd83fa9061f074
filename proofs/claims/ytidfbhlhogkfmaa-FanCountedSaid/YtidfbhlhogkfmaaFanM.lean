/- What a fan made by numbers is: valid. -/
import Derived.Test.YtidfbhlhogkfmaaFanY
namespace Go.Gh.Fan
set_option linter.unusedVariables false
set_option linter.unusedSimpArgs false

theorem f37_eq {F : Nat} {k : Int} {w : Bool} (h : 0 ≤ k ∧ k ≤ 1000) : f37 F k w = some (dist w k) := by
  unfold f37 dist
  cases w
  · rfl
  · simp only [if_true]; rw [w64_in (by omega)]

theorem empty_pos {m : Nat} {k : Int} (h : k ≠ 0) : posF 0 (List.replicate m (0 : Int)) k = [] := by
  apply List.eq_nil_iff_forall_not_mem.2
  intro x hx
  obtain ⟨_, h2⟩ := mem_pos.1 hx
  rw [List.getElem?_replicate] at h2
  split at h2
  · cases h2; exact h rfl
  · cases h2

theorem empty_val {m : Nat} {w : Bool} (h : 1 ≤ m ∧ m ≤ 8) : Val (m : Int) w (List.replicate (2 * m) 0) := by
  refine ⟨by omega, by simp, ?_, ?_⟩
  · intro x hx
    have := List.eq_of_mem_replicate hx
    omega
  · intro k h1 h2
    rw [empty_pos (by omega)]; rfl

theorem tmod_byte {x m : Int} (h0 : 0 ≤ x) (h1 : x ≤ 255) (hm : 0 < m) : Int.tmod (w64 x) m = x % m := by
  rw [w64_in (by omega), Int.tmod_eq_emod_of_nonneg h0]

theorem f43_p1_eq {F : Nat} {x1 : Int} {w : Bool} {ps : List Int} {x4 x5 : Int} (hps : ps.length = 8) (hb : ∀ x ∈ ps, 0 ≤ x ∧ x ≤ 255) {n : Nat} (hn : 1 ≤ n ∧ n ≤ 8)
    (hN : w64 (1 + Int.tmod (w64 x1) x5) = (n : Int)) : ∀ (k f : Nat) (l : List Int), k < f → k ≤ n → Val (n : Int) w l → (∀ j : Int, 1 ≤ j → j ≤ k → posF 0 l j = []) →
    ∃ l', f43_p1 F x1 w ps x4 x5 f k l = some l' ∧ Val (n : Int) w l'
  | 0, f + 1, l, _, _, v, _ => ⟨l, by simp [f43_p1], v⟩
  | k + 1, f + 1, l, hf, hk, v, hj => by
    have hlen := v.len
    have hgt : ((k + 1 : Nat) : Int) > 0 := by omega
    have e2n : w64 (2 * (n : Int)) = ((2 * n : Nat) : Int) := by rw [w64_in (by omega)]; omega
    have hx : ps[k]? = some ps[k] := List.getElem?_eq_getElem (by omega)
    have hxb := hb ps[k] (List.getElem_mem _)
    have hm : (ps[k] % ((2 * n : Nat) : Int)).toNat < 2 * n ∧ 0 ≤ ps[k] % ((2 * n : Nat) : Int) := by
      have := Int.emod_nonneg ps[k] (show ((2 * n : Nat) : Int) ≠ 0 by omega)
      have := Int.emod_lt_of_pos ps[k] (show (0 : Int) < ((2 * n : Nat) : Int) by omega)
      omega
    generalize hp : (ps[k] % ((2 * n : Nat) : Int)).toNat = p at hm
    have hp' : ps[k] % ((2 * n : Nat) : Int) = (p : Int) := by omega
    have hd := dN_rng (w := w) (k := k + 1) (by omega)
    have ek : w64 (((k + 1 : Nat) : Int) - 1) = (k : Int) := by rw [w64_in (by omega)]; omega
    have hrest : ∀ l', Val (n : Int) w l' → (∀ j : Int, 1 ≤ j → j ≤ k → posF 0 l' j = []) → ∃ l'', f43_p1 F x1 w ps x4 x5 f k l' = some l'' ∧ Val (n : Int) w l'' :=
      fun l' v' h' => f43_p1_eq hps hb hn hN k f l' (by omega) (by omega) v' h'
    simp only [f43_p1, decide_eq_true hgt, if_true, hN, e2n, ek, Int.toNat_natCast]
    rw [req_pos (by omega)]
    simp only [Nat.zero_add, Nat.mul_one, hx, Option.bind_some]
    rw [req_pos (by omega), f37_eq (by omega), dist_nat, Option.bind_some, req_pos (by omega), tmod_byte hxb.1 hxb.2 (by omega), hp']
    have same := hrest l v fun j h1 h2 => hj j h1 (by omega)
    by_cases g1 : (iAnd .u8 (iShr .u8 x4 (k : Int)) 1 == 1) = true
    · rw [if_pos g1, w64_in (n := (p : Int) + (dN w (k + 1) : Nat)) (by omega)]
      by_cases g2 : p + dN w (k + 1) < 2 * n
      · have g2' : (p : Int) + (dN w (k + 1) : Nat) < ((2 * n : Nat) : Int) := by omega
        rw [if_pos (by simpa using g2'), req_pos (by omega)]
        simp only [Int.toNat_natCast, get_atv (show p < l.length by omega), Option.bind_some]
        by_cases g3 : atv l p = 0
        · rw [if_pos (by simpa using g3), req_pos (by omega), show Int.toNat ((p : Int) + (dN w (k + 1) : Nat)) = p + dN w (k + 1) by omega, get_atv (by omega)]
          simp only [Option.bind_some, f43_p4_1, hN, e2n, Int.toNat_natCast, Nat.zero_add]
          rw [tmod_byte hxb.1 hxb.2 (by omega), hp', w64_in (n := (p : Int) + (dN w (k + 1) : Nat)) (by omega), Int.toNat_natCast, show Int.toNat ((p : Int) + (dN w (k + 1) : Nat)) = p + dN w (k + 1) by omega]
          by_cases g4 : atv l (p + dN w (k + 1)) = 0
          · rw [if_pos (by simpa using g4), req_pos (by omega), req_pos (by omega), req_pos (by omega), req_pos (by simp; omega)]
            simp only [Option.bind_some]
            have hfit : fitB w l (k + 1) p = true := by simp [fitB, g3, g4]; omega
            have h0 := hj ((k + 1 : Nat) : Int) (by omega) (by omega)
            refine hrest (set2 l p (p + dN w (k + 1)) ((k + 1 : Nat) : Int)) (put_val v (by omega) h0 hfit) fun j h1 h2 => ?_
            rw [put_other v (by omega) h0 hfit h1 (by omega)]
            exact hj j h1 (by omega)
          · rw [if_neg (by simpa using g4)]
            simp only [Option.bind_some]
            exact same
        · rw [if_neg (by simpa using g3)]
          exact same
      · have g2' : ¬ (p : Int) + (dN w (k + 1) : Nat) < ((2 * n : Nat) : Int) := by omega
        rw [if_neg (by simpa using g2')]
        exact same
    · rw [if_neg g1]
      exact same

/-- A fan made by numbers is valid. -/
theorem f43_eq {x1 : Int} (h1 : 0 ≤ x1 ∧ x1 ≤ 255) (w : Bool) {ps : List Int} (hps : ps.length = 8) (hb : ∀ x ∈ ps, 0 ≤ x ∧ x ≤ 255) (x4 : Int) {m : Nat} (hm : 1 ≤ m ∧ m ≤ 8) :
    ∃ n l, f43 100 x1 w ps x4 m = some (n, w, l) ∧ Val n w l ∧ n ≤ m := by
  have e0 := Int.emod_nonneg x1 (show (m : Int) ≠ 0 by omega)
  have e1 := Int.emod_lt_of_pos x1 (show (0 : Int) < (m : Int) by omega)
  obtain ⟨n, hn⟩ := Int.eq_ofNat_of_zero_le (show 0 ≤ 1 + x1 % (m : Int) by omega)
  have hN : w64 (1 + Int.tmod (w64 x1) m) = (n : Int) := by
    rw [tmod_byte h1.1 h1.2 (by omega), w64_in (by omega), hn]
  have e2n : w64 (2 * (n : Int)) = ((2 * n : Nat) : Int) := by rw [w64_in (by omega)]; omega
  obtain ⟨l, h2, v⟩ := f43_p1_eq (F := 100) (x1 := x1) (w := w) (ps := ps) (x4 := x4) (x5 := m) hps hb (n := n) (by omega) hN n 100 (List.replicate (2 * n) 0) (by omega) (Nat.le_refl _) (empty_val (by omega)) fun j h1 _ => empty_pos (by omega)
  refine ⟨n, l, ?_, v, by omega⟩
  have hlen := v.len
  unfold f43
  simp only [hN, e2n, Int.toNat_natCast]
  rw [req_pos (by omega), req_pos (by omega), h2]
  simp only [Option.bind_some]
  rw [req_pos (by omega), List.take_of_length_le (by omega)]
  rfl

end Go.Gh.Fan
