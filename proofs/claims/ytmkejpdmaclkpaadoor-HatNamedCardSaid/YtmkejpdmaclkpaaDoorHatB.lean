/- Hats: bits, and sets of colourings by bits. -/
import Derived.Test.YtmkejpdmaclkpaaDoorHatP3
namespace Go.Gh.Hat
set_option linter.unusedVariables false
set_option linter.unusedSimpArgs false

theorem shr_eq {s c : Nat} (hc : c ≤ 63) : iShr .i64 ((s : Nat) : Int) ((c : Nat) : Int) = ((s / 2 ^ c : Nat) : Int) := by
  unfold iShr
  have e : min ((c : Nat) : Int).toNat (IntKind.bits .i64) = c := by
    rw [Int.toNat_natCast]; simp only [IntKind.bits]; omega
  rw [e, Int.fdiv_eq_ediv_of_nonneg _ (by exact_mod_cast Nat.zero_le _)]
  exact_mod_cast rfl

theorem and_eq {a b : Nat} (ha : a < 2 ^ 62) (hb : b < 2 ^ 62) : iAnd .i64 ((a : Nat) : Int) ((b : Nat) : Int) = ((a &&& b : Nat) : Int) := by
  unfold iAnd
  have h1 : a &&& b ≤ a := Nat.and_le_left
  rw [show IntKind.bits .i64 = 64 from rfl, BitVec.ofInt_natCast, BitVec.ofInt_natCast, BitVec.toNat_and, BitVec.toNat_ofNat, BitVec.toNat_ofNat, Nat.mod_eq_of_lt (by omega), Nat.mod_eq_of_lt (by omega)]
  exact w64_in (by omega)
theorem or_eq {a b : Nat} (ha : a < 2 ^ 62) (hb : b < 2 ^ 62) : iOr .i64 ((a : Nat) : Int) ((b : Nat) : Int) = ((a ||| b : Nat) : Int) := by
  unfold iOr
  have h1 : a ||| b < 2 ^ 62 := Nat.or_lt_two_pow ha hb
  rw [show IntKind.bits .i64 = 64 from rfl, BitVec.ofInt_natCast, BitVec.ofInt_natCast, BitVec.toNat_or, BitVec.toNat_ofNat, BitVec.toNat_ofNat, Nat.mod_eq_of_lt (by omega), Nat.mod_eq_of_lt (by omega)]
  exact w64_in (by omega)
theorem andNot_eq {a b : Nat} (ha : a < 2 ^ 62) (hb : b < 2 ^ 62) : ∃ r : Nat, iAndNot .i64 ((a : Nat) : Int) ((b : Nat) : Int) = (r : Int) ∧ r ≤ a ∧ ∀ i, r.testBit i = (a.testBit i && !b.testBit i) := by
  refine ⟨a &&& (2 ^ 64 - (b + 1)), ?_, Nat.and_le_left, ?_⟩
  · unfold iAndNot
    have h1 : a &&& (2 ^ 64 - (b + 1)) ≤ a := Nat.and_le_left
    rw [show IntKind.bits .i64 = 64 from rfl, BitVec.ofInt_natCast, BitVec.ofInt_natCast, BitVec.toNat_and, BitVec.toNat_not, BitVec.toNat_ofNat, BitVec.toNat_ofNat, Nat.mod_eq_of_lt (by omega), Nat.mod_eq_of_lt (by omega), show 2 ^ 64 - 1 - b = 2 ^ 64 - (b + 1) by omega]
    exact w64_in (by omega)
  · intro i
    rw [Nat.testBit_and, Nat.testBit_two_pow_sub_succ (by omega)]
    by_cases h : i < 64
    · simp [h]
    · have : a.testBit i = false := Nat.testBit_lt_two_pow (Nat.lt_of_lt_of_le ha (Nat.pow_le_pow_right (by omega) (by omega)))
      simp [this]

theorem and_one {a : Nat} (ha : a < 2 ^ 62) : iAnd .i64 ((a : Nat) : Int) 1 = ((a % 2 : Nat) : Int) := by
  have := and_eq (b := 1) ha (by omega)
  rw [Nat.and_one_is_mod] at this
  exact this

theorem filt_none {p : Nat → Bool} : ∀ m i, (∀ j, i ≤ j → p j = false) → filt p i m = []
  | 0, _, _ => rfl
  | m + 1, i, h => by
    simp only [filt]
    rw [filt_none m (i + 1) fun j hj => h j (by omega), h i (Nat.le_refl _)]
    rfl

theorem elements_p {s N : Nat} (hN : N ≤ 16) (hs : s < 2 ^ N) : ∀ (m c f : Nat) (out : List Int), m < f → c + m = N → out.length ≤ c →
    f43_p1 1000 s f c out = some (out ++ filt s.testBit c m)
  | 0, c, f + 1, out, _, hc, _ => by
    have : s / 2 ^ c = 0 := Nat.div_eq_of_lt (by rw [show c = N by omega]; exact hs)
    simp only [f43_p1]
    rw [req_pos (by omega), shr_eq (by omega), this]
    simp [filt]
  | m + 1, c, f + 1, out, hf, hc, ho => by
    have h62 : s < 2 ^ 62 := Nat.lt_of_lt_of_le hs (Nat.pow_le_pow_right (by omega) (by omega))
    have hd : s / 2 ^ c < 2 ^ 62 := Nat.lt_of_le_of_lt (Nat.div_le_self _ _) h62
    simp only [f43_p1]
    rw [req_pos (by omega), shr_eq (by omega)]
    by_cases h : s / 2 ^ c = 0
    · rw [h, if_neg (by simp), filt_none (m + 1) c]
      · simp
      · intro j hj
        have hlt : s < 2 ^ c := (Nat.div_eq_zero_iff_lt (Nat.pow_pos (by omega))).1 h
        exact Nat.testBit_lt_two_pow (Nat.lt_of_lt_of_le hlt (Nat.pow_le_pow_right (by omega) hj))
    · have hne : ((s / 2 ^ c : Nat) : Int) ≠ 0 := by omega
      rw [if_pos (by simpa using hne)]
      simp only [f43_p4_1, filt]
      rw [shr_eq (by omega), and_one hd, w64_nat (by omega), Nat.testBit_eq_decide_div_mod_eq]
      by_cases g : s / 2 ^ c % 2 = 1
      · rw [if_pos (by simp [g]), req_pos (by simp; omega)]
        simp only [Option.bind_some]
        rw [elements_p hN hs m (c + 1) f _ (by omega) (by omega) (by simp; omega)]
        simp [g]
      · have g' : s / 2 ^ c % 2 = 0 := by omega
        rw [if_neg (by simp [g'])]
        simp only [Option.bind_some]
        rw [elements_p hN hs m (c + 1) f _ (by omega) (by omega) (by omega)]
        simp [g']

theorem f43_eq {s N : Nat} (hN : N ≤ 16) (hs : s < 2 ^ N) : f43 1000 s = some (filt s.testBit 0 N) := by
  have := elements_p hN hs N 0 1000 [] (by omega) (by omega) (by simp)
  simp only [Int.natCast_zero, List.nil_append] at this
  unfold f43
  rw [this]
  simp only [Option.bind_some, take0]

theorem err_filt {p : Nat → Bool} {N : Nat} : ∀ (m i : Nat) (last : Int), last < (i : Int) → i + m ≤ N → errC N last (filt p i m) = 0
  | 0, _, _, _, _ => rfl
  | m + 1, i, last, h1, h2 => by
    simp only [filt]
    by_cases g : p i = true
    · rw [if_pos g]
      simp only [List.singleton_append, errC]
      rw [if_neg (by omega), if_neg (by omega)]
      exact err_filt m (i + 1) i (by omega) (by omega)
    · rw [if_neg g]
      exact err_filt m (i + 1) last (by omega) (by omega)

theorem chk_filt {p : Nat → Bool} {n : Nat} (hn : 1 ≤ n ∧ n ≤ 7) : chkC n (filt p 0 (2 ^ n)) = 0 := by
  unfold chkC
  rw [if_pos (by omega), Int.toNat_natCast]
  exact err_filt _ _ _ (by omega) (by omega)

theorem mem_set {p : Nat → Bool} {N x : Nat} (hx : x < N) : (x : Int) ∈ filt p 0 N ↔ p x = true := by
  rw [mem_filt]
  constructor
  · rintro ⟨j, h1, _, _, h4⟩
    rw [show x = j by omega]; exact h4
  · intro h; exact ⟨x, rfl, by omega, by omega, h⟩

theorem has_set {p : Nat → Bool} {N x : Nat} (hx : x < N) : has (filt p 0 N) x = if p x = true then 1 else 0 := by
  unfold has
  by_cases h : p x = true
  · rw [if_pos h, if_pos ((mem_set hx).2 h)]
  · rw [if_neg h, if_neg (fun q => h ((mem_set hx).1 q))]

theorem len_set {p : Nat → Bool} {n : Nat} (hn : n ≤ 7) : (filt p 0 (2 ^ n)).length ≤ 200 := by
  have h1 := pw_le hn
  have h2 := filt_len p (2 ^ n) 0
  omega

end Go.Gh.Hat
