/- The plain law of HatMore. -/
import Derived.Test.YtmkejpdmaclkpaaDoorHatB
namespace Go.Gh.Hat
set_option linter.unusedVariables false
set_option linter.unusedSimpArgs false

def moreB : Bool := (List.range 5).all fun n => (List.range (2 ^ n)).all fun c => (List.range (2 ^ n)).all fun x =>
  (if (iAnd .i64 (iXor .i64 (x : Int) (c : Int)) (w64 ((iXor .i64 (x : Int) (c : Int)) - 1)) == 0) = true then (1 : Int) else 0) == ((cov n c x : Nat) : Int)
theorem moreB_true : moreB = true := by decide +kernel
theorem more_eq {n c x : Nat} (hn : n ≤ 4) (hc : c < 2 ^ n) (hx : x < 2 ^ n) : (if (iAnd .i64 (iXor .i64 (x : Int) (c : Int)) (w64 ((iXor .i64 (x : Int) (c : Int)) - 1)) == 0) = true then (1 : Int) else 0) = ((cov n c x : Nat) : Int) := by
  have h1 := List.all_eq_true.1 moreB_true n (by simp; omega)
  have h2 := List.all_eq_true.1 h1 c (by simpa using hc)
  have h3 := List.all_eq_true.1 h2 x (by simpa using hx)
  exact eq_of_beq h3

theorem tm_more {n c x : Nat} {p q : Nat → Bool} (hn : n ≤ 7) (hc : c < 2 ^ n) (hx : x < 2 ^ n) (hp : p c = false) (hq : ∀ y, y < 2 ^ n → q y = (p y || decide (y = c))) :
    tm n (filt q 0 (2 ^ n)) x = tm n (filt p 0 (2 ^ n)) x + cov n c x := by
  have key : ∀ y, y < 2 ^ n → has (filt q 0 (2 ^ n)) y = has (filt p 0 (2 ^ n)) y + (if y = c then 1 else 0) := by
    intro y hy
    rw [has_set hy, has_set hy, hq y hy]
    by_cases e : y = c
    · subst e; simp [hp]
    · simp [e]
  unfold tm cov
  rw [key x hx]
  have : sumF (fun i => has (filt q 0 (2 ^ n)) (flip x i)) 0 n = sumF (fun i => has (filt p 0 (2 ^ n)) (flip x i) + (if x = flip c i then 1 else 0)) 0 n := by
    apply sumF_congr
    intro i _ hi
    have hr := rg hn (show i < n by omega) hx
    rw [key _ hr.2.1]
    have e : (flip x i = c) ↔ (x = flip c i) := by
      constructor
      · intro e; rw [← e, hr.2.2.1]
      · intro e; rw [e, (rg hn (by omega) hc).2.2.1]
    by_cases g : x = flip c i
    · rw [if_pos g, if_pos (e.2 g)]
    · rw [if_neg g, if_neg (fun z => g (e.1 z))]
  rw [this, sumF_add]
  omega

theorem pows : ∀ n ∈ List.range 5, iShl .u64 1 ((n : Nat) : Int) = ((2 ^ n : Nat) : Int) ∧ iShl .i64 1 ((2 ^ n : Nat) : Int) = ((2 ^ 2 ^ n : Nat) : Int) := by decide +kernel
theorem pow_bit : ∀ c ∈ List.range 62, iShl .i64 1 ((c : Nat) : Int) = ((2 ^ c : Nat) : Int) := by decide +kernel
theorem two_two : ∀ n ∈ List.range 5, 2 ^ n ≤ 16 ∧ 2 ^ 2 ^ n ≤ 65536 := by decide +kernel

theorem more_loop {n c : Nat} (hn : n ≤ 4) (hc : c < 2 ^ n) {p q : Nat → Nat} (hpq : ∀ x, x < 2 ^ n → q x = p x + cov n c x) (hb : ∀ x, q x ≤ 100) {x3 x1 : Int}
    (e1 : w64 (1 + (Int.tmod (w64 (x1)) 4)) = (n : Int)) (e3 : Int.tmod (w64 (x3)) ((2 ^ n : Nat) : Int) = (c : Int)) : ∀ (m x f : Nat), m < f → x + m = 2 ^ n →
    f8_p2 1000 x3 x1 (mapF (fun x => (p x : Int)) 0 (2 ^ n)) (mapF (fun x => (q x : Int)) 0 (2 ^ n)) f x = some .c1
  | 0, x, f + 1, _, hx => by
    have : ¬ (x : Int) < ((2 ^ n : Nat) : Int) := by omega
    simp only [f8_p2, e1, shl_eq (show n ≤ 7 by omega), decide_eq_false this, Bool.false_eq_true, if_false]
  | m + 1, x, f + 1, hf, hx => by
    have hpw := pw_le (n := n) (by omega)
    have hlt : (x : Int) < ((2 ^ n : Nat) : Int) := by omega
    have hm := more_eq hn hc (show x < 2 ^ n by omega)
    have hat1 : at? (mapF (fun x => (p x : Int)) 0 (2 ^ n)) (x : Int) = some (p x : Int) := by
      have := mapF_get (f := fun x => (p x : Int)) (2 ^ n) 0 x (by omega)
      rw [Nat.zero_add] at this
      exact at_of this
    have hat2 : at? (mapF (fun x => (q x : Int)) 0 (2 ^ n)) (x : Int) = some (q x : Int) := by
      have := mapF_get (f := fun x => (q x : Int)) (2 ^ n) 0 x (by omega)
      rw [Nat.zero_add] at this
      exact at_of this
    have h1 := hpq x (by omega)
    have h2 := hb x
    simp only [f8_p2, e1, shl_eq (show n ≤ 7 by omega), decide_eq_true hlt, if_true, f8_p5, e3]
    have e5 : (if (iAnd .i64 (iXor .i64 (x : Int) (c : Int)) (w64 ((iXor .i64 (x : Int) (c : Int)) - 1)) == 0) = true then some (1 : Int) else some 0) = some ((cov n c x : Nat) : Int) := by
      rw [← hm]; split <;> rfl
    rw [e5, hat1, hat2]
    simp only [Option.bind_some]
    rw [w64_in (by omega), if_neg (by simp; omega), w64_nat (by omega)]
    exact more_loop hn hc hpq hb e1 e3 m (x + 1) f (by omega) (by omega)

theorem f8_plain (x1 x2 x3 : Int) (h1 : 0 ≤ x1 ∧ x1 ≤ 255) (h2 : 0 ≤ x2 ∧ x2 ≤ 65535) (h3 : 0 ≤ x3 ∧ x3 ≤ 255) : f8 1000 x1 x2 x3 = some true := by
  have q1 : w64 (1 + (Int.tmod (w64 (x1)) 4)) = ((1 + x1.toNat % 4 : Nat) : Int) := by
    rw [w64_in (n := x1) (by omega), Int.tmod_eq_emod_of_nonneg h1.1, w64_in (by omega)]; omega
  obtain ⟨n, hn⟩ : ∃ n, n = 1 + x1.toNat % 4 := ⟨_, rfl⟩
  rw [← hn] at q1
  have hn4 : 1 ≤ n ∧ n ≤ 4 := by omega
  have ht := two_two n (by simp; omega)
  have hp := pows n (by simp; omega)
  have hpw := pw_le (n := n) (by omega)
  have hpos : 0 < 2 ^ 2 ^ n := Nat.pow_pos (by omega)
  have q2 : Int.tmod (w64 (x2)) ((2 ^ 2 ^ n : Nat) : Int) = ((x2.toNat % 2 ^ 2 ^ n : Nat) : Int) := by
    rw [w64_in (n := x2) (by omega), Int.tmod_eq_emod_of_nonneg h2.1, Int.natCast_emod]; congr 1; omega
  have q3 : Int.tmod (w64 (x3)) ((2 ^ n : Nat) : Int) = ((x3.toNat % 2 ^ n : Nat) : Int) := by
    rw [w64_in (n := x3) (by omega), Int.tmod_eq_emod_of_nonneg h3.1, Int.natCast_emod]; congr 1; omega
  have hs := Nat.mod_lt x2.toNat hpos
  have hc := Nat.mod_lt x3.toNat (show 0 < 2 ^ n by omega)
  generalize x2.toNat % 2 ^ 2 ^ n = s at *
  generalize x3.toNat % 2 ^ n = c at *
  have hb := pow_bit c (by simp; omega)
  have hcp : 2 ^ c < 2 ^ 2 ^ n := Nat.pow_lt_pow_right (by omega) hc
  obtain ⟨r, r1, r2, r3⟩ := andNot_eq (a := s) (b := 2 ^ c) (by omega) (by omega)
  have o1 := or_eq (a := s) (b := 2 ^ c) (by omega) (by omega)
  have o2 : s ||| 2 ^ c < 2 ^ 2 ^ n := Nat.or_lt_two_pow hs hcp
  have k1 := f43_eq (s := r) ht.1 (by omega)
  have k2 := f43_eq (s := s ||| 2 ^ c) ht.1 o2
  have hpc : r.testBit c = false := by rw [r3]; simp [Nat.testBit_two_pow]
  have hq : ∀ y, y < 2 ^ n → (s ||| 2 ^ c).testBit y = (r.testBit y || decide (y = c)) := by
    intro y _
    rw [r3, Nat.testBit_or, Nat.testBit_two_pow]
    by_cases e : y = c
    · subst e; simp
    · have : ¬ c = y := fun z => e z.symm
      simp [e, this]
  have t1 := f15_eq (code := filt r.testBit 0 (2 ^ n)) (len_set (by omega)) n
  have t2 := f15_eq (code := filt (s ||| 2 ^ c).testBit 0 (2 ^ n)) (len_set (by omega)) n
  rw [if_pos (chk_filt (by omega)), Int.toNat_natCast] at t1 t2
  have hl := more_loop (n := n) (c := c) (p := tm n (filt r.testBit 0 (2 ^ n))) (q := tm n (filt (s ||| 2 ^ c).testBit 0 (2 ^ n))) hn4.2 hc (fun x hx => tm_more (by omega) hc hx hpc hq)
    (fun x => by have := tm_le n (filt (s ||| 2 ^ c).testBit 0 (2 ^ n)) x; omega) q1 q3 (2 ^ n) 0 1000 (by omega) (by omega)
  simp only [Int.natCast_zero] at hl
  unfold f8
  simp only [q1, hp.1, hp.2, shl_eq (show n ≤ 7 by omega), q2, q3, hb, r1, o1]
  rw [req_pos (by omega), req_pos (by omega), req_pos (by omega), req_pos (by omega), req_pos (by omega), k1, k2]
  simp only [Option.bind_some]
  rw [t1, t2]
  simp only [Option.bind_some, bne_self_eq_false, Bool.false_eq_true, if_false, mapF_len]
  rw [hl]
  simp [works]

end Go.Gh.Hat
