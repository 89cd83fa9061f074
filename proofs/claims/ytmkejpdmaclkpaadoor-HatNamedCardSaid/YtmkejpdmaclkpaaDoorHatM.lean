/- Hats: plans made by numbers are valid; what is seen and won, another way. -/
import Derived.Test.YtmkejpdmaclkpaaDoorHatP9
namespace Go.Gh.Hat
set_option linter.unusedVariables false
set_option linter.unusedSimpArgs false

/-- The list of a helper in a plan made by numbers. -/
def mkl (ps : List Int) (i k : Nat) : Int := (ps[i * 8 + k]?.getD 0) % 3
def mks (ps : List Int) (N : Nat) : Nat → Nat → List (List Int)
  | _, 0 => []
  | i, m + 1 => mapF (mkl ps i) 0 N :: mks ps N (i + 1) m
theorem mks_len (ps : List Int) (N : Nat) : ∀ m i, (mks ps N i m).length = m
  | 0, _ => rfl
  | m + 1, i => by simp [mks, mks_len ps N m (i + 1)]
theorem mks_mem {ps : List Int} {N : Nat} {x : List Int} : ∀ m i, x ∈ mks ps N i m → ∃ j, i ≤ j ∧ j < i + m ∧ x = mapF (mkl ps j) 0 N
  | 0, _, h => by cases h
  | m + 1, i, h => by
    simp only [mks, List.mem_cons] at h
    rcases h with rfl | h
    · exact ⟨i, by omega, by omega, rfl⟩
    · obtain ⟨j, h1, h2, h3⟩ := mks_mem m (i + 1) h
      exact ⟨j, by omega, by omega, h3⟩
theorem mem_mapF {f : Nat → Int} {x : Int} : ∀ m i, x ∈ mapF f i m → ∃ j, x = f j
  | 0, _, h => by cases h
  | m + 1, i, h => by
    simp only [mapF, List.mem_cons] at h
    rcases h with rfl | h
    · exact ⟨i, rfl⟩
    · exact mem_mapF m (i + 1) h

theorem mk_row {ps : List Int} (hps : ps.length = 32) (hb : ∀ x ∈ ps, 0 ≤ x ∧ x ≤ 255) {n : Nat} (hn : 1 ≤ n ∧ n ≤ 4) {i : Nat} (hi : i < n) (x1 x3 : Int) (x19 : List (List Int)) : ∀ (m k f : Nat) (out : List Int), m < f → k + m = 2 ^ (n - 1) → out.length ≤ k →
    f31_p5_2 1000 i x1 x3 n ps x19 f k out = some (out ++ mapF (mkl ps i) k m)
  | 0, k, f + 1, out, _, hk, _ => by
    have : ¬ (k : Int) < ((2 ^ (n - 1) : Nat) : Int) := by omega
    have e1 : w64 ((n : Int) - 1) = ((n - 1 : Nat) : Int) := by rw [w64_in (by omega)]; omega
    simp only [f31_p5_2, e1, shl_eq (show n - 1 ≤ 7 by omega), decide_eq_false this, Bool.false_eq_true, if_false, mapF, List.append_nil]
  | m + 1, k, f + 1, out, hf, hk, ho => by
    have hlt : (k : Int) < ((2 ^ (n - 1) : Nat) : Int) := by omega
    have e1 : w64 ((n : Int) - 1) = ((n - 1 : Nat) : Int) := by rw [w64_in (by omega)]; omega
    have h8 : 2 ^ (n - 1) ≤ 8 := by
      have h : ∀ n ∈ List.range 4, 2 ^ n ≤ 8 := by decide +kernel
      exact h (n - 1) (by simp; omega)
    have hg : ps[i * 8 + k]? = some ps[i * 8 + k] := List.getElem?_eq_getElem (by omega)
    have hr := hb _ (List.getElem_mem (h := show i * 8 + k < ps.length by omega))
    have e : mkl ps i k = Int.tmod (w64 (ps[i * 8 + k])) 3 := by
      unfold mkl
      rw [hg, Option.getD_some, w64_in (by omega), Int.tmod_eq_emod_of_nonneg hr.1]
    simp only [f31_p5_2, e1, shl_eq (show n - 1 ≤ 7 by omega), decide_eq_true hlt, if_true, Int.toNat_natCast, Nat.zero_add, Nat.mul_one]
    rw [req_pos (by omega), req_pos (by omega), hg]
    simp only [Option.bind_some]
    rw [req_pos (by simp; omega), ← e, w64_nat (by omega), mk_row hps hb hn hi x1 x3 x19 m (k + 1) f _ (by omega) (by omega) (by simp; omega)]
    simp [mapF]

theorem mk_rows {ps : List Int} (hps : ps.length = 32) (hb : ∀ x ∈ ps, 0 ≤ x ∧ x ≤ 255) {n : Nat} (hn : 1 ≤ n ∧ n ≤ 4) {x1 x3 : Int} (hx : w64 (1 + (Int.tmod (w64 x1) x3)) = (n : Int)) : ∀ (m i f : Nat) (out : List (List Int)), m < f → i + m = n → out.length ≤ i →
    f31_p1 1000 x1 x3 ps f i n out = some ((n : Int), out ++ mks ps (2 ^ (n - 1)) i m)
  | 0, i, f + 1, out, _, hi, _ => by
    have : ¬ (i : Int) < (n : Int) := by omega
    simp [f31_p1, hx, this, mks]
  | m + 1, i, f + 1, out, hf, hi, ho => by
    have hlt : (i : Int) < (n : Int) := by omega
    have hp := pw_le (n := n - 1) (by omega)
    have h6 := mk_row hps hb hn (show i < n by omega) x1 x3 out (2 ^ (n - 1)) 0 1000 [] (by omega) (by omega) (by simp)
    simp only [Int.natCast_zero, List.nil_append] at h6
    simp only [f31_p1, hx, decide_eq_true hlt, if_true]
    rw [req_pos (by rw [w64_in (by omega)]; omega), h6]
    simp only [Option.bind_some, take0]
    rw [req_pos (by simp; omega), w64_nat (by omega), mk_rows hps hb hn hx m (i + 1) f _ (by omega) (by omega) (by simp; omega)]
    simp [mks]

theorem mk_valid {ps : List Int} {n : Nat} (hn : 1 ≤ n ∧ n ≤ 4) : VP n (mks ps (2 ^ (n - 1)) 0 n) :=
  ⟨by omega, mks_len _ _ _ _, fun l hl => by
    obtain ⟨j, _, _, rfl⟩ := mks_mem _ _ hl
    refine ⟨mapF_len _ _ _, fun x hx => ?_⟩
    obtain ⟨k, rfl⟩ := mem_mapF _ _ hx
    unfold mkl; omega⟩

theorem f31_eq {x1 : Int} (h1 : 0 ≤ x1 ∧ x1 ≤ 255) {ps : List Int} (hps : ps.length = 32) (hb : ∀ x ∈ ps, 0 ≤ x ∧ x ≤ 255) {m : Nat} (hm : 1 ≤ m ∧ m ≤ 4) :
    ∃ (n : Nat) (s : List (List Int)), f31 1000 x1 ps m = some ((n : Int), s) ∧ VP n s ∧ n ≤ m := by
  have q1 : w64 (1 + (Int.tmod (w64 (x1)) m)) = ((1 + x1.toNat % m : Nat) : Int) := by
    rw [w64_in (n := x1) (by omega), Int.tmod_eq_emod_of_nonneg h1.1]
    have e : x1 % (m : Int) = ((x1.toNat % m : Nat) : Int) := by rw [Int.natCast_emod]; congr 1; omega
    have := Nat.mod_lt x1.toNat (show 0 < m by omega)
    rw [e, w64_in (by omega)]; omega
  have hlt := Nat.mod_lt x1.toNat (show 0 < m by omega)
  have hn : 1 ≤ 1 + x1.toNat % m ∧ 1 + x1.toNat % m ≤ 4 := by omega
  have hle : 1 + x1.toNat % m ≤ m := by omega
  generalize 1 + x1.toNat % m = n at *
  have := mk_rows hps hb hn q1 n 0 1000 [] (by omega) (by omega) (by simp)
  simp only [Int.natCast_zero, List.nil_append] at this
  refine ⟨n, mks ps (2 ^ (n - 1)) 0 n, ?_, mk_valid hn, by omega⟩
  unfold f31
  rw [req_pos (by omega), q1, this]
  simp only [Option.bind_some, take0]

/- what is seen -/
def sightB : Bool := (List.range 5).all fun n => (List.range n).all fun i => (List.range (2 ^ n)).all fun c => f41 1000 (n : Int) (c : Int) (i : Int) == some ((seenN c i : Nat) : Int)
theorem sightB_true : sightB = true := by decide +kernel
theorem f41_eq {n i c : Nat} (hn : n ≤ 4) (hi : i < n) (hc : c < 2 ^ n) : f41 1000 (n : Int) (c : Int) (i : Int) = some ((seenN c i : Nat) : Int) := by
  have h1 := List.all_eq_true.1 sightB_true n (by simp; omega)
  have h2 := List.all_eq_true.1 h1 i (by simpa using hi)
  have h3 := List.all_eq_true.1 h2 c (by simpa using hc)
  exact eq_of_beq h3

section
variable {n : Nat} {s : List (List Int)}

/-- A helper who is right is wrong once this one's own hat changes. -/
theorem rt_flip (v : VP n s) {c i : Nat} (hi : i < n) (hc : c < 2 ^ n) : rt s (flip c i) i = wr s c i := by
  obtain ⟨_, _, _, g3, g4⟩ := v.at hi hc
  have hr := rg v.rng.2 hi hc
  have hb := bit_le c i
  have e : sv s (flip c i) i = sv s c i := by unfold sv; rw [hr.2.2.2.1]
  unfold rt wr
  rw [e, hr.2.2.2.2.1]
  by_cases q : sv s c i = ((1 - bit c i : Nat) : Int)
  · rw [if_pos q, if_pos (by omega)]
  · rw [if_neg q, if_neg (by omega)]
theorem wr_flip (v : VP n s) {c i : Nat} (hi : i < n) (hc : c < 2 ^ n) : wr s (flip c i) i = rt s c i := by
  have hr := rg v.rng.2 hi hc
  have := rt_flip v hi hr.2.1
  rw [hr.2.2.1] at this
  exact this.symm
end

/- sums over all colourings -/
theorem sumF_range (g : Nat → Nat) : ∀ m i, sumF g i m = ((List.range' i m).map g).sum
  | 0, _ => rfl
  | m + 1, i => by simp [sumF, List.range'_succ, sumF_range g m (i + 1)]

theorem perm_sum {g : Nat → Nat} {l l' : List Nat} (h : l.Perm l') : (l.map g).sum = (l'.map g).sum := by
  induction h with
  | nil => rfl
  | cons x _ ih => simp only [List.map_cons, List.sum_cons, ih]
  | swap x y l => simp only [List.map_cons, List.sum_cons]; omega
  | trans _ _ h1 h2 => rw [h1, h2]

def permB : Bool := (List.range 8).all fun n => (List.range n).all fun i => ((List.range' 0 (2 ^ n)).map fun c => flip c i).isPerm (List.range' 0 (2 ^ n))
theorem permB_true : permB = true := by decide +kernel
theorem flip_perm {n i : Nat} (hn : n ≤ 7) (hi : i < n) : ((List.range' 0 (2 ^ n)).map fun c => flip c i).Perm (List.range' 0 (2 ^ n)) := by
  have h1 := List.all_eq_true.1 permB_true n (by simp; omega)
  have h2 := List.all_eq_true.1 h1 i (by simpa using hi)
  exact List.isPerm_iff.1 h2

theorem flip_sum {n i : Nat} (hn : n ≤ 7) (hi : i < n) (g : Nat → Nat) : sumF (fun c => g (flip c i)) 0 (2 ^ n) = sumF g 0 (2 ^ n) := by
  rw [sumF_range, sumF_range]
  have := perm_sum (g := g) (flip_perm hn hi)
  rw [List.map_map] at this
  exact this

/-- Each helper is right as often as wrong. -/
theorem even {n : Nat} {s : List (List Int)} (v : VP n s) {i : Nat} (hi : i < n) : sumF (fun c => rt s c i) 0 (2 ^ n) = sumF (fun c => wr s c i) 0 (2 ^ n) := by
  rw [← flip_sum v.rng.2 hi (fun c => rt s c i)]
  apply sumF_congr
  intro c _ hc
  exact rt_flip (c := c) v hi (by omega)

theorem sum_swap (g : Nat → Nat → Nat) : ∀ (a i b j : Nat), sumF (fun c => sumF (g c) j b) i a = sumF (fun k => sumF (fun c => g c k) i a) j b
  | 0, i, b, j => by
    have : ∀ b j, sumF (fun _ => 0) j b = 0 := by
      intro b
      induction b with
      | zero => intro j; rfl
      | succ b ih => intro j; simp [sumF, ih]
    simp [sumF, this]
  | a + 1, i, b, j => by
    simp only [sumF]
    rw [sum_swap g a (i + 1) b j, ← sumF_add]

theorem even_all {n : Nat} {s : List (List Int)} (v : VP n s) : sumF (R s n) 0 (2 ^ n) = sumF (Wn s n) 0 (2 ^ n) := by
  show sumF (fun c => sumF (rt s c) 0 n) 0 (2 ^ n) = sumF (fun c => sumF (wr s c) 0 n) 0 (2 ^ n)
  rw [sum_swap (rt s), sum_swap (wr s)]
  apply sumF_congr
  intro i _ hi
  exact even v (by omega)

end Go.Gh.Hat
