/- The plain law of HatNamed. -/
import Derived.Test.YtmkejpdmaclkpaaDoorHatM
import Derived.Test.YtmkejpdmaclkpaaDoorHatB
import Derived.Test.YtmkejpdmaclkpaaDoorHatR0
import Derived.Test.YtmkejpdmaclkpaaDoorHatR1
import Derived.Test.YtmkejpdmaclkpaaDoorHatR2
namespace Go.Gh.Hat
set_option linter.unusedVariables false
set_option linter.unusedSimpArgs false

theorem row3 : ∀ t : Nat, t < 24 → rowNamed 3 t = true
  | 0, _ => row3_0
  | 1, _ => row3_1
  | 2, _ => row3_2
  | 3, _ => row3_3
  | 4, _ => row3_4
  | 5, _ => row3_5
  | 6, _ => row3_6
  | 7, _ => row3_7
  | 8, _ => row3_8
  | 9, _ => row3_9
  | 10, _ => row3_10
  | 11, _ => row3_11
  | 12, _ => row3_12
  | 13, _ => row3_13
  | 14, _ => row3_14
  | 15, _ => row3_15
  | 16, _ => row3_16
  | 17, _ => row3_17
  | 18, _ => row3_18
  | 19, _ => row3_19
  | 20, _ => row3_20
  | 21, _ => row3_21
  | 22, _ => row3_22
  | 23, _ => row3_23
  | t + 24, h => by omega

theorem rows {n : Nat} (hn : 1 ≤ n ∧ n ≤ 3) {t : Nat} (ht : t < 24) {s : Nat} (hs : s < 2 ^ 2 ^ n) : lookNamed n s t = true := by
  have : rowNamed n t = true := by
    by_cases h1 : n = 1
    · rw [h1]; exact row1 t (by simpa using ht)
    · by_cases h2 : n = 2
      · rw [h2]; exact row2 t (by simpa using ht)
      · rw [show n = 3 by omega]; exact row3 t ht
  exact List.all_eq_true.1 this s (by simpa using hs)

/- only the rest of the turn counts -/
theorem turn_in {n : Nat} (hn : 1 ≤ n ∧ n ≤ 3) {x4 : Int} {t : Nat} (h4 : w64 x4 = (t : Int)) (ht : t ≤ 255) {i : Int} (hi : 0 ≤ i ∧ i < n) :
    Int.tmod (w64 (i + w64 x4)) n = Int.tmod (w64 (i + w64 ((t % 24 : Nat) : Int))) n := by
  have hm := Nat.mod_lt t (show 0 < 24 by omega)
  rw [h4, w64_in (n := ((t % 24 : Nat) : Int)) (by omega), w64_in (by omega), w64_in (by omega), Int.tmod_eq_emod_of_nonneg (by omega), Int.tmod_eq_emod_of_nonneg (by omega)]
  obtain rfl | rfl | rfl : n = 1 ∨ n = 2 ∨ n = 3 := by omega
  · omega
  · omega
  · omega

theorem mask_in {n : Nat} (hn : 1 ≤ n ∧ n ≤ 3) {x4 : Int} {t : Nat} (h4 : w64 x4 = (t : Int)) : Int.tmod (w64 x4) (iShl .i64 1 n) = ((t % 2 ^ n : Nat) : Int) ∧ Int.tmod (w64 ((t % 24 : Nat) : Int)) (iShl .i64 1 n) = ((t % 2 ^ n : Nat) : Int) := by
  have hm := Nat.mod_lt t (show 0 < 24 by omega)
  rw [shl_eq (by omega), h4, w64_in (n := ((t % 24 : Nat) : Int)) (by omega), Int.tmod_eq_emod_of_nonneg (by omega), Int.tmod_eq_emod_of_nonneg (by omega)]
  refine ⟨by rw [Int.natCast_emod], ?_⟩
  obtain rfl | rfl | rfl : n = 1 ∨ n = 2 ∨ n = 3 := by omega
  · omega
  · omega
  · omega

theorem name_turn {n : Nat} (hn : 1 ≤ n ∧ n ≤ 3) {x4 : Int} {t : Nat} (h4 : w64 x4 = (t : Int)) (ht : t ≤ 255) (x7 x19 x20 : List Int) (x22 x21 : Int) (x6 : List (List Int)) : ∀ (f : Nat) (v : Int) (i : Nat), i ≤ n →
    f13_p5_2 1000 x4 n x7 x19 x20 x22 x21 x6 f v i = f13_p5_2 1000 ((t % 24 : Nat) : Int) n x7 x19 x20 x22 x21 [] f v i
  | 0, _, _, _ => rfl
  | f + 1, v, i, hi => by
    simp only [f13_p5_2]
    by_cases h : (i : Int) < (n : Int)
    · simp only [decide_eq_true h, if_true]
      rw [turn_in hn h4 ht (i := (i : Int)) (by omega), w64_nat (by omega)]
      simp only [name_turn hn h4 ht x7 x19 x20 x22 x21 x6 f _ (i + 1) (by omega)]
    · simp only [decide_eq_false h, Bool.false_eq_true, if_false]

theorem names_turn {n : Nat} (hn : 1 ≤ n ∧ n ≤ 3) {x4 : Int} {t : Nat} (h4 : w64 x4 = (t : Int)) (ht : t ≤ 255) (x7 : List Int) (x6 : List (List Int)) : ∀ (f : Nat) (i : Int) (a b : List Int),
    f13_p1 1000 x4 n x7 x6 f i a b = f13_p1 1000 ((t % 24 : Nat) : Int) n x7 [] f i a b
  | 0, _, _, _ => rfl
  | f + 1, i, a, b => by
    have e := fun x19 x20 x22 x21 => name_turn hn h4 ht x7 x19 x20 x22 x21 x6 1000 0 0 (by omega)
    simp only [Int.natCast_zero] at e
    obtain ⟨m1, m2⟩ := mask_in hn h4
    simp only [f13_p1, e, m1, m2, names_turn hn h4 ht x7 x6 f]

/-- What the kernel has looked at. -/
theorem codes_eq {n : Nat} (hn : 1 ≤ n ∧ n ≤ 3) {x4 : Int} {t : Nat} (h4 : w64 x4 = (t : Int)) (ht : t ≤ 255) {s : Nat} (hs : s < 2 ^ 2 ^ n) (x6 : List (List Int)) :
    ∃ x7 a b a' b' u v w, f43 1000 (s : Int) = some x7 ∧ f13_p1 1000 x4 n x7 x6 1000 0 [] [] = some (a, b) ∧ f55 1000 0 a.length a = some a' ∧ f55_1 1000 0 b.length b = some b' ∧
      f17 1000 n x7 = some (u, 0) ∧ f17_2 1000 n (List.drop 0 (List.take (0 + a.length) a')) = some (0, v) ∧ f17_3 1000 n (List.drop 0 (List.take (0 + b.length) b')) = some (0, w) ∧
      u.length = v.length ∧ u.length = w.length ∧ a.length ≤ a'.length ∧ b.length ≤ b'.length := by
  have h := rows hn (Nat.mod_lt t (show 0 < 24 by omega)) hs
  unfold lookNamed at h
  split at h
  · rename_i x7 h1
    split at h
    · rename_i a b h2
      split at h
      · rename_i a' b' h3 h4'
        split at h
        · rename_i u v w h5 h6 h7
          simp only [Bool.and_eq_true, beq_iff_eq, decide_eq_true_eq] at h
          exact ⟨x7, a, b, a', b', u, v, w, h1, by rw [names_turn hn h4 ht]; exact h2, h3, h4', h5, h6, h7, h.1, h.2.1, h.2.2.1, h.2.2.2⟩
        · cases h
      · cases h
    · cases h
  · cases h

/- other colours -/
def xrB : Bool := (List.range 4).all fun n => (List.range (2 ^ n)).all fun m => (List.range (2 ^ n)).all fun x =>
  decide (x ^^^ m < 2 ^ n) && (decide ((x ^^^ m) ^^^ m = x) && (iXor .i64 (x : Int) (m : Int) == ((x ^^^ m : Nat) : Int) && (List.range n).all fun i => decide (flip (x ^^^ m) i = flip x i ^^^ m) && decide (bit (x ^^^ m) i = (bit x i + bit m i) % 2)))
theorem xrB_true : xrB = true := by decide +kernel
theorem xr {n m x : Nat} (hn : n ≤ 3) (hm : m < 2 ^ n) (hx : x < 2 ^ n) : x ^^^ m < 2 ^ n ∧ (x ^^^ m) ^^^ m = x ∧ iXor .i64 (x : Int) (m : Int) = ((x ^^^ m : Nat) : Int) ∧ ∀ i, i < n → flip (x ^^^ m) i = flip x i ^^^ m ∧ bit (x ^^^ m) i = (bit x i + bit m i) % 2 := by
  have h1 := List.all_eq_true.1 xrB_true n (by simp; omega)
  have h2 := List.all_eq_true.1 h1 m (by simpa using hm)
  have h3 := List.all_eq_true.1 h2 x (by simpa using hx)
  simp only [Bool.and_eq_true, decide_eq_true_eq, beq_iff_eq, List.all_eq_true] at h3
  exact ⟨h3.1, h3.2.1, h3.2.2.1, fun i hi => h3.2.2.2 i (by simpa using hi)⟩
def xpB : Bool := (List.range 4).all fun n => (List.range (2 ^ n)).all fun m => ((List.range' 0 (2 ^ n)).map fun x => x ^^^ m).isPerm (List.range' 0 (2 ^ n))
theorem xpB_true : xpB = true := by decide +kernel
theorem xor_sum {n m : Nat} (hn : n ≤ 3) (hm : m < 2 ^ n) (g : Nat → Nat) : sumF (fun x => g (x ^^^ m)) 0 (2 ^ n) = sumF g 0 (2 ^ n) := by
  have h1 := List.all_eq_true.1 xpB_true n (by simp; omega)
  have h2 := List.all_eq_true.1 h1 m (by simpa using hm)
  rw [sumF_range, sumF_range]
  have := perm_sum (g := g) (List.isPerm_iff.1 h2)
  rw [List.map_map] at this
  exact this

/-- What is said with another colour. -/
def tw (b : Nat) (v : Int) : Int := if v < 2 then (if b = 1 then 1 - v else v) else v
/-- A list of the plan with other colours. -/
def G (s : List (List Int)) (i m w : Nat) : Int := tw (bit m i) (sv s (un w i ^^^ m) i)

def row (s : List (List Int)) (i : Nat) : List Int := (s[i]?).getD []
def mapL (f : Nat → List Int) : Nat → Nat → List (List Int)
  | _, 0 => []
  | i, m + 1 => f i :: mapL f (i + 1) m
theorem mapL_len (f : Nat → List Int) : ∀ m i, (mapL f i m).length = m
  | 0, i => rfl
  | m + 1, i => by simp [mapL, mapL_len f m (i + 1)]
theorem mapL_get {f : Nat → List Int} : ∀ m i k, k < m → (mapL f i m)[k]? = some (f (i + k))
  | m + 1, i, 0, _ => by simp [mapL]
  | m + 1, i, k + 1, h => by
    simp only [mapL, List.getElem?_cons_succ]
    rw [mapL_get m (i + 1) k (by omega), show i + 1 + k = i + (k + 1) by omega]
theorem mapL_mem {f : Nat → List Int} {x : List Int} : ∀ m i, x ∈ mapL f i m → ∃ j, i ≤ j ∧ j < i + m ∧ x = f j
  | 0, _, h => by cases h
  | m + 1, i, h => by
    simp only [mapL, List.mem_cons] at h
    rcases h with rfl | h
    · exact ⟨i, by omega, by omega, rfl⟩
    · obtain ⟨j, h1, h2, h3⟩ := mapL_mem m (i + 1) h
      exact ⟨j, by omega, by omega, h3⟩

section
variable {n : Nat} {s : List (List Int)}

theorem VP.row (v : VP n s) {i : Nat} (hi : i < n) : s[i]? = some (row s i) ∧ (row s i).length = 2 ^ (n - 1) ∧ (∀ x ∈ row s i, 0 ≤ x ∧ x ≤ 2) ∧ ∀ c, c < 2 ^ n → (row s i)[seenN c i]? = some (sv s c i) := by
  have hl := v.len
  have e1 : s[i]? = some s[i] := List.getElem?_eq_getElem (by omega)
  have e : Hat.row s i = s[i] := by unfold Hat.row; rw [e1]; rfl
  have hm := v.each s[i] (List.getElem_mem _)
  rw [e]
  refine ⟨e1, hm.1, hm.2, fun c hc => ?_⟩
  have hg := (rg v.rng.2 hi hc).1
  have e2 : (s[i])[seenN c i]? = some (s[i])[seenN c i] := List.getElem?_eq_getElem (by omega)
  unfold sv
  rw [e1, Option.getD_some, e2]
  rfl

theorem sv_flip (v : VP n s) {c i : Nat} (hi : i < n) (hc : c < 2 ^ n) : sv s (flip c i) i = sv s c i := by
  unfold sv; rw [(rg v.rng.2 hi hc).2.2.2.1]

theorem G_seen (v : VP n s) (hn : n ≤ 3) {i m x : Nat} (hi : i < n) (hm : m < 2 ^ n) (hx : x < 2 ^ n) : G s i m (seenN (x ^^^ m) i) = tw (bit m i) (sv s x i) := by
  obtain ⟨h1, h2, _, h4⟩ := xr hn hm hx
  have hr := rg v.rng.2 hi h1
  have hus := un_seen v.rng.2 hi h1
  have hun := un_eq v.rng.2 hi hr.1
  unfold G
  by_cases h0 : bit (x ^^^ m) i = 0
  · rw [if_pos h0] at hus
    rw [← hus, h2]
  · rw [if_neg h0] at hus
    have e : un (seenN (x ^^^ m) i) i = flip (x ^^^ m) i := by
      have := (rg v.rng.2 hi hun.1).2.2.1
      rw [← hus] at this; exact this.symm
    have e2 : flip (x ^^^ m) i ^^^ m = flip x i := by
      rw [(h4 i hi).1]
      exact (xr hn hm (rg v.rng.2 hi hx).2.1).2.1
    rw [e, e2, sv_flip v hi hx]

theorem tw_rng {b : Nat} {v : Int} (h : 0 ≤ v ∧ v ≤ 2) : 0 ≤ tw b v ∧ tw b v ≤ 2 := by
  unfold tw; split
  · split <;> omega
  · exact h

theorem turned_row (v : VP n s) (hn : n ≤ 3) {i msk : Nat} (hi : i < n) (hm : msk < 2 ^ n) {x4 : Int} (e4 : Int.tmod (w64 x4) ((2 ^ n : Nat) : Int) = (msk : Int)) (x6 x89 x90 : List (List Int)) (x92 x93 : Int) :
    ∀ (m k f : Nat) (T : Nat → Int), m < f → k + m = 2 ^ n → (∀ w, w < 2 ^ (n - 1) → T w = G s i msk w ∨ ∀ x, x < k → seenN (x ^^^ msk) i ≠ w) →
    f13_p14_3 1000 n x4 i (row s i) x6 x92 x89 x93 x90 f k (mapF T 0 (2 ^ (n - 1))) = some (mapF (G s i msk) 0 (2 ^ (n - 1)))
  | 0, k, f + 1, T, _, hk, hT => by
    have : ¬ (k : Int) < ((2 ^ n : Nat) : Int) := by omega
    simp only [f13_p14_3, shl_eq v.rng.2, decide_eq_false this, Bool.false_eq_true, if_false]
    congr 1
    apply mapF_congr
    intro w _ hw
    have hw' : w < 2 ^ (n - 1) := by omega
    rcases hT w hw' with h | h
    · exact h
    · exfalso
      obtain ⟨u1, _, u3⟩ := un_eq v.rng.2 hi hw'
      have hx := xr hn hm u1
      exact h (un w i ^^^ msk) (by omega) (by rw [hx.2.1]; exact u3)
  | m + 1, k, f + 1, T, hf, hk, hT => by
    have hr := v.rng
    have hpw := pw_le hr.2
    have hkn : k < 2 ^ n := by omega
    obtain ⟨x1, x2, x3, x4'⟩ := xr hn hm hkn
    have hlt : (k : Int) < ((2 ^ n : Nat) : Int) := by omega
    obtain ⟨r1, r2, r3, r4⟩ := v.row hi
    have hsl := (rg hr.2 hi x1).1
    have hb := bit_le msk i
    obtain ⟨_, _, _, g3, g4⟩ := v.at hi hkn
    have hGk := G_seen v hn hi hm hkn
    have hstep : ∀ z : Int, z = tw (bit msk i) (sv s k i) → f13_p14_3 1000 n x4 i (row s i) x6 x92 x89 x93 x90 f ((k + 1 : Nat) : Int) ((mapF T 0 (2 ^ (n - 1))).set (seenN (k ^^^ msk) i) z) = some (mapF (G s i msk) 0 (2 ^ (n - 1))) := by
      intro z hz
      rw [mapF_set _ _ _ hsl]
      apply turned_row v hn hi hm e4 x6 x89 x90 x92 x93 m (k + 1) f _ (by omega) (by omega)
      intro w hw
      simp only [Nat.zero_add]
      by_cases q : w = seenN (k ^^^ msk) i
      · rw [if_pos q]; left; rw [hz, ← hGk, ← q]
      · rw [if_neg q]
        rcases hT w hw with h | h
        · exact .inl h
        · right
          intro x hx
          by_cases e : x = k
          · rw [e]; exact fun z => q z.symm
          · exact h x (by omega)
    simp only [f13_p14_3, shl_eq hr.2, decide_eq_true hlt, if_true, e4]
    rw [f41_eq (by omega) hi hkn, x3, f41_eq (by omega) hi x1]
    simp only [Option.bind_some, at_of (r4 k hkn), Int.toNat_natCast, Nat.zero_add, r2]
    rw [w64_nat (by omega)]
    by_cases q : sv s k i < 2
    · rw [decide_eq_true q, if_pos rfl, req_pos (by omega)]
      simp only [f13_p17_7, shl_eq hr.2, e4]
      rw [arB (by omega) (by omega)]
      have e5 : (if ((bit msk i : Int) == 1) = true then some (w64 (1 - sv s k i)) else some (sv s k i)) = some (tw (bit msk i) (sv s k i)) := by
        unfold tw
        rw [if_pos q]
        by_cases z : bit msk i = 1
        · rw [if_pos z, if_pos (by simp [z]), w64_in (by omega)]
        · rw [if_neg z, if_neg (by simp; omega)]
      rw [e5]
      simp only [Option.bind_some]
      rw [req_pos (by omega), req_pos (by rw [mapF_len]; exact hsl)]
      exact hstep _ rfl
    · rw [decide_eq_false q, if_neg Bool.false_ne_true, req_pos (by omega), req_pos (by rw [mapF_len]; exact hsl)]
      exact hstep _ (by unfold tw; rw [if_neg q])

theorem turned_p (v : VP n s) (hn : n ≤ 3) {msk : Nat} (hm : msk < 2 ^ n) {x4 : Int} (e4 : Int.tmod (w64 x4) ((2 ^ n : Nat) : Int) = (msk : Int)) (a b : Int) :
    ∀ (m i f : Nat) (A B : List (List Int)), m < f → i + m = n → A.length ≤ i → B.length ≤ i →
    f13_p10 1000 n x4 s f i a b A B = some (a, b, A ++ mapL (fun i => mapF (G s i msk) 0 (2 ^ (n - 1))) i m, B ++ mapL (fun i => row s i ++ row s i) i m)
  | 0, i, f + 1, A, B, _, hi, _, _ => by
    have : ¬ (i : Int) < ((s.length : Nat) : Int) := by have := v.len; omega
    simp [f13_p10, this, mapL]
  | m + 1, i, f + 1, A, B, hf, hi, hA, hB => by
    have hr := v.rng
    have hpw := pw_le (n := n - 1) (by omega)
    have hlt : (i : Int) < ((s.length : Nat) : Int) := by have := v.len; omega
    obtain ⟨r1, r2, r3, r4⟩ := v.row (show i < n by omega)
    have hne : row s i ≠ [] := by intro e; rw [e] at r2; simp at r2; omega
    have ht := turned_row v hn (show i < n by omega) hm e4 s A B a b (2 ^ n) 0 1000 (fun _ => 0) (by have := pw_le hr.2; omega) (by omega) (fun w _ => .inr fun x hx => by omega)
    simp only [Int.natCast_zero] at ht
    simp only [f13_p10, decide_eq_true hlt, if_true, at_of r1, Option.bind_some, Int.toNat_natCast, r2]
    rw [req_pos (by omega), req_pos (by omega), mapF_rep 0 (2 ^ (n - 1)) 0, ht]
    simp only [Option.bind_some, Nat.zero_add, List.drop_zero, f56]
    rw [req_pos (by rw [mapF_len]; omega), List.take_of_length_le (by rw [mapF_len]; omega), req_pos (by simp; omega), req_pos hne, req_pos (by rw [r2]; simp; omega)]
    simp only [Option.bind_some, List.nil_append]
    rw [req_pos (by rw [r2]; omega), req_pos (by simp; omega), w64_nat (by omega), turned_p v hn hm e4 a b m (i + 1) f _ _ (by omega) (by omega) (by simp; omega) (by simp; omega)]
    simp [mapL]

/- the plan with other colours -/
theorem turned_valid (v : VP n s) (hn : n ≤ 3) {msk : Nat} (hm : msk < 2 ^ n) : VP n (mapL (fun i => mapF (G s i msk) 0 (2 ^ (n - 1))) 0 n) := by
  refine ⟨v.rng, mapL_len _ _ _, fun l hl => ?_⟩
  obtain ⟨j, _, hj, rfl⟩ := mapL_mem _ _ hl
  refine ⟨mapF_len _ _ _, fun x hx => ?_⟩
  have key : ∀ m i, i + m ≤ 2 ^ (n - 1) → x ∈ mapF (G s j msk) i m → 0 ≤ x ∧ x ≤ 2 := by
    intro m
    induction m with
    | zero => intro i _ h; cases h
    | succ m ih =>
      intro i hi h
      simp only [mapF, List.mem_cons] at h
      rcases h with rfl | h
      · obtain ⟨u1, _, _⟩ := un_eq v.rng.2 (show j < n by omega) (show i < 2 ^ (n - 1) by omega)
        obtain ⟨_, _, _, g3, g4⟩ := v.at (show j < n by omega) (xr hn hm u1).1
        exact tw_rng ⟨g3, g4⟩
      · exact ih (i + 1) (by omega) h
  exact key _ _ (by omega) hx

theorem turned_sv (v : VP n s) (hn : n ≤ 3) {msk x i : Nat} (hm : msk < 2 ^ n) (hx : x < 2 ^ n) (hi : i < n) : sv (mapL (fun i => mapF (G s i msk) 0 (2 ^ (n - 1))) 0 n) (x ^^^ msk) i = tw (bit msk i) (sv s x i) := by
  have h1 := (xr hn hm hx).1
  have hr := (rg v.rng.2 hi h1).1
  rw [← G_seen v hn hi hm hx]
  unfold sv
  rw [mapL_get _ _ _ hi, Option.getD_some, mapF_get _ _ _ hr, Option.getD_some, Nat.zero_add, Nat.zero_add]

theorem turned_won (v : VP n s) (hn : n ≤ 3) {msk x : Nat} (hm : msk < 2 ^ n) (hx : x < 2 ^ n) : won (mapL (fun i => mapF (G s i msk) 0 (2 ^ (n - 1))) 0 n) n (x ^^^ msk) = won s n x := by
  have hrt : ∀ i, i < n → rt (mapL (fun i => mapF (G s i msk) 0 (2 ^ (n - 1))) 0 n) (x ^^^ msk) i = rt s x i ∧ wr (mapL (fun i => mapF (G s i msk) 0 (2 ^ (n - 1))) 0 n) (x ^^^ msk) i = wr s x i := by
    intro i hi
    have e1 := turned_sv v hn hm hx hi
    have e2 := ((xr hn hm hx).2.2.2 i hi).2
    have b1 := bit_le msk i
    have b2 := bit_le x i
    obtain ⟨_, _, _, g3, g4⟩ := v.at hi hx
    unfold rt wr
    rw [e1, e2]
    unfold tw
    generalize sv s x i = z at *
    generalize bit x i = u at *
    generalize bit msk i = w at *
    have hu : u = 0 ∨ u = 1 := by omega
    have hw : w = 0 ∨ w = 1 := by omega
    have hz : z = 0 ∨ z = 1 ∨ z = 2 := by omega
    rcases hu with rfl | rfl <;> rcases hw with rfl | rfl <;> rcases hz with rfl | rfl | rfl <;> simp
  have h1 : R (mapL (fun i => mapF (G s i msk) 0 (2 ^ (n - 1))) 0 n) n (x ^^^ msk) = R s n x := sumF_congr _ _ fun i _ hi => (hrt i (by omega)).1
  have h2 : Wn (mapL (fun i => mapF (G s i msk) 0 (2 ^ (n - 1))) 0 n) n (x ^^^ msk) = Wn s n x := sumF_congr _ _ fun i _ hi => (hrt i (by omega)).2
  unfold won
  rw [h1, h2]

theorem len_filt (p : Nat → Bool) : ∀ m i, (filt p i m).length = sumF (fun c => if p c = true then 1 else 0) i m
  | 0, _ => rfl
  | m + 1, i => by
    simp only [filt, sumF, List.length_append, len_filt p m (i + 1)]
    split <;> simp

theorem turned_len (v : VP n s) (hn : n ≤ 3) {msk : Nat} (hm : msk < 2 ^ n) : (filt (won (mapL (fun i => mapF (G s i msk) 0 (2 ^ (n - 1))) 0 n) n) 0 (2 ^ n)).length = (filt (won s n) 0 (2 ^ n)).length := by
  rw [len_filt, len_filt, ← xor_sum hn hm]
  apply sumF_congr
  intro x _ hx
  rw [turned_won v hn hm (by omega)]

/- one more helper -/
def moB : Bool := (List.range 4).all fun n => (List.range (2 ^ (n + 1))).all fun c => decide (seenN c n < 2 ^ n) && (List.range n).all fun i =>
  decide (seenN c i = seenN (c % 2 ^ n) i + c / 2 ^ n * 2 ^ (n - 1)) && (decide (c / 2 ^ n < 2) && decide (bit c i = bit (c % 2 ^ n) i))
theorem moB_true : moB = true := by decide +kernel
theorem mo_eq {n c : Nat} (hn : n ≤ 3) (hc : c < 2 ^ (n + 1)) : seenN c n < 2 ^ n ∧ ∀ i, i < n → seenN c i = seenN (c % 2 ^ n) i + c / 2 ^ n * 2 ^ (n - 1) ∧ c / 2 ^ n < 2 ∧ bit c i = bit (c % 2 ^ n) i := by
  have h1 := List.all_eq_true.1 moB_true n (by simp; omega)
  have h2 := List.all_eq_true.1 h1 c (by simpa using hc)
  simp only [Bool.and_eq_true, decide_eq_true_eq, List.all_eq_true] at h2
  exact ⟨h2.1, fun i hi => h2.2 i (by simpa using hi)⟩

def mor (s : List (List Int)) (n : Nat) : List (List Int) := mapL (fun i => row s i ++ row s i) 0 n ++ [List.replicate (2 ^ n) 2]

theorem more_valid (v : VP n s) (hn : n ≤ 3) : VP (n + 1) (mor s n) := by
  have hr := v.rng
  refine ⟨by omega, by simp [mor, mapL_len], fun l hl => ?_⟩
  unfold mor at hl
  rcases List.mem_append.1 hl with hl | hl
  · obtain ⟨j, _, hj, rfl⟩ := mapL_mem _ _ hl
    obtain ⟨_, r2, r3, _⟩ := v.row (show j < n by omega)
    refine ⟨?_, fun x hx => ?_⟩
    · rw [List.length_append, r2, Nat.add_sub_cancel]
      obtain ⟨k, rfl⟩ : ∃ k, n = k + 1 := ⟨n - 1, by omega⟩
      rw [Nat.pow_succ, Nat.add_sub_cancel]; omega
    · rcases List.mem_append.1 hx with hx | hx
      · exact r3 x hx
      · exact r3 x hx
  · have : l = List.replicate (2 ^ n) 2 := by simpa using hl
    subst this
    refine ⟨by simp, fun x hx => ?_⟩
    have := (List.mem_replicate.1 hx).2
    omega

theorem more_sv (v : VP n s) (hn : n ≤ 3) {c : Nat} (hc : c < 2 ^ (n + 1)) : sv (mor s n) c n = 2 ∧ ∀ i, i < n → sv (mor s n) c i = sv s (c % 2 ^ n) i := by
  obtain ⟨h1, h2⟩ := mo_eq hn hc
  constructor
  · unfold sv mor
    rw [List.getElem?_append_right (by rw [mapL_len]; exact Nat.le_refl _), mapL_len, Nat.sub_self, List.getElem?_cons_zero, Option.getD_some, List.getElem?_replicate, if_pos h1]
    rfl
  · intro i hi
    obtain ⟨k1, k2, _⟩ := h2 i hi
    obtain ⟨_, r2, _, r4⟩ := v.row hi
    have hpos := (pw_le (n := n) v.rng.2).1
    have hr := r4 (c % 2 ^ n) (Nat.mod_lt _ (by omega))
    have hsl := (rg v.rng.2 hi (Nat.mod_lt c (show 0 < 2 ^ n by omega))).1
    have e : (row s i ++ row s i)[seenN c i]? = (row s i)[seenN (c % 2 ^ n) i]? := by
      rw [k1]
      have hb : c / 2 ^ n = 0 ∨ c / 2 ^ n = 1 := (fun q (h : q < 2) => (by omega : q = 0 ∨ q = 1)) _ k2
      rcases hb with hb | hb
      · rw [hb, Nat.zero_mul, Nat.add_zero, List.getElem?_append_left (by omega)]
      · rw [hb, Nat.one_mul, List.getElem?_append_right (by omega), r2, Nat.add_sub_cancel]
    have e2 : sv (mor s n) c i = ((row s i ++ row s i)[seenN c i]?).getD 0 := by
      unfold sv mor
      rw [List.getElem?_append_left (by rw [mapL_len]; exact hi), mapL_get _ _ _ hi, Option.getD_some, Nat.zero_add]
    rw [e2, e, hr]
    rfl

theorem sumF_snoc (g : Nat → Nat) : ∀ m i, sumF g i (m + 1) = sumF g i m + g (i + m)
  | 0, i => by simp [sumF]
  | m + 1, i => by
    have := sumF_snoc g m (i + 1)
    simp only [sumF] at this ⊢
    rw [this, show i + 1 + m = i + (m + 1) by omega]; omega

theorem more_won (v : VP n s) (hn : n ≤ 3) {c : Nat} (hc : c < 2 ^ (n + 1)) : won (mor s n) (n + 1) c = won s n (c % 2 ^ n) := by
  obtain ⟨h1, h2⟩ := mo_eq hn hc
  obtain ⟨s1, s2⟩ := more_sv v hn hc
  have hb := bit_le c n
  have z1 : rt (mor s n) c n = 0 := by unfold rt; rw [s1, if_neg (by omega)]
  have z2 : wr (mor s n) c n = 0 := by unfold wr; rw [s1, if_neg (by simp)]
  have k1 : R (mor s n) (n + 1) c = R s n (c % 2 ^ n) := by
    unfold R
    rw [sumF_snoc, Nat.zero_add, z1, Nat.add_zero]
    apply sumF_congr
    intro i _ hi
    unfold rt
    rw [s2 i (by omega), (h2 i (by omega)).2.2]
  have k2 : Wn (mor s n) (n + 1) c = Wn s n (c % 2 ^ n) := by
    unfold Wn
    rw [sumF_snoc, Nat.zero_add, z2, Nat.add_zero]
    apply sumF_congr
    intro i _ hi
    unfold wr
    rw [s2 i (by omega), (h2 i (by omega)).2.2]
  unfold won
  rw [k1, k2]

theorem sumF_split (g : Nat → Nat) : ∀ a i b, sumF g i (a + b) = sumF g i a + sumF g (i + a) b
  | 0, i, b => by simp [sumF]
  | a + 1, i, b => by
    rw [show a + 1 + b = (a + b) + 1 by omega]
    simp only [sumF]
    rw [sumF_split g a (i + 1) b, show i + 1 + a = i + (a + 1) by omega]; omega
theorem sumF_shift (g : Nat → Nat) (k : Nat) : ∀ m i, sumF g (i + k) m = sumF (fun j => g (j + k)) i m
  | 0, _ => rfl
  | m + 1, i => by
    simp only [sumF]
    rw [show i + k + 1 = (i + 1) + k by omega, sumF_shift g k m (i + 1)]

theorem more_len (v : VP n s) (hn : n ≤ 3) : (filt (won (mor s n) (n + 1)) 0 (2 ^ (n + 1))).length = 2 * (filt (won s n) 0 (2 ^ n)).length := by
  have hpos := (pw_le (n := n) v.rng.2).1
  rw [len_filt, len_filt, show 2 ^ (n + 1) = 2 ^ n + 2 ^ n by rw [Nat.pow_succ]; omega, sumF_split, sumF_shift, Nat.two_mul]
  congr 1
  · apply sumF_congr
    intro c _ hc
    rw [more_won v hn (by rw [Nat.pow_succ]; omega), Nat.mod_eq_of_lt (by omega)]
  · apply sumF_congr
    intro c _ hc
    rw [more_won v hn (by rw [Nat.pow_succ]; omega), Nat.add_mod_right, Nat.mod_eq_of_lt (by omega)]
end

theorem f57_1_eq : ∀ k ∈ List.range 4, f57_1 1000 ([2] : List Int) ((2 ^ k : Nat) : Int) = some (List.replicate (2 ^ k) 2) := by decide +kernel
theorem pows : ∀ n ∈ List.range 5, iShl .u64 1 ((n : Nat) : Int) = ((2 ^ n : Nat) : Int) ∧ iShl .i64 1 ((2 ^ n : Nat) : Int) = ((2 ^ 2 ^ n : Nat) : Int) := by decide +kernel

theorem f13_plain (x1 : Int) (ps : List Int) (x3 x4 : Int) (h1 : 0 ≤ x1 ∧ x1 ≤ 255) (hps : ps.length = 32) (hb : ∀ x ∈ ps, 0 ≤ x ∧ x ≤ 255) (h3 : 0 ≤ x3 ∧ x3 ≤ 65535) (h4 : 0 ≤ x4 ∧ x4 ≤ 255) : f13 1000 x1 ps x3 x4 = some true := by
  obtain ⟨n, s, e31, v, hn⟩ := f31_eq h1 hps hb (m := 3) (by omega)
  simp only [show ((3 : Nat) : Int) = 3 from rfl] at e31
  have hr := v.rng
  have hn3 : 1 ≤ n ∧ n ≤ 3 := by omega
  have hp := pows n (by simp; omega)
  have hpw := pw_le hr.2
  have hpos : 0 < 2 ^ 2 ^ n := Nat.pow_pos (by omega)
  have q3 : Int.tmod (w64 (x3)) ((2 ^ 2 ^ n : Nat) : Int) = ((x3.toNat % 2 ^ 2 ^ n : Nat) : Int) := by
    rw [w64_in (n := x3) (by omega), Int.tmod_eq_emod_of_nonneg h3.1, Int.natCast_emod]; congr 1; omega
  have hs := Nat.mod_lt x3.toNat hpos
  generalize x3.toNat % 2 ^ 2 ^ n = k at *
  obtain ⟨t, rfl⟩ := Int.eq_ofNat_of_zero_le h4.1
  have e4 : w64 (t : Int) = (t : Int) := w64_in (by omega)
  obtain ⟨x7, a, b, a', b', u, y, w, c1, c2, c3, c4, c5, c6, c7, c8, c9, c10, c11⟩ := codes_eq hn3 e4 (by omega) hs s
  have hm := (mask_in hn3 e4).1
  rw [shl_eq hr.2] at hm
  have hml := Nat.mod_lt t (show 0 < 2 ^ n by omega)
  have htp := turned_p v hn hml hm (n : Int) ((n + 1 : Nat) : Int) n 0 1000 [] [] (by omega) (by omega) (by simp) (by simp)
  simp only [Int.natCast_zero, List.nil_append] at htp
  have e57 := f57_1_eq n (by simp; omega)
  have w1 := f32_eq v
  have w2 := f32_eq (turned_valid v hn hml)
  have w3 := f32_eq (more_valid v hn)
  have l2 := turned_len v hn hml
  have l3 := more_len v hn
  have l1 := filt_len (won s n) (2 ^ n) 0
  unfold f13
  rw [e31]
  simp only [Option.bind_some, hp.1, hp.2, q3, shl_eq hr.2]
  rw [req_pos (by omega), req_pos (by omega), req_pos (by omega), c1]
  simp only [Option.bind_some]
  rw [req_pos (by omega), c2]
  simp only [Option.bind_some]
  rw [c3, c4, c5]
  simp only [Option.bind_some]
  rw [c6]
  simp only [Option.bind_some]
  rw [req_pos (by omega), c7]
  simp only [Option.bind_some]
  rw [req_pos (by omega), w64_nat (by omega), c8, ← c9, c8]
  simp only [Option.bind_some, bne_self_eq_false, Bool.false_eq_true, if_false]
  rw [htp]
  simp only [Option.bind_some]
  rw [e57]
  simp only [Option.bind_some]
  rw [req_pos (by simp [mapL_len]; omega), w1, take0, w2, take0]
  rw [show mapL (fun i => row s i ++ row s i) 0 n ++ ([List.replicate (2 ^ n) 2] : List (List Int)) = mor s n from rfl, w3]
  simp only [Option.bind_some, beq_self_eq_true, if_true, l2, l3]
  rw [if_pos (by rw [w64_in (by omega)]; simp)]
  simp [works]

end Go.Gh.Hat
