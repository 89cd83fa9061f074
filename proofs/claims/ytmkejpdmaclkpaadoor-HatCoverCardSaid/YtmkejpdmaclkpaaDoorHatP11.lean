/- The plain law of HatCover. -/
import Derived.Test.YtmkejpdmaclkpaaDoorHatB
import Derived.Test.YtmkejpdmaclkpaaDoorHatM
namespace Go.Gh.Hat
set_option linter.unusedVariables false
set_option linter.unusedSimpArgs false

theorem filt_asc (p : Nat → Bool) : ∀ m i, (filt p i m).Pairwise (· < ·)
  | 0, _ => by simp [filt]
  | m + 1, i => by
    simp only [filt]
    refine List.pairwise_append.2 ⟨?_, filt_asc p m (i + 1), ?_⟩
    · split <;> simp
    · intro a ha b hb
      obtain ⟨j, e, h1, _⟩ := (mem_filt _ _).1 hb
      split at ha
      · have : a = (i : Int) := by simpa using ha
        omega
      · cases ha

theorem sorted_p {l : List Int} (hs : l.Pairwise (· < ·)) (hl : l.length ≤ 900) : ∀ (i f : Nat), i < f → i < l.length → f53_p1 1000 l f i = some .c1
  | 0, f + 1, _, _ => by simp [f53_p1]
  | i + 1, f + 1, hf, hi => by
    have h1 : l[i + 1]? = some l[i + 1] := List.getElem?_eq_getElem hi
    have h2 : l[i]? = some l[i] := List.getElem?_eq_getElem (by omega)
    have hlt : l[i] < l[i + 1] := List.pairwise_iff_getElem.1 hs i (i + 1) (by omega) hi (by omega)
    have e : w64 (((i + 1 : Nat) : Int) - 1) = (i : Int) := by rw [w64_in (by omega)]; omega
    have hn : ¬ l[i + 1] < l[i] := by omega
    have hgt : ((i + 1 : Nat) : Int) > 0 := by omega
    simp only [f53_p1, decide_eq_true hgt, if_true]
    rw [at_of h1, e]
    simp only [Option.bind_some]
    rw [at_of h2]
    simp only [Option.bind_some, f83, f93, bne_self_eq_false, Bool.false_eq_true, if_false, decide_eq_false hn]
    exact sorted_p hs hl i f (by omega) (by omega)
theorem f53_eq {l : List Int} (hs : l.Pairwise (· < ·)) (hl : l.length ≤ 900) : f53 1000 l = some true := by
  unfold f53
  cases l with
  | nil => rfl
  | cons x l =>
    have := sorted_p hs hl l.length 1000 (by simp at hl; omega) (by simp)
    rw [show w64 ((((x :: l).length : Nat) : Int) - 1) = ((l.length : Nat) : Int) by simp at hl ⊢; exact w64_in (by omega), this]
    rfl

section
variable {n : Nat} {p : Nat → Bool}

theorem f52_eq (hn : n ≤ 7) {x : Nat} (hx : x < 2 ^ n) : f52 1000 x (filt p 0 (2 ^ n)) = some (p x) := by
  have hl := len_set (p := p) hn
  unfold f52
  rw [f36_eq (by omega)]
  simp only [Option.bind_some]
  congr 1
  by_cases g : p x = true
  · rw [decide_eq_true ((mem_set hx).2 g), g]
  · rw [decide_eq_false (fun q => g ((mem_set hx).1 q))]
    simpa using g

/-- What is wanted. -/
def want (p : Nat → Bool) (c i : Nat) : Int := if p c = p (flip c i) then 2 else if p c = true then 1 - (bit c i : Int) else (bit c i : Int)

theorem fr_seen (hn : n ≤ 7) {i c : Nat} (hi : i < n) (hc : c < 2 ^ n) : fr (filt p 0 (2 ^ n)) i (seenN c i) = want p c i := by
  have hr := rg hn hi hc
  have hus := un_seen hn hi hc
  have hun := un_eq hn hi hr.1
  have hb := bit_le c i
  have key : ∀ u, u < 2 ^ n → (((u : Nat) : Int) ∈ filt p 0 (2 ^ n) ↔ p u = true) := fun u hu => mem_set hu
  unfold fr want
  by_cases h0 : bit c i = 0
  · rw [if_pos h0] at hus
    rw [← hus, h0]
    simp only [key c hc, key _ hr.2.1]
    cases p c <;> cases p (flip c i) <;> simp
  · have h1 : bit c i = 1 := by omega
    rw [if_neg h0] at hus
    have e : un (seenN c i) i = flip c i := by
      have := (rg hn hi hun.1).2.2.1
      rw [← hus] at this; exact this.symm
    rw [e, hr.2.2.1, h1]
    simp only [key c hc, key _ hr.2.1]
    cases p c <;> cases p (flip c i) <;> simp

theorem frs_valid (hn : 1 ≤ n ∧ n ≤ 7) (code : List Int) : VP n (frs code (2 ^ (n - 1)) 0 n) :=
  ⟨hn, frs_len _ _ _ _, fun l hl => by
    obtain ⟨j, _, _, rfl⟩ := frs_mem _ _ hl
    refine ⟨mapF_len _ _ _, fun x hx => ?_⟩
    have : ∀ m i, x ∈ mapF (fr code j) i m → 0 ≤ x ∧ x ≤ 2 := by
      intro m
      induction m with
      | zero => intro i h; cases h
      | succ m ih =>
        intro i h
        simp only [mapF, List.mem_cons] at h
        rcases h with rfl | h
        · unfold fr; split
          · omega
          · split <;> omega
        · exact ih _ h
    exact this _ _ hx⟩

theorem sv_plan (hn : 1 ≤ n ∧ n ≤ 7) {i c : Nat} (hi : i < n) (hc : c < 2 ^ n) : sv (frs (filt p 0 (2 ^ n)) (2 ^ (n - 1)) 0 n) c i = want p c i := by
  have hr := rg hn.2 hi hc
  unfold sv
  rw [frs_get _ _ _ _ _ hi, Option.getD_some, mapF_get _ _ _ hr.1, Option.getD_some, Nat.zero_add, Nat.zero_add]
  exact fr_seen hn.2 hi hc

theorem won_plan (hn : 1 ≤ n ∧ n ≤ 7) {c : Nat} (hc : c < 2 ^ n) : won (frs (filt p 0 (2 ^ n)) (2 ^ (n - 1)) 0 n) n c = (!p c && decide (0 < tm n (filt p 0 (2 ^ n)) c)) := by
  have zero : ∀ (g : Nat → Nat) m i, (∀ j, i ≤ j → j < i + m → g j = 0) → sumF g i m = 0 := by
    intro g m
    induction m with
    | zero => intro i _; rfl
    | succ m ih => intro i h; simp only [sumF]; rw [h i (by omega) (by omega), ih (i + 1) fun j a b => h j (by omega) (by omega)]
  unfold won
  cases hp : p c with
  | true =>
    have hR : R (frs (filt p 0 (2 ^ n)) (2 ^ (n - 1)) 0 n) n c = 0 := by
      apply zero
      intro j _ hj
      have hb := bit_le c j
      unfold rt
      rw [sv_plan hn (by omega) hc]
      unfold want
      rw [hp]
      cases p (flip c j) with
      | true =>
        have : ¬ (2 : Int) = (bit c j : Int) := by omega
        simp [this]
      | false =>
        have : ¬ (1 : Int) - (bit c j : Int) = (bit c j : Int) := by omega
        simp [this]
    rw [hR]; rfl
  | false =>
    have hW : Wn (frs (filt p 0 (2 ^ n)) (2 ^ (n - 1)) 0 n) n c = 0 := by
      apply zero
      intro j _ hj
      unfold wr
      rw [sv_plan hn (by omega) hc]
      unfold want
      rw [hp]
      cases p (flip c j) with
      | true => simp
      | false => simp
    have hR : R (frs (filt p 0 (2 ^ n)) (2 ^ (n - 1)) 0 n) n c = tm n (filt p 0 (2 ^ n)) c := by
      unfold R tm
      rw [has_set hc, if_neg (by rw [hp]; exact Bool.false_ne_true), Nat.zero_add]
      apply sumF_congr
      intro j _ hj
      have hb := bit_le c j
      have hr := rg hn.2 (show j < n by omega) hc
      unfold rt
      rw [sv_plan hn (by omega) hc, has_set hr.2.1]
      unfold want
      rw [hp]
      cases p (flip c j) with
      | true => simp
      | false =>
        have : ¬ (2 : Int) = (bit c j : Int) := by omega
        simp [this]
    rw [hW, hR]; simp

variable {x1 : Int} (hx : w64 (1 + (Int.tmod (w64 (x1)) 4)) = (n : Int))
include hx

theorem want_p (hn : 1 ≤ n ∧ n ≤ 4) {i : Nat} (hi : i < n) (x5 : List (List Int)) (x4 : Int) : ∀ (m c f : Nat), m < f → c + m = 2 ^ n →
    f11_p6 1000 x1 i (mapF (fr (filt p 0 (2 ^ n)) i) 0 (2 ^ (n - 1))) x5 (filt p 0 (2 ^ n)) x4 f c = some .c1
  | 0, c, f + 1, _, hc => by
    have : ¬ (c : Int) < ((2 ^ n : Nat) : Int) := by omega
    simp only [f11_p6, hx, shl_eq (show n ≤ 7 by omega), decide_eq_false this, Bool.false_eq_true, if_false]
  | m + 1, c, f + 1, hf, hc => by
    have hpw := pw_le (n := n) (by omega)
    have hcn : c < 2 ^ n := by omega
    have hr := rg (n := n) (by omega) hi hcn
    have hlt : (c : Int) < ((2 ^ n : Nat) : Int) := by omega
    have hb := bit_le c i
    have hat : at? (mapF (fr (filt p 0 (2 ^ n)) i) 0 (2 ^ (n - 1))) ((seenN c i : Nat) : Int) = some (want p c i) := by
      have := mapF_get (f := fr (filt p 0 (2 ^ n)) i) (2 ^ (n - 1)) 0 (seenN c i) hr.1
      rw [Nat.zero_add, fr_seen (by omega) hi hcn] at this
      exact at_of this
    have e9 : f11_p9 1000 x1 i (mapF (fr (filt p 0 (2 ^ n)) i) 0 (2 ^ (n - 1))) c x5 (p c) (p (flip c i)) (filt p 0 (2 ^ n)) x4 = some (want p c i) := by
      unfold f11_p9 want
      by_cases g : p c = p (flip c i)
      · rw [if_pos (by simpa using g), if_pos g]
      · rw [if_neg (by simpa using g), if_neg g, req_pos (by omega), f52_eq (by omega) hcn]
        simp only [Option.bind_some, f11_p10]
        rw [arB (by omega) (by omega)]
        by_cases q : p c = true
        · rw [if_pos q, if_pos q, w64_in (by omega)]; rfl
        · rw [if_neg q, if_neg q]; rfl
    simp only [f11_p6, hx, shl_eq (show n ≤ 7 by omega), decide_eq_true hlt, if_true]
    rw [f52_eq (by omega) hcn]
    simp only [Option.bind_some]
    rw [req_pos (by omega), arX (by omega) (by omega), f52_eq (by omega) hr.2.1]
    simp only [Option.bind_some]
    rw [e9, f41_eq hn.2 hi hcn]
    simp only [Option.bind_some, hat, bne_self_eq_false, Bool.false_eq_true, if_false]
    rw [w64_nat (by omega)]
    exact want_p hn hi x5 x4 m (c + 1) f (by omega) (by omega)

theorem wants_p (hn : 1 ≤ n ∧ n ≤ 4) (x4 : Int) : ∀ (m i f : Nat), m < f → i + m = n →
    f11_p2 1000 x1 (frs (filt p 0 (2 ^ n)) (2 ^ (n - 1)) 0 n) (filt p 0 (2 ^ n)) x4 f i = some .c1
  | 0, i, f + 1, _, hi => by
    have : ¬ (i : Int) < (n : Int) := by omega
    simp only [f11_p2, frs_len, decide_eq_false this, Bool.false_eq_true, if_false]
  | m + 1, i, f + 1, hf, hi => by
    have hpw := pw_le (n := n) (by omega)
    have hlt : (i : Int) < (n : Int) := by omega
    have hg := frs_get (filt p 0 (2 ^ n)) (2 ^ (n - 1)) n 0 i (by omega)
    rw [Nat.zero_add] at hg
    have hw := want_p (p := p) hx hn (show i < n by omega) (frs (filt p 0 (2 ^ n)) (2 ^ (n - 1)) 0 n) x4 (2 ^ n) 0 1000 (by omega) (by omega)
    simp only [Int.natCast_zero] at hw
    simp only [f11_p2, frs_len, decide_eq_true hlt, if_true, at_of hg, Option.bind_some, hx]
    rw [req_pos (by omega), hw, w64_nat (by omega)]
    exact wants_p hn x4 m (i + 1) f (by omega) (by omega)

theorem count_p (hn : 1 ≤ n ∧ n ≤ 4) {c : Nat} (hc : c < 2 ^ n) (x18 x20 x22 : List Int) : ∀ (m i f a : Nat), m < f → i + m = n → a ≤ 1 + i →
    f11_p19 1000 x1 x18 x20 x22 c (filt p 0 (2 ^ n)) f a i = some ((a + sumF (fun i => has (filt p 0 (2 ^ n)) (flip c i)) i m : Nat) : Int)
  | 0, i, f + 1, a, _, hi, _ => by
    have : ¬ (i : Int) < (n : Int) := by omega
    simp [f11_p19, hx, this, sumF]
  | m + 1, i, f + 1, a, hf, hi, ha => by
    have hpw := pw_le (n := n) (by omega)
    have hlt : (i : Int) < (n : Int) := by omega
    have hr := rg (n := n) (by omega) (show i < n by omega) hc
    simp only [f11_p19, hx, decide_eq_true hlt, if_true]
    rw [req_pos (by omega), arX (by omega) (by omega), f52_eq (by omega) hr.2.1]
    simp only [Option.bind_some, f11_p22, sumF]
    by_cases g : p (flip c i) = true
    · rw [if_pos g]
      simp only [Option.bind_some]
      rw [w64_nat (by omega), w64_nat (by omega), count_p hn hc x18 x20 x22 m (i + 1) f (a + 1) (by omega) (by omega) (by omega), has_set hr.2.1, if_pos g, Nat.add_assoc]
    · rw [if_neg g]
      simp only [Option.bind_some]
      rw [w64_nat (by omega), count_p hn hc x18 x20 x22 m (i + 1) f a (by omega) (by omega) (by omega), has_set hr.2.1, if_neg g, Nat.zero_add]

theorem each_p (hn : 1 ≤ n ∧ n ≤ 4) : ∀ (m c f : Nat), m < f → c + m = 2 ^ n →
    f11_p14 1000 x1 (mapF (fun x => (tm n (filt p 0 (2 ^ n)) x : Int)) 0 (2 ^ n)) (filt (bareB n (filt p 0 (2 ^ n))) 0 (2 ^ n))
      (filt (won (frs (filt p 0 (2 ^ n)) (2 ^ (n - 1)) 0 n) n) 0 (2 ^ n)) (filt p 0 (2 ^ n)) f c = some .c1
  | 0, c, f + 1, _, hc => by
    have : ¬ (c : Int) < ((2 ^ n : Nat) : Int) := by omega
    simp only [f11_p14, hx, shl_eq (show n ≤ 7 by omega), decide_eq_false this, Bool.false_eq_true, if_false]
  | m + 1, c, f + 1, hf, hc => by
    have hpw := pw_le (n := n) (by omega)
    have hcn : c < 2 ^ n := by omega
    have hlt : (c : Int) < ((2 ^ n : Nat) : Int) := by omega
    have hat : at? (mapF (fun x => (tm n (filt p 0 (2 ^ n)) x : Int)) 0 (2 ^ n)) (c : Int) = some (tm n (filt p 0 (2 ^ n)) c : Int) := by
      have := mapF_get (f := fun x => (tm n (filt p 0 (2 ^ n)) x : Int)) (2 ^ n) 0 c hcn
      rw [Nat.zero_add] at this
      exact at_of this
    have f36w : ∀ q : Nat → Bool, f36 1000 (filt q 0 (2 ^ n)) c = some (q c) := by
      intro q
      have := f52_eq (p := q) (n := n) (by omega) hcn
      unfold f52 at this
      rw [f36_eq (by have := len_set (p := q) (n := n) (by omega); omega)] at this ⊢
      exact this
    have e17 : f11_p17 1000 x1 (mapF (fun x => (tm n (filt p 0 (2 ^ n)) x : Int)) 0 (2 ^ n)) (filt (bareB n (filt p 0 (2 ^ n))) 0 (2 ^ n)) (filt (won (frs (filt p 0 (2 ^ n)) (2 ^ (n - 1)) 0 n) n) 0 (2 ^ n)) c (p c) (filt p 0 (2 ^ n)) = some ((has (filt p 0 (2 ^ n)) c : Nat) : Int) := by
      unfold f11_p17
      rw [has_set hcn]
      by_cases g : p c = true
      · rw [if_pos g, if_pos g]; rfl
      · rw [if_neg g, if_neg g]; rfl
    have h1 : has (filt p 0 (2 ^ n)) c ≤ 1 := by unfold has; split <;> omega
    have e19 := count_p (p := p) hx hn hcn (mapF (fun x => (tm n (filt p 0 (2 ^ n)) x : Int)) 0 (2 ^ n)) (filt (bareB n (filt p 0 (2 ^ n))) 0 (2 ^ n)) (filt (won (frs (filt p 0 (2 ^ n)) (2 ^ (n - 1)) 0 n) n) 0 (2 ^ n)) n 0 1000 (has (filt p 0 (2 ^ n)) c) (by omega) (by omega) (by omega)
    rw [show has (filt p 0 (2 ^ n)) c + sumF (fun i => has (filt p 0 (2 ^ n)) (flip c i)) 0 n = tm n (filt p 0 (2 ^ n)) c from rfl] at e19
    simp only [Int.natCast_zero] at e19
    simp only [f11_p14, hx, shl_eq (show n ≤ 7 by omega), decide_eq_true hlt, if_true]
    rw [f52_eq (by omega) hcn]
    simp only [Option.bind_some]
    rw [e17]
    simp only [Option.bind_some]
    rw [e19]
    simp only [Option.bind_some, hat, bne_self_eq_false, Bool.false_eq_true, if_false, f36w]
    have hw := won_plan (p := p) (n := n) (by omega) hcn
    have hnext := each_p hn m (c + 1) f (by omega) (by omega)
    by_cases g : tm n (filt p 0 (2 ^ n)) c = 0
    · rw [if_pos (by simp [bareB, g]), if_neg (by simp [g]), if_pos (by rw [hw, g]; simp), w64_nat (by omega)]
      exact hnext
    · rw [if_pos (by simp [bareB, g]), if_pos (by simp; omega)]
      rw [if_pos (by rw [hw]; have : 0 < tm n (filt p 0 (2 ^ n)) c := by omega
                     simp [this]), w64_nat (by omega)]
      exact hnext
end

theorem pows : ∀ n ∈ List.range 5, iShl .u64 1 ((n : Nat) : Int) = ((2 ^ n : Nat) : Int) ∧ iShl .i64 1 ((2 ^ n : Nat) : Int) = ((2 ^ 2 ^ n : Nat) : Int) := by decide +kernel
theorem two_two : ∀ n ∈ List.range 5, 2 ^ n ≤ 16 ∧ 2 ^ 2 ^ n ≤ 65536 := by decide +kernel

theorem f11_plain (x1 x2 : Int) (h1 : 0 ≤ x1 ∧ x1 ≤ 255) (h2 : 0 ≤ x2 ∧ x2 ≤ 65535) : f11 1000 x1 x2 = some true := by
  have q1 : w64 (1 + (Int.tmod (w64 (x1)) 4)) = ((1 + x1.toNat % 4 : Nat) : Int) := by
    rw [w64_in (n := x1) (by omega), Int.tmod_eq_emod_of_nonneg h1.1, w64_in (by omega)]; omega
  obtain ⟨n, hn⟩ : ∃ n, n = 1 + x1.toNat % 4 := ⟨_, rfl⟩
  rw [← hn] at q1
  have hn4 : 1 ≤ n ∧ n ≤ 4 := by omega
  have hn7 : 1 ≤ n ∧ n ≤ 7 := by omega
  have ht := two_two n (by simp; omega)
  have hp := pows n (by simp; omega)
  have hpw := pw_le (n := n) (by omega)
  have hpos : 0 < 2 ^ 2 ^ n := Nat.pow_pos (by omega)
  have q2 : Int.tmod (w64 (x2)) ((2 ^ 2 ^ n : Nat) : Int) = ((x2.toNat % 2 ^ 2 ^ n : Nat) : Int) := by
    rw [w64_in (n := x2) (by omega), Int.tmod_eq_emod_of_nonneg h2.1, Int.natCast_emod]; congr 1; omega
  have hs := Nat.mod_lt x2.toNat hpos
  generalize x2.toNat % 2 ^ 2 ^ n = s at *
  have k1 := f43_eq (s := s) ht.1 hs
  have hcl := len_set (p := s.testBit) hn7.2
  have hch := chk_filt (p := s.testBit) hn7
  have v := frs_valid hn7 (filt s.testBit 0 (2 ^ n))
  have t1 := f15_eq hcl n
  have t2 := f17_eq hcl n
  have t3 := f19_eq hcl n
  rw [if_pos hch, Int.toNat_natCast] at t1 t2 t3
  have e49 := f49_eq v.sm (n : Int)
  rw [v.chk] at e49
  have l1 := wants_p (p := s.testBit) q1 hn4 (n : Int) n 0 1000 (by omega) (by omega)
  have l2 := each_p (p := s.testBit) q1 hn4 (2 ^ n) 0 1000 (by omega) (by omega)
  simp only [Int.natCast_zero] at l1 l2
  have w1 := filt_len (bareB n (filt s.testBit 0 (2 ^ n))) (2 ^ n) 0
  have w2 := filt_len (won (frs (filt s.testBit 0 (2 ^ n)) (2 ^ (n - 1)) 0 n) n) (2 ^ n) 0
  unfold f11
  simp only [q1, hp.1, hp.2, q2, shl_eq hn7.2]
  rw [req_pos (by omega), req_pos (by omega), req_pos (by omega), k1]
  simp only [Option.bind_some]
  rw [t3]
  simp only [Option.bind_some, bne_self_eq_false, Bool.false_eq_true, if_false]
  rw [e49]
  simp only [Option.bind_some, bne_self_eq_false, Bool.false_eq_true, if_false]
  rw [l1]
  simp only [Option.bind_some]
  rw [t1, t2, f32_eq v]
  simp only [Option.bind_some, bne_self_eq_false, Bool.false_eq_true, if_false, mapF_len]
  rw [l2]
  simp only [Option.bind_some]
  rw [f53_eq (filt_asc _ _ _) (by omega), f53_eq (filt_asc _ _ _) (by omega)]
  simp [works]

end Go.Gh.Hat
