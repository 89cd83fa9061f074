/- Fans: the program's search: all completions, the last kind first. -/
import Derived.Test.YtidfbhlhogkfmaaFanY
namespace Go.Gh.Fan
set_option linter.unusedVariables false
set_option linter.unusedSimpArgs false

def compAt (w : Bool) (sub : List Int → List (List Int)) (l : List Int) (k : Nat) : Nat → Nat → List (List Int)
  | 0, _ => []
  | r + 1, p => (if mayS w l k p = 0 then sub (set2 l p (p + dN w k) k) else []) ++ compAt w sub l k r (p + 1)

/-- All completions with so many kinds. -/
def comp (w : Bool) : Nat → List Int → List (List Int)
  | 0, l => [l]
  | m + 1, l => if posF 0 l ((m + 1 : Nat) : Int) ≠ [] then comp w m l else compAt w (comp w m) l (m + 1) l.length 0

/-- The last kind up to one that is not there. -/
def skipN (l : List Int) : Nat → Nat
  | 0 => 0
  | m + 1 => if posF 0 l ((m + 1 : Nat) : Int) = [] then m + 1 else skipN l m

theorem comp_skip (w : Bool) (l : List Int) : ∀ m, comp w m l = comp w (skipN l m) l
  | 0 => rfl
  | m + 1 => by
    by_cases h : posF 0 l ((m + 1 : Nat) : Int) = []
    · rw [skipN, if_pos h]
    · rw [skipN, if_neg h, comp, if_pos h, comp_skip w l m]
theorem skip_le (l : List Int) : ∀ m, skipN l m ≤ m
  | 0 => Nat.le_refl _
  | m + 1 => by
    have := skip_le l m
    unfold skipN; split <;> omega
theorem skip_pos (l : List Int) : ∀ m j, skipN l m = j + 1 → posF 0 l ((j + 1 : Nat) : Int) = []
  | 0, j, h => by cases h
  | m + 1, j, h => by
    unfold skipN at h
    split at h
    · obtain rfl : m = j := by omega
      assumption
    · exact skip_pos l m j h

theorem compAt_len {w : Bool} {sub : List Int → List (List Int)} {l : List Int} {k B : Nat} (h : ∀ l' : List Int, l'.length = l.length → (sub l').length ≤ B) : ∀ r p, (compAt w sub l k r p).length ≤ r * B
  | 0, _ => by simp [compAt]
  | r + 1, p => by
    have ih := compAt_len (w := w) (k := k) h r (p + 1)
    have e : (r + 1) * B = B + r * B := by rw [Nat.add_mul]; omega
    simp only [compAt, List.length_append]
    split
    · have := h (set2 l p (p + dN w k) k) (set2_len _ _ _ _)
      omega
    · simp; omega

theorem comp_len {w : Bool} : ∀ (m : Nat) (l : List Int), l.length ≤ 16 → (comp w m l).length ≤ 16 ^ m
  | 0, l, _ => by simp [comp]
  | m + 1, l, h => by
    have e : 16 ^ (m + 1) = 16 * 16 ^ m := by rw [Nat.pow_succ, Nat.mul_comm]
    have hp : 0 < 16 ^ m := Nat.pow_pos (by omega)
    unfold comp
    split
    · have := comp_len (w := w) m l h
      omega
    · have h1 := compAt_len (w := w) (sub := comp w m) (l := l) (k := m + 1) (B := 16 ^ m) (fun l' hl => comp_len m l' (by omega)) l.length 0
      have h2 : l.length * 16 ^ m ≤ 16 * 16 ^ m := Nat.mul_le_mul_right _ h
      omega

/-- The table of first places, but for what is kept of empty places. -/
def FT (g : Nat → Int) (l : List Int) : Prop := ∀ i, 1 ≤ i → i ≤ 8 → g i = fstv l i

theorem fst_is_none {l : List Int} {k : Nat} (h : posF 0 l k = []) : fstv l k = -1 := by unfold fstv; rw [h]; rfl

theorem put_FT {n : Int} {w : Bool} {l : List Int} {k p : Nat} (v : Val n w l) (hk : 1 ≤ k ∧ (k : Int) ≤ n) (h0 : posF 0 l k = []) (hf : fitB w l k p = true) {g : Nat → Int} (hg : FT g l) :
    FT (fun i => if i = k then (p : Int) else g i) (set2 l p (p + dN w k) k) := by
  intro i h1 h2
  by_cases e : i = k
  · subst e
    simp only [if_true]
    unfold fstv
    rw [put_self v hk h0 hf]; rfl
  · simp only [if_neg e]
    rw [hg i h1 h2]
    unfold fstv
    rw [put_other v hk h0 hf (by omega) (by omega)]

theorem take_tab {l : List Int} {k : Nat} {p : Int} (hk : 1 ≤ k ∧ k ≤ 8) (h0 : posF 0 l k = []) {g : Nat → Int} (hg : FT g l) :
    tab 9 (fun i => if i = k then -1 else (if i = k then p else g i)) = tab 9 g := by
  apply tab_congr
  intro i _
  by_cases e : i = k
  · subst e
    rw [if_pos rfl, hg i hk.1 hk.2, fst_is_none h0]
  · rw [if_neg e, if_neg e]

section count
variable {F : Nat} {n : Int} {w : Bool}

theorem skip_1 {l : List Int} {g : Nat → Int} (hg : FT g l) (c : Int) (r : List Int) : ∀ (m f : Nat), m < f → m ≤ 8 → f78_1_p1 F n w r (tab 9 g) c f m = some ((skipN l m : Nat) : Int)
  | 0, f + 1, _, _ => by simp [f78_1_p1, skipN]
  | m + 1, f + 1, hf, hm => by
    have hgt : ((m + 1 : Nat) : Int) > 0 := by omega
    simp only [f78_1_p1, decide_eq_true hgt, if_true]
    rw [req_pos (by omega)]
    simp only [Int.toNat_natCast, Nat.zero_add, Nat.mul_one, tab_get (show m + 1 < 9 by omega), Option.bind_some]
    rw [hg (m + 1) (by omega) (by omega), w64_in (n := ((m + 1 : Nat) : Int) - 1) (by omega), show ((m + 1 : Nat) : Int) - 1 = (m : Int) by omega]
    by_cases h : posF 0 l ((m + 1 : Nat) : Int) = []
    · have : ¬ fstv l (m + 1) ≥ 0 := fun q => fst_pos.1 q h
      rw [if_neg (by simpa using this), skipN, if_pos h]
    · have : fstv l (m + 1) ≥ 0 := fst_pos.2 h
      rw [if_pos (by simpa using this), skipN, if_neg h]
      exact skip_1 hg c r m f (by omega) (by omega)

theorem loop_1 {rec : Int → Int → Bool → (List Int) → (List Int) → Int → Option (Bool × Int × Bool × (List Int) × (List Int) × Int)} {j : Nat} (hj : ((j + 1 : Nat) : Int) ≤ n)
    (hrec : ∀ (l' : List Int) (g' : Nat → Int) (c' : Int), Val n w l' → FT g' l' → 0 ≤ c' → c' + (16 ^ j : Nat) ≤ 4611686018427387904 →
      rec j n w (tab 16 (atv l')) (tab 9 g') c' = some (true, n, w, tab 16 (atv l'), tab 9 g', c' + ((comp w j l').length : Int)))
    {l : List Int} (v : Val n w l) (h0 : posF 0 l ((j + 1 : Nat) : Int) = []) {g : Nat → Int} (hg : FT g l) :
    ∀ (r p f : Nat) (c : Int), r < f → p + r = l.length → 0 ≤ c → c + (r * 16 ^ j : Nat) ≤ 4611686018427387904 →
    f78_1_p6 F rec ((j + 1 : Nat) : Int) ((l.length : Nat) : Int) f p n w (tab 16 (atv l)) (tab 9 g) c = some (.c1 n w (tab 16 (atv l)) (tab 9 g) (c + ((compAt w (comp w j) l (j + 1) r p).length : Int)))
  | 0, p, f + 1, c, _, hp, _, _ => by
    obtain rfl : p = l.length := by omega
    simp [f78_1_p6, compAt]
  | r + 1, p, f + 1, c, hf, hp, hc, hB => by
    have hr := v.rng
    have hlen := v.len
    have hlt : (p : Int) < ((l.length : Nat) : Int) := by omega
    have hB' : c + ((16 ^ j : Nat) : Int) + ((r * 16 ^ j : Nat) : Int) ≤ 4611686018427387904 := by
      rw [show (r + 1) * 16 ^ j = 16 ^ j + r * 16 ^ j by rw [Nat.add_mul]; omega, Int.natCast_add] at hB
      omega
    clear hB
    have hpos : (0 : Int) ≤ ((16 ^ j : Nat) : Int) := Int.natCast_nonneg _
    have hpos' : (0 : Int) ≤ ((r * 16 ^ j : Nat) : Int) := Int.natCast_nonneg _
    have hrec' := hrec
    generalize hX : ((16 ^ j : Nat) : Int) = X at hrec hB' hpos
    generalize hY : ((r * 16 ^ j : Nat) : Int) = Y at hB' hpos'
    simp only [f78_1_p6, decide_eq_true hlt, if_true]
    rw [f60_g v (k := j + 1) ⟨by omega, hj⟩ (by omega) (hg (j + 1) (by omega) (by omega)), w64_nat (show p < 1000000 by omega)]
    simp only [Option.bind_some, compAt]
    by_cases h : mayS w l (j + 1) p = 0
    · obtain ⟨_, g2, g3⟩ := may_zero h
      have hk : 1 ≤ j + 1 ∧ ((j + 1 : Nat) : Int) ≤ n := ⟨by omega, hj⟩
      have v' := put_val v hk h0 g2
      have hlen' : (((comp w j (set2 l p (p + dN w (j + 1)) ((j + 1 : Nat) : Int))).length : Nat) : Int) ≤ X := by
        have := comp_len (w := w) j (set2 l p (p + dN w (j + 1)) ((j + 1 : Nat) : Int)) (by rw [set2_len]; omega)
        rw [← hX]; exact Int.ofNat_le.2 this
      rw [if_neg (by simp [h]), f61_putg v hk h0 g3 (hg (j + 1) (by omega) (by omega))]
      simp only [Option.bind_some]
      rw [w64_in (n := ((j + 1 : Nat) : Int) - 1) (by omega), show ((j + 1 : Nat) : Int) - 1 = (j : Int) by omega, hrec _ _ _ v' (put_FT v hk h0 g2 hg) hc (by omega)]
      simp only [Option.bind_some]
      rw [f61_takeg v' hk (by rw [set2_len]; exact g3) (by simp)]
      simp only [Option.bind_some, if_true]
      rw [put_back v hk h0 g2, take_tab (by omega) h0 hg, if_pos h]
      rw [loop_1 hj hrec' v h0 hg r (p + 1) f _ (by omega) (by omega) (by omega) (by rw [hY]; omega)]
      simp only [List.length_append]
      congr 2; omega
    · rw [if_pos (by simpa using h), if_neg h]
      rw [loop_1 hj hrec' v h0 hg r (p + 1) f c (by omega) (by omega) hc (by rw [hY]; omega)]
      simp

theorem f78_1_eq (hF : 100 ≤ F) : ∀ (f m : Nat) (l : List Int) (g : Nat → Int) (c : Int), m < f → (m : Int) ≤ n → Val n w l → FT g l → 0 ≤ c → c + (16 ^ m : Nat) ≤ 4611686018427387904 →
    f78_1 F f m n w (tab 16 (atv l)) (tab 9 g) c = some (true, n, w, tab 16 (atv l), tab 9 g, c + ((comp w m l).length : Int))
  | f + 1, m, l, g, c, hf, hm, v, hg, hc, hB => by
    have hr := v.rng
    have hlen := v.len
    have hsl := skip_le l m
    unfold f78_1 f78_1_b
    rw [skip_1 hg c _ m F (by omega) (by omega), comp_skip]
    simp only [Option.bind_some]
    by_cases h : skipN l m = 0
    · have hp : 0 < 16 ^ m := Nat.pow_pos (by omega)
      rw [if_pos (by simp [h]), h]
      simp only [f35_y0, Option.bind_some, comp, List.length_singleton]
      rw [w64_in (by omega)]; rfl
    · obtain ⟨j, hj⟩ := Nat.exists_eq_succ_of_ne_zero h
      have h0 := skip_pos l m j hj
      have hpw : 16 ^ (j + 1) ≤ 16 ^ m := Nat.pow_le_pow_right (by omega) (by omega)
      have e : 16 ^ (j + 1) = 16 * 16 ^ j := by rw [Nat.pow_succ, Nat.mul_comm]
      have h2 : l.length * 16 ^ j ≤ 16 * 16 ^ j := Nat.mul_le_mul_right _ (by omega)
      rw [if_neg (by simp; omega), hj]
      simp only [f59, Option.bind_some]
      rw [w64_in (n := 2 * n) (by omega), ← hlen]
      have := loop_1 (F := F) (n := n) (w := w) (rec := f78_1 F f) (j := j) (by omega) (fun l' g' c' v' hg' hc' hB' => f78_1_eq hF f j l' g' c' (by omega) (by omega) v' hg' hc' hB') v h0 hg l.length 0 F c (by omega) (by omega) hc (by omega)
      simp only [Int.natCast_zero] at this
      rw [show ((j.succ : Nat) : Int) = ((j + 1 : Nat) : Int) from rfl, this]
      simp only [Option.bind_some]
      rw [show comp w j.succ l = compAt w (comp w j) l (j + 1) l.length 0 by rw [show j.succ = j + 1 from rfl, comp, if_neg (fun q => q h0)]]
end count

/-- How many completions there are. -/
theorem f35_eq {n : Int} {w : Bool} {l : List Int} (v : Val n w l) : f35 100 n w l = some (((comp w n.toNat l).length : Int), 0) := by
  have hr := v.rng
  have hlen := v.len
  have hp : 16 ^ n.toNat ≤ 16 ^ 8 := Nat.pow_le_pow_right (by omega) (by omega)
  unfold f35
  rw [f57_eq (by omega) (by omega), if_pos (code_zero.2 v)]
  simp only [Option.bind_some, bne_self_eq_false, f72_3, Bool.false_eq_true, if_false]
  have := f78_1_eq (F := 100) (n := n) (w := w) (by omega) 100 n.toNat l (fstv l) 0 (by omega) (by omega) v (fun _ _ _ => rfl) (by omega) (by omega)
  rw [show ((n.toNat : Nat) : Int) = n by omega] at this
  rw [this]
  simp

/- comparing lists -/
def cmpL : List Int → List Int → Int
  | [], [] => 0
  | [], _ :: _ => -1
  | _ :: _, [] => 1
  | x :: xs, y :: ys => if x < y then -1 else if y < x then 1 else cmpL xs ys

theorem f75_eq (F : Nat) (a b : Int) : f75 F a b = some (if a < b then -1 else if b < a then 1 else 0) := by
  unfold f75 f79
  simp only [bne_self_eq_false, Option.bind_some, Bool.false_eq_true, if_false]
  by_cases h1 : a < b
  · simp [h1]
  · by_cases h2 : b < a
    · simp [h1, h2]
    · simp [h1, h2]

theorem f42_p1_eq (F : Nat) : ∀ (s t p q : List Int) (f : Nat), s.length < f → p.length + s.length ≤ 1000 → p.length = q.length →
    ∃ r, f42_p1 F (p ++ s) (q ++ t) f p.length = some r ∧ (r = .c0 (cmpL s t) ∨ (r = .c1 ∧ cmpL s t = if s.length < t.length then -1 else 0))
  | [], t, p, q, f + 1, _, _, hpq => by
    refine ⟨.c1, by simp [f42_p1], .inr ⟨rfl, ?_⟩⟩
    cases t with
    | nil => rfl
    | cons y t => simp [cmpL]
  | x :: s, t, p, q, f + 1, hf, hl, hpq => by
    simp only [List.length_cons] at hf hl
    have hlt : ((p.length : Int) < (((p ++ x :: s).length : Nat) : Int)) := by simp; omega
    simp only [f42_p1, decide_eq_true hlt, if_true, at_mid, Option.bind_some]
    cases t with
    | nil =>
      have : (p.length : Int) ≥ (((q ++ []).length : Nat) : Int) := by simp; omega
      exact ⟨.c0 1, by rw [if_pos (by simpa using this)], .inl rfl⟩
    | cons y t =>
      have : ¬ (p.length : Int) ≥ (((q ++ y :: t).length : Nat) : Int) := by simp; omega
      rw [if_neg (by simpa using this), hpq, at_mid]
      simp only [Option.bind_some, f75_eq, cmpL]
      by_cases h1 : x < y
      · exact ⟨.c0 (-1), by simp [h1], .inl (by simp [h1])⟩
      · by_cases h2 : y < x
        · exact ⟨.c0 1, by simp [h1, h2], .inl (by simp [h1, h2])⟩
        · obtain ⟨r, g1, g2⟩ := f42_p1_eq F s t (p ++ [x]) (q ++ [y]) f (by omega) (by simp; omega) (by simp [hpq])
          simp only [List.append_assoc, List.singleton_append, List.length_append, List.length_singleton] at g1
          refine ⟨r, ?_, ?_⟩
          · rw [if_neg h1, if_neg h2, w64_nat (by omega), ← hpq]
            simpa using g1
          · rw [if_neg h1, if_neg h2]
            simpa using g2

theorem f42_eq {F : Nat} {xs ys : List Int} (hF : xs.length < F) (hl : xs.length ≤ 1000) : f42 F xs ys = some (cmpL xs ys) := by
  obtain ⟨r, h1, h2⟩ := f42_p1_eq F xs ys [] [] F hF (by simpa using hl) rfl
  simp only [List.nil_append, List.length_nil, Int.natCast_zero] at h1
  unfold f42
  rw [h1]
  rcases h2 with rfl | ⟨rfl, h2⟩
  · rfl
  · simp only [Option.bind_some, h2]
    by_cases g : xs.length < ys.length
    · have : (xs.length : Int) < (ys.length : Int) := by omega
      simp [g]
    · have : ¬ (xs.length : Int) < (ys.length : Int) := by omega
      simp [g]

/-- The better one of two completions. -/
def bet (b : Option (List Int)) (x : List Int) : Option (List Int) :=
  match b with
  | none => some x
  | some y => if cmpL (tab 16 (atv x)) (tab 16 (atv y)) < 0 then some x else some y

def padO : Option (List Int) → List Int
  | none => List.replicate 16 0
  | some x => tab 16 (atv x)

theorem bet_eq {F : Nat} (hF : 100 ≤ F) {b : Option (List Int)} (hb : ∀ y, b = some y → atv y 0 ≠ 0) {x : List Int} (n : Int) (w : Bool) (c : List Int) (d : List Int) :
    f33_y0 F (tab 16 (atv x)) n w c d 0 false (padO b) = some (padO (bet b x)) := by
  unfold f33_y0 eqL
  cases b with
  | none => simp [padO, bet]
  | some y =>
    have hne : ¬ (padO (some y) == [0, 0, 0, 0, 0, 0, 0, 0, 0, 0, 0, 0, 0, 0, 0, 0]) = true := by
      simp only [beq_iff_eq, padO]
      intro e
      have : (tab 16 (atv y))[0]? = some 0 := by rw [e]; rfl
      rw [tab_get (by omega)] at this
      exact hb y rfl (Option.some.inj this)
    rw [if_neg hne]
    have e1 : List.drop 0 (List.take 16 (tab 16 (atv x))) = tab 16 (atv x) := by rw [List.drop_zero, List.take_of_length_le (by rw [tab_len]; omega)]
    have e3 : padO (some y) = tab 16 (atv y) := rfl
    have e2 : List.drop 0 (List.take 16 (padO (some y))) = tab 16 (atv y) := by rw [List.drop_zero, List.take_of_length_le (by rw [e3, tab_len]; omega), e3]
    rw [e1, e2, f42_eq (by rw [tab_len]; omega) (by rw [tab_len]; omega)]
    simp only [Option.bind_some]
    rw [req_pos (Nat.le_of_eq (tab_len _ _).symm), req_pos (show 16 ≤ (padO (some y)).length by rw [e3, tab_len]; omega)]
    unfold bet
    by_cases h : cmpL (tab 16 (atv x)) (tab 16 (atv y)) < 0
    · simp [h, padO]
    · simp [h, padO]

/-- In all completions something stands at the first place. -/
theorem bet_good {L : List (List Int)} (hL : ∀ x ∈ L, atv x 0 ≠ 0) : ∀ (b : Option (List Int)), (∀ y, b = some y → atv y 0 ≠ 0) → ∀ y, L.foldl bet b = some y → atv y 0 ≠ 0 := by
  induction L with
  | nil => intro b hb y h; exact hb y h
  | cons x L ih =>
    intro b hb y h
    refine ih (fun z hz => hL z (List.mem_cons_of_mem _ hz)) (bet b x) ?_ y h
    intro z hz
    unfold bet at hz
    have hx := hL x (List.mem_cons_self ..)
    cases b with
    | none => cases hz; exact hx
    | some u =>
      simp only at hz
      split at hz
      · cases hz; exact hx
      · cases hz; exact hb _ rfl

section best
variable {F : Nat} {n : Int} {w : Bool}

theorem skip_2 {l : List Int} {g : Nat → Int} (hg : FT g l) (b : List Int) (r : List Int) : ∀ (m f : Nat), m < f → m ≤ 8 → f78_p1 F n w r (tab 9 g) 0 false b f m = some ((skipN l m : Nat) : Int)
  | 0, f + 1, _, _ => by simp [f78_p1, skipN]
  | m + 1, f + 1, hf, hm => by
    have hgt : ((m + 1 : Nat) : Int) > 0 := by omega
    simp only [f78_p1, decide_eq_true hgt, if_true]
    rw [req_pos (by omega)]
    simp only [Int.toNat_natCast, Nat.zero_add, Nat.mul_one, tab_get (show m + 1 < 9 by omega), Option.bind_some]
    rw [hg (m + 1) (by omega) (by omega), w64_in (n := ((m + 1 : Nat) : Int) - 1) (by omega), show ((m + 1 : Nat) : Int) - 1 = (m : Int) by omega]
    by_cases h : posF 0 l ((m + 1 : Nat) : Int) = []
    · have : ¬ fstv l (m + 1) ≥ 0 := fun q => fst_pos.1 q h
      rw [if_neg (by simpa using this), skipN, if_pos h]
    · have : fstv l (m + 1) ≥ 0 := fst_pos.2 h
      rw [if_pos (by simpa using this), skipN, if_neg h]
      exact skip_2 hg b r m f (by omega) (by omega)

/-- What is kept is no completion, or one with something at the first place. -/
def Good (b : Option (List Int)) : Prop := ∀ y, b = some y → atv y 0 ≠ 0
def AllGood (L : List (List Int)) : Prop := ∀ x ∈ L, atv x 0 ≠ 0

theorem loop_2 {rec : Int → Int → Bool → (List Int) → (List Int) → Int → Bool → (List Int) → Option (Bool × Int × Bool × (List Int) × (List Int) × (List Int))} {j : Nat} (hj : ((j + 1 : Nat) : Int) ≤ n)
    (hrec : ∀ (l' : List Int) (g' : Nat → Int) (b' : Option (List Int)), Val n w l' → FT g' l' → Good b' → AllGood (comp w j l') →
      rec j n w (tab 16 (atv l')) (tab 9 g') 0 false (padO b') = some (true, n, w, tab 16 (atv l'), tab 9 g', padO ((comp w j l').foldl bet b')))
    {l : List Int} (v : Val n w l) (h0 : posF 0 l ((j + 1 : Nat) : Int) = []) {g : Nat → Int} (hg : FT g l) :
    ∀ (r p f : Nat) (b : Option (List Int)), r < f → p + r = l.length → Good b → AllGood (compAt w (comp w j) l (j + 1) r p) →
    f78_p6 F rec ((j + 1 : Nat) : Int) ((l.length : Nat) : Int) 0 false f p n w (tab 16 (atv l)) (tab 9 g) (padO b) = some (.c1 n w (tab 16 (atv l)) (tab 9 g) (padO ((compAt w (comp w j) l (j + 1) r p).foldl bet b)))
  | 0, p, f + 1, b, _, hp, _, _ => by
    obtain rfl : p = l.length := by omega
    simp [f78_p6, compAt]
  | r + 1, p, f + 1, b, hf, hp, hb, hA => by
    have hr := v.rng
    have hlen := v.len
    have hlt : (p : Int) < ((l.length : Nat) : Int) := by omega
    simp only [f78_p6, decide_eq_true hlt, if_true]
    rw [f60_g v (k := j + 1) ⟨by omega, hj⟩ (by omega) (hg (j + 1) (by omega) (by omega)), w64_nat (show p < 1000000 by omega)]
    simp only [compAt] at hA
    simp only [Option.bind_some, compAt]
    by_cases h : mayS w l (j + 1) p = 0
    · obtain ⟨_, g2, g3⟩ := may_zero h
      have hk : 1 ≤ j + 1 ∧ ((j + 1 : Nat) : Int) ≤ n := ⟨by omega, hj⟩
      have v' := put_val v hk h0 g2
      rw [if_pos h] at hA
      have hA1 : AllGood (comp w j (set2 l p (p + dN w (j + 1)) ((j + 1 : Nat) : Int))) := fun x hx => hA x (List.mem_append_left _ hx)
      have hA2 : AllGood (compAt w (comp w j) l (j + 1) r (p + 1)) := fun x hx => hA x (List.mem_append_right _ hx)
      rw [if_neg (by simp [h]), f61_putg v hk h0 g3 (hg (j + 1) (by omega) (by omega))]
      simp only [Option.bind_some]
      rw [w64_in (n := ((j + 1 : Nat) : Int) - 1) (by omega), show ((j + 1 : Nat) : Int) - 1 = (j : Int) by omega, hrec _ _ _ v' (put_FT v hk h0 g2 hg) hb hA1]
      simp only [Option.bind_some]
      rw [f61_takeg v' hk (by rw [set2_len]; exact g3) (by simp)]
      simp only [Option.bind_some, if_true]
      rw [put_back v hk h0 g2, take_tab (by omega) h0 hg, if_pos h]
      rw [loop_2 hj hrec v h0 hg r (p + 1) f _ (by omega) (by omega) (bet_good hA1 b hb) hA2]
      rw [List.foldl_append]
    · rw [if_neg h] at hA
      rw [if_pos (by simpa using h), if_neg h]
      rw [loop_2 hj hrec v h0 hg r (p + 1) f b (by omega) (by omega) hb (by simpa using hA)]
      simp

theorem f78_eq (hF : 100 ≤ F) : ∀ (f m : Nat) (l : List Int) (g : Nat → Int) (b : Option (List Int)), m < f → (m : Int) ≤ n → Val n w l → FT g l → Good b → AllGood (comp w m l) →
    f78 F f m n w (tab 16 (atv l)) (tab 9 g) 0 false (padO b) = some (true, n, w, tab 16 (atv l), tab 9 g, padO ((comp w m l).foldl bet b))
  | f + 1, m, l, g, b, hf, hm, v, hg, hb, hA => by
    have hr := v.rng
    have hlen := v.len
    have hsl := skip_le l m
    unfold f78 f78_b
    rw [skip_2 hg _ _ m F (by omega) (by omega)]
    rw [comp_skip] at hA ⊢
    simp only [Option.bind_some]
    by_cases h : skipN l m = 0
    · rw [h] at hA
      rw [if_pos (by simp [h]), h, bet_eq hF hb]
      simp only [Option.bind_some, comp, List.foldl]
    · obtain ⟨j, hj⟩ := Nat.exists_eq_succ_of_ne_zero h
      have h0 := skip_pos l m j hj
      rw [hj] at hA
      have ec : comp w j.succ l = compAt w (comp w j) l (j + 1) l.length 0 := by rw [show j.succ = j + 1 from rfl, comp, if_neg (fun q => q h0)]
      rw [ec] at hA
      rw [if_neg (by simp; omega), hj]
      simp only [f59, Option.bind_some]
      rw [w64_in (n := 2 * n) (by omega), ← hlen]
      have := loop_2 (F := F) (n := n) (w := w) (rec := f78 F f) (j := j) (by omega) (fun l' g' b' v' hg' hb' hA' => f78_eq hF f j l' g' b' (by omega) (by omega) v' hg' hb' hA') v h0 hg l.length 0 F b (by omega) (by omega) hb hA
      simp only [Int.natCast_zero] at this
      rw [show ((j.succ : Nat) : Int) = ((j + 1 : Nat) : Int) from rfl, this]
      simp only [Option.bind_some]
      rw [ec]
end best

theorem f62_g {F : Nat} {n : Int} {w : Bool} {l r : List Int} {c : List Int} (hn : 1 ≤ n ∧ n ≤ 8) (hl : (l.length : Int) = 2 * n) : f62 F (tab 16 (atv l)) n w r c = some (n, w, l) := by
  rw [← f62_eq (F := F) (w := w) (c := c) hn hl]
  unfold f62 f59; rfl

/-- The first completion. -/
theorem f33_eq {n : Int} {w : Bool} {l : List Int} (v : Val n w l) (hA : AllGood (comp w n.toNat l)) (hL : ∀ x ∈ comp w n.toNat l, x.length = l.length) :
    f33 100 n w l = some (match (comp w n.toNat l).foldl bet none with | none => (0, false, [], 12) | some x => (n, w, x, 0)) := by
  have hr := v.rng
  have hlen := v.len
  unfold f33
  rw [f57_eq (by omega) (by omega), if_pos (code_zero.2 v)]
  simp only [Option.bind_some, bne_self_eq_false, f72_1, Bool.false_eq_true, if_false]
  have := f78_eq (F := 100) (n := n) (w := w) (by omega) 100 n.toNat l (fstv l) none (by omega) (by omega) v (fun _ _ _ => rfl) (fun y h => by cases h) hA
  rw [show ((n.toNat : Nat) : Int) = n by omega] at this
  rw [show List.replicate 16 (0 : Int) = padO none from rfl, this]
  simp only [Option.bind_some]
  have hg := bet_good hA none (fun y h => by cases h)
  cases hb : (comp w n.toNat l).foldl bet none with
  | none => simp [padO, eqL]
  | some x =>
    have hx : x ∈ comp w n.toNat l := by
      have key : ∀ (L : List (List Int)) (b : Option (List Int)), L.foldl bet b = some x → x ∈ L ∨ b = some x := by
        intro L
        induction L with
        | nil => intro b h; exact .inr h
        | cons y L ih =>
          intro b h
          rcases ih (bet b y) h with h | h
          · exact .inl (List.mem_cons_of_mem _ h)
          · unfold bet at h
            cases b with
            | none => cases h; exact .inl (List.mem_cons_self ..)
            | some u =>
              simp only at h
              split at h
              · cases h; exact .inl (List.mem_cons_self ..)
              · exact .inr h
      rcases key _ none hb with h | h
      · exact h
      · cases h
    have hne : ¬ eqL (padO (some x)) [0, 0, 0, 0, 0, 0, 0, 0, 0, 0, 0, 0, 0, 0, 0, 0] = true := by
      simp only [eqL, beq_iff_eq, padO]
      intro e
      have : (tab 16 (atv x))[0]? = some 0 := by rw [e]; rfl
      rw [tab_get (by omega)] at this
      exact hg x hb (Option.some.inj this)
    rw [if_neg hne]
    simp only [padO]
    rw [f62_g hr (by rw [hL x hx]; exact hlen)]
    rfl

end Go.Gh.Fan
