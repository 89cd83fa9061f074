/- Fans: kinds are put in and taken out; the program and the reference do the same. -/
import Derived.Test.YtidfbhlhogkfmaaFanU
namespace Go.Gh.Fan
set_option linter.unusedVariables false
set_option linter.unusedSimpArgs false

def dN (w : Bool) (k : Nat) : Nat := if w then k + 1 else k
theorem dist_nat (w : Bool) (k : Nat) : dist w (k : Int) = ((dN w k : Nat) : Int) := by
  unfold dist dN; cases w <;> simp

theorem at_atv {l : List Int} {p : Nat} (h : p < l.length) : at? l ((p : Nat) : Int) = some (atv l p) := by
  apply at_of
  rw [atv, List.getElem?_eq_getElem h]; rfl

theorem atv_mem {l : List Int} {p : Nat} (h : p < l.length) : atv l p ∈ l := by
  rw [atv, List.getElem?_eq_getElem h]; simp

/-- Both places of a kind are there, and empty. -/
def fitB (w : Bool) (l : List Int) (k p : Nat) : Bool := decide (p + dN w k < l.length) && (atv l p == 0 && atv l (p + dN w k) == 0)

/-- What is wrong with a kind at a place. -/
def mayS (w : Bool) (l : List Int) (k p : Nat) : Int :=
  if posF 0 l k ≠ [] then 6 else if l.length ≤ p + dN w k then 15 else if fitB w l k p = true then 0 else 16

theorem fst_pos {l : List Int} {k : Nat} : 0 ≤ fstv l k ↔ posF 0 l k ≠ [] := by
  unfold fstv
  cases h : posF 0 l k with
  | nil => simp
  | cons y ys =>
    have := posF_mem (l := l) (i := 0) (j := y) (k := k) (by rw [h]; simp)
    simp only [List.headD_cons]
    constructor
    · intro _ e; cases e
    · intro _; omega

theorem f60_eq {F : Nat} {n : Int} {w : Bool} {l : List Int} (v : Val n w l) {k p : Nat} (hk : 1 ≤ k ∧ (k : Int) ≤ n) (hp : p < l.length) :
    f60 F k p n w (tab 16 (atv l)) (tab 9 (fstv l)) = some (mayS w l k p) := by
  have hr := v.rng
  have hl := v.len
  have hd : dN w k ≤ k + 1 := by unfold dN; split <;> omega
  unfold f60 mayS
  rw [f77_eq (by omega), Option.bind_some, dist_nat, req_pos (by omega)]
  simp only [Option.bind_some, Int.toNat_natCast, Nat.zero_add, Nat.mul_one, tab_get (show k < 9 by omega), f59]
  by_cases h1 : posF 0 l k ≠ []
  · have := fst_pos.2 h1
    simp [h1, this]
  · have : ¬ 0 ≤ fstv l k := fun g => h1 (fst_pos.1 g)
    rw [w64_in (n := 2 * n) (by omega), w64_in (n := (p : Int) + (dN w k : Nat)) (by omega)]
    by_cases h2 : l.length ≤ p + dN w k
    · have h2' : (p : Int) + (dN w k : Nat) ≥ 2 * n := by omega
      simp [h1, this, h2, h2']
    · have h2' : ¬ (p : Int) + (dN w k : Nat) ≥ 2 * n := by omega
      have h3 : p + dN w k < l.length := by omega
      have b1 := v.inr _ (atv_mem hp)
      have b2 := v.inr _ (atv_mem h3)
      rw [req_pos (p := (0 : Int) ≤ p ∧ _) (by omega), req_pos (p := (0 : Int) ≤ (p : Int) + (dN w k : Nat) ∧ _) (by omega)]
      have e : Int.toNat ((p : Int) + (dN w k : Nat)) = p + dN w k := by omega
      simp only [e, tab_get (show p < 16 by omega), tab_get (show p + dN w k < 16 by omega), Option.bind_some, fitB]
      by_cases g1 : atv l p = 0
      · by_cases g2 : atv l (p + dN w k) = 0
        · simp [h1, this, h2, h2', h3, g1, g2]
        · have : atv l (p + dN w k) > 0 := by omega
          simp [*]
      · have : atv l p > 0 := by omega
        simp [*]

theorem row_set {l : List Int} {p : Nat} {x : Int} (h : p < l.length) : (tab 16 (atv l)).set p x = tab 16 (atv (l.set p x)) := by
  rw [tab_set]
  apply tab_congr
  intro i _
  unfold atv
  rw [List.getElem?_set]
  by_cases e : i = p
  · subst e; simp [h]
  · have : ¬ p = i := fun g => e g.symm
    simp [e, this]

/-- A kind, or nothing, stands at two places. -/
def set2 (l : List Int) (a b : Nat) (x : Int) : List Int := (l.set a x).set b x
theorem set2_len (l : List Int) (a b : Nat) (x : Int) : (set2 l a b x).length = l.length := by simp [set2]

theorem f62_eq {F : Nat} {n : Int} {w : Bool} {l : List Int} {c : List Int} (hn : 1 ≤ n ∧ n ≤ 8) (hl : (l.length : Int) = 2 * n) : f62 F (tab 16 (atv l)) n w (tab 16 (atv l)) c = some (n, w, l) := by
  unfold f62 f59
  rw [w64_in (n := 2 * n) (by omega)]
  simp only [Option.bind_some]
  rw [← hl, Int.toNat_natCast, Nat.zero_add, row_take' (by omega), req_pos (by omega)]
  simp only [List.drop_zero, f44]
  rw [req_pos (by intro e; rw [e] at hl; simp at hl; omega), req_pos (by simp; omega)]
  simp only [Option.bind_some, List.nil_append]
  rw [req_pos (by rw [tab_len]; omega)]
  simp
where
  row_take' {l : List Int} (h : l.length ≤ 16) : List.take l.length (tab 16 (atv l)) = l := by
    apply List.ext_getElem?
    intro i
    rw [List.getElem?_take]
    split
    · rw [tab_get (by omega), atv, List.getElem?_eq_getElem (by omega)]; rfl
    · rw [List.getElem?_eq_none (by omega)]

theorem f61_put {F : Nat} {n : Int} {w : Bool} {l : List Int} (v : Val n w l) {k p : Nat} (hk : 1 ≤ k ∧ (k : Int) ≤ n) (h0 : posF 0 l k = []) (hp : p + dN w k < l.length) :
    f61 F k p n w (tab 16 (atv l)) (tab 9 (fstv l)) = some (n, w, tab 16 (atv (set2 l p (p + dN w k) k)), tab 9 (fun i => if i = k then (p : Int) else fstv l i)) := by
  have hr := v.rng
  have hl := v.len
  have hd : dN w k ≤ k + 1 := by unfold dN; split <;> omega
  have hf : fstv l k < 0 := by
    have : ¬ 0 ≤ fstv l k := fun g => fst_pos.1 g h0
    omega
  unfold f61
  rw [f77_eq (by omega), Option.bind_some, dist_nat, req_pos (by omega)]
  simp only [Option.bind_some, Int.toNat_natCast, Nat.zero_add, Nat.mul_one, tab_get (show k < 9 by omega)]
  rw [w64_in (n := (p : Int) + (dN w k : Nat)) (by omega), show Int.toNat ((p : Int) + (dN w k : Nat)) = p + dN w k by omega]
  rw [if_pos (by simpa using hf), req_pos (by omega), req_pos (by omega), req_pos (by omega), req_pos (by omega), req_pos (by omega)]
  rw [row_set (by omega), row_set (by simpa using hp), tab_set]; rfl

theorem f61_take {F : Nat} {n : Int} {w : Bool} {l : List Int} (v : Val n w l) {k p : Nat} (hk : 1 ≤ k ∧ (k : Int) ≤ n) (h0 : posF 0 l k ≠ []) (hp : p + dN w k < l.length) :
    f61 F k p n w (tab 16 (atv l)) (tab 9 (fstv l)) = some (n, w, tab 16 (atv (set2 l p (p + dN w k) 0)), tab 9 (fun i => if i = k then -1 else fstv l i)) := by
  have hr := v.rng
  have hl := v.len
  have hd : dN w k ≤ k + 1 := by unfold dN; split <;> omega
  have hf : ¬ fstv l k < 0 := by have := fst_pos.2 h0; omega
  unfold f61
  rw [f77_eq (by omega), Option.bind_some, dist_nat, req_pos (by omega)]
  simp only [Option.bind_some, Int.toNat_natCast, Nat.zero_add, Nat.mul_one, tab_get (show k < 9 by omega)]
  rw [w64_in (n := (p : Int) + (dN w k : Nat)) (by omega), show Int.toNat ((p : Int) + (dN w k : Nat)) = p + dN w k by omega]
  rw [if_neg (by simpa using hf), req_pos (by omega), req_pos (by omega), req_pos (by omega), req_pos (by omega), req_pos (by omega)]
  rw [row_set (by omega), row_set (by simpa using hp), tab_set]; rfl

abbrev R4 := Int × Bool × List Int × Int

def putS (n : Int) (w : Bool) (l : List Int) (k p : Int) : R4 :=
  if code n w l = 0 then
    if 1 ≤ k ∧ k ≤ n then
      if 0 ≤ p ∧ p ≤ (l.length : Int) - 1 then
        if mayS w l k.toNat p.toNat = 0 then (n, w, set2 l p.toNat (p.toNat + dN w k.toNat) k, 0) else (0, false, [], mayS w l k.toNat p.toNat)
      else (0, false, [], 2)
    else (0, false, [], 2)
  else (0, false, [], code n w l)

theorem may_zero {w : Bool} {l : List Int} {k p : Nat} (h : mayS w l k p = 0) : posF 0 l k = [] ∧ fitB w l k p = true ∧ p + dN w k < l.length := by
  unfold mayS at h
  by_cases h1 : posF 0 l k ≠ []
  · simp [h1] at h
  · by_cases h2 : l.length ≤ p + dN w k
    · simp [h1, h2] at h
    · by_cases h3 : fitB w l k p = true
      · exact ⟨by simpa using h1, h3, by omega⟩
      · simp [h1, h2, h3] at h

theorem f15_eq {l : List Int} (hl : l.length ≤ 60) (n : Int) (w : Bool) (k p : Int) : f15 100 n w l k p = some (putS n w l k p) := by
  unfold f15 putS
  rw [f57_eq (by omega) (by omega)]
  by_cases h : code n w l = 0
  · have v := code_zero.1 h
    have hr := v.rng
    have hlen := v.len
    simp only [h, if_true, Option.bind_some, bne_self_eq_false, f58_eq, f59]
    rw [w64_in (n := 2 * n) (by omega), w64_in (n := 2 * n - 1) (by omega), ← hlen]
    by_cases h1 : 1 ≤ k ∧ k ≤ n
    · by_cases h2 : 0 ≤ p ∧ p ≤ (l.length : Int) - 1
      · obtain ⟨a, rfl⟩ := Int.eq_ofNat_of_zero_le (show 0 ≤ k by omega)
        obtain ⟨b, rfl⟩ := Int.eq_ofNat_of_zero_le h2.1
        simp only [h1, h2, and_self, decide_true, if_true, Option.bind_some, Int.toNat_natCast]
        rw [f60_eq v (by omega) (by omega)]
        by_cases h3 : mayS w l a b = 0
        · obtain ⟨g1, _, g3⟩ := may_zero h3
          simp only [Option.bind_some, h3, bne_self_eq_false, if_true]
          rw [f61_put v (by omega) g1 g3]
          simp only [Option.bind_some]
          rw [f62_eq hr (by rw [set2_len]; exact hlen)]
          rfl
        · simp [h3]
      · simp [h1, h2]
    · simp [h1]
  · simp [h]

/-- The places at which a kind can be put, up to one. -/
def frs (w : Bool) (l : List Int) (k : Nat) : Nat → List Int
  | 0 => []
  | i + 1 => frs w l k i ++ (if fitB w l k i = true then [(i : Int)] else [])
theorem frs_len (w : Bool) (l : List Int) (k : Nat) : ∀ i, (frs w l k i).length ≤ i
  | 0 => by simp [frs]
  | i + 1 => by
    have := frs_len w l k i
    simp only [frs, List.length_append]; split <;> simp <;> omega

def freeS (n : Int) (w : Bool) (l : List Int) (k : Int) : List Int × Int :=
  if code n w l = 0 then
    if 1 ≤ k ∧ k ≤ n then
      if posF 0 l k = [] then (frs w l k.toNat l.length, 0) else ([], 6)
    else ([], 2)
  else ([], code n w l)

theorem f19_p5_eq {F : Nat} {n : Int} {w : Bool} {l : List Int} (v : Val n w l) {k : Nat} (hk : 1 ≤ k ∧ (k : Int) ≤ n) (h0 : posF 0 l k = []) : ∀ (m i f : Nat), m < f → i + m = l.length →
    f19_p5 F k ((l.length : Nat) : Int) n w (tab 16 (atv l)) (tab 9 (fstv l)) f i (frs w l k i) = some (frs w l k l.length)
  | 0, i, f + 1, _, hi => by
    obtain rfl : i = l.length := by omega
    simp [f19_p5]
  | m + 1, i, f + 1, hf, hi => by
    have hr := v.rng
    have hl := v.len
    have hlt : (i : Int) < ((l.length : Nat) : Int) := by omega
    have ih := f19_p5_eq (F := F) v hk h0 m (i + 1) f (by omega) (by omega)
    have hfl := frs_len w l k i
    simp only [f19_p5, decide_eq_true hlt, if_true]
    rw [f60_eq v hk (by omega)]
    simp only [Option.bind_some, f19_p8_1]
    rw [w64_nat (by omega)]
    have e : (mayS w l k i = 0) ↔ fitB w l k i = true := by
      constructor
      · intro h; exact (may_zero h).2.1
      · intro h
        have : i + dN w k < l.length := by simp [fitB] at h; exact h.1
        simp [mayS, h0, h, show ¬ l.length ≤ i + dN w k by omega]
    by_cases h : fitB w l k i = true
    · rw [if_pos (by simpa using e.2 h), req_pos (by simp; omega)]
      simp only [Option.bind_some]
      rw [show frs w l k i ++ [(i : Int)] = frs w l k (i + 1) by simp [frs, h], ih]
    · rw [if_neg (by simpa using fun g => h (e.1 g))]
      simp only [Option.bind_some]
      rw [show frs w l k i = frs w l k (i + 1) by simp [frs, h], ih]

theorem f19_eq {l : List Int} (hl : l.length ≤ 60) (n : Int) (w : Bool) (k : Int) : f19 100 n w l k = some (freeS n w l k) := by
  unfold f19 freeS
  rw [f57_eq (by omega) (by omega)]
  by_cases h : code n w l = 0
  · have v := code_zero.1 h
    have hr := v.rng
    have hlen := v.len
    simp only [h, if_true, Option.bind_some, bne_self_eq_false, f58_eq, f59]
    rw [w64_in (n := 2 * n) (by omega), ← hlen]
    by_cases h1 : 1 ≤ k ∧ k ≤ n
    · obtain ⟨a, rfl⟩ := Int.eq_ofNat_of_zero_le (show 0 ≤ k by omega)
      simp only [h1, and_self, decide_true, if_true, Option.bind_some, Int.toNat_natCast, Bool.false_eq_true, if_false]
      rw [req_pos (by omega)]
      simp only [Nat.zero_add, Nat.mul_one, tab_get (show a < 9 by omega), Option.bind_some]
      by_cases h0 : posF 0 l (a : Int) = []
      · have hf : ¬ fstv l a ≥ 0 := fun g => fst_pos.1 g h0
        rw [if_neg (by simpa using hf)]
        have := f19_p5_eq (F := 100) v (k := a) (by omega) h0 l.length 0 100 (by omega) (by omega)
        simp only [Int.natCast_zero, frs] at this
        rw [this]
        simp [h0]
      · have hf : fstv l a ≥ 0 := fst_pos.2 h0
        rw [if_pos (by simpa using hf)]
        simp [h0]
    · simp [h1]
  · simp [h]

def takeS (n : Int) (w : Bool) (l : List Int) (k : Int) : R4 :=
  if code n w l = 0 then
    if 1 ≤ k ∧ k ≤ n then
      if posF 0 l k = [] then (0, false, [], 12) else (n, w, set2 l ((posF 0 l k).headD 0).toNat (((posF 0 l k).headD 0).toNat + dN w k.toNat) 0, 0)
    else (0, false, [], 2)
  else (0, false, [], code n w l)

/-- Both places of a kind. -/
theorem Val.both {n : Int} {w : Bool} {l : List Int} (v : Val n w l) {k : Nat} (hk : 1 ≤ k ∧ (k : Int) ≤ n) (h : posF 0 l k ≠ []) :
    ∃ a : Nat, posF 0 l k = [(a : Int), ((a + dN w k : Nat) : Int)] ∧ a + dN w k < l.length ∧ fstv l k = (a : Int) := by
  rcases v.two (k := (k : Int)) (by omega) hk.2 with e | ⟨a, e⟩
  · exact absurd e h
  · have h1 := posF_mem (l := l) (i := 0) (j := a) (k := k) (by rw [e]; simp)
    have h2 := posF_mem (l := l) (i := 0) (j := a + dist w k) (k := k) (by rw [e]; simp)
    obtain ⟨a, rfl⟩ := Int.eq_ofNat_of_zero_le h1.1
    rw [dist_nat] at e h2
    refine ⟨a, by rw [e]; rfl, by omega, by rw [fstv, e]; rfl⟩

theorem f68_eq {l : List Int} (hl : l.length ≤ 60) (n : Int) (w : Bool) (k : Int) : f68 100 n w l k = some (if code n w l = 0 then if 1 ≤ k ∧ k ≤ n then if posF 0 l k = [] then .c0 12 else .c1 0 n w (tab 16 (atv l)) (tab 9 (fstv l)) else .c0 2 else .c0 (code n w l)) := by
  unfold f68
  rw [f57_eq (by omega) (by omega)]
  by_cases h : code n w l = 0
  · have v := code_zero.1 h
    have hr := v.rng
    simp only [h, if_true, Option.bind_some, bne_self_eq_false, f58_eq]
    by_cases h1 : 1 ≤ k ∧ k ≤ n
    · obtain ⟨a, rfl⟩ := Int.eq_ofNat_of_zero_le (show 0 ≤ k by omega)
      simp only [h1, and_self, decide_true, if_true, Option.bind_some, Int.toNat_natCast, Bool.false_eq_true, if_false]
      rw [req_pos (by omega)]
      simp only [Nat.zero_add, Nat.mul_one, tab_get (show a < 9 by omega), Option.bind_some]
      by_cases h0 : posF 0 l (a : Int) = []
      · have hf : fstv l a < 0 := by
          have : ¬ 0 ≤ fstv l a := fun g => fst_pos.1 g h0
          omega
        simp [h0, hf]
      · have hf : ¬ fstv l a < 0 := by have := fst_pos.2 h0; omega
        simp [h0, hf]
    · simp [h1]
  · simp [h]

theorem f17_eq {l : List Int} (hl : l.length ≤ 60) (n : Int) (w : Bool) (k : Int) : f17 100 n w l k = some (takeS n w l k) := by
  unfold f17 takeS
  rw [f68_eq hl]
  by_cases h : code n w l = 0
  · have v := code_zero.1 h
    have hr := v.rng
    have hlen := v.len
    by_cases h1 : 1 ≤ k ∧ k ≤ n
    · obtain ⟨a, rfl⟩ := Int.eq_ofNat_of_zero_le (show 0 ≤ k by omega)
      by_cases h0 : posF 0 l (a : Int) = []
      · simp [h, h1, h0]
      · obtain ⟨b, e1, e2, e3⟩ := v.both (by omega) h0
        simp only [h, h1, h0, and_self, if_true, if_false, Option.bind_some, bne_self_eq_false, Int.toNat_natCast, Bool.false_eq_true]
        rw [req_pos (by omega)]
        simp only [Nat.zero_add, Nat.mul_one, tab_get (show a < 9 by omega), Option.bind_some, e3]
        rw [f61_take v (by omega) h0 e2]
        simp only [Option.bind_some]
        rw [f62_eq hr (by rw [set2_len]; exact hlen), e1]
        simp
    · simp [h, h1]
  · simp [h]

end Go.Gh.Fan
