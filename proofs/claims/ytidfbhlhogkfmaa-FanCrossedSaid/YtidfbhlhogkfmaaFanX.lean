/- Fans: the other place of a kind, what is between, and what crosses. -/
import Derived.Test.YtidfbhlhogkfmaaFanV
namespace Go.Gh.Fan
set_option linter.unusedVariables false
set_option linter.unusedSimpArgs false

/-- What stands at a place has this place. -/
theorem pos_here {l : List Int} {p : Nat} (h : p < l.length) : (p : Int) ∈ posF 0 l (atv l p) := by
  have : l[p]? = some (atv l p) := by rw [atv, List.getElem?_eq_getElem h]; rfl
  simpa using posF_of (i := 0) this

def partS (n : Int) (w : Bool) (l : List Int) (p : Int) : Int × Int :=
  if code n w l = 0 then
    if 0 ≤ p ∧ p ≤ (l.length : Int) - 1 then
      if atv l p.toNat = 0 then (0, 4) else ((posF 0 l (atv l p.toNat)).headD 0 + ((posF 0 l (atv l p.toNat)).headD 0 + dist w (atv l p.toNat)) - p, 0)
    else (0, 2)
  else (0, code n w l)

theorem f23_eq {l : List Int} (hl : l.length ≤ 60) (n : Int) (w : Bool) (p : Int) : f23 100 n w l p = some (partS n w l p) := by
  unfold f23 partS
  rw [f57_eq (by omega) (by omega)]
  by_cases h : code n w l = 0
  · have v := code_zero.1 h
    have hr := v.rng
    have hlen := v.len
    simp only [h, if_true, Option.bind_some, bne_self_eq_false, f58_eq, f59]
    rw [w64_in (n := 2 * n) (by omega), w64_in (n := 2 * n - 1) (by omega), ← hlen]
    by_cases h1 : 0 ≤ p ∧ p ≤ (l.length : Int) - 1
    · obtain ⟨b, rfl⟩ := Int.eq_ofNat_of_zero_le h1.1
      simp only [h1, true_and, and_self, decide_true, if_true, Option.bind_some, Int.toNat_natCast, Bool.false_eq_true, if_false]
      rw [req_pos (by omega)]
      simp only [Nat.zero_add, Nat.mul_one, tab_get (show b < 16 by omega), Option.bind_some]
      by_cases h2 : atv l b = 0
      · simp [h2]
      · have hb := v.inr _ (atv_mem (l := l) (p := b) (by omega))
        obtain ⟨a, ha⟩ := Int.eq_ofNat_of_zero_le hb.1
        have hne : posF 0 l (a : Int) ≠ [] := by
          have := pos_here (l := l) (p := b) (by omega)
          rw [ha] at this
          intro e; rw [e] at this; cases this
        rw [ha] at hb h2 ⊢
        obtain ⟨c, e1, e2, e3⟩ := v.both (k := a) (by omega) hne
        rw [if_neg (by simpa using h2), if_neg h2, req_pos (by omega)]
        simp only [Int.toNat_natCast, tab_get (show a < 9 by omega), Option.bind_some]
        rw [f70_eq (by omega) (by omega), e3, e1, dist_nat]
        simp only [Option.bind_some, List.headD_cons]
        rw [w64_in (n := (c : Int) + ((c : Int) + (dN w a : Nat))) (by omega), w64_in (by omega)]
    · simp [h1]
  · simp [h]

/-- What stands between both places of a kind. -/
def btwL (w : Bool) (l : List Int) (k : Nat) : List Int := (l.drop (((posF 0 l k).headD 0).toNat + 1)).take (dN w k - 1)

def betwS (n : Int) (w : Bool) (l : List Int) (k : Int) : List Int × Int :=
  if code n w l = 0 then
    if 1 ≤ k ∧ k ≤ n then
      if posF 0 l k = [] then ([], 12) else (btwL w l k.toNat, 0)
    else ([], 2)
  else ([], code n w l)

theorem row_slice {l : List Int} {a m : Nat} (h : a + m ≤ l.length) (h16 : l.length ≤ 16) : List.drop a (List.take (a + m) (tab 16 (atv l))) = (l.drop a).take m := by
  apply List.ext_getElem?
  intro i
  rw [List.getElem?_drop, List.getElem?_take, List.getElem?_take, List.getElem?_drop]
  by_cases g : i < m
  · rw [if_pos (by omega), if_pos g, tab_get (by omega), atv, List.getElem?_eq_getElem (by omega)]; rfl
  · rw [if_neg (by omega), if_neg g]

theorem dN_pos {w : Bool} {k : Nat} (h : 1 ≤ k) : 1 ≤ dN w k ∧ dN w k ≤ k + 1 := by unfold dN; split <;> omega

theorem f25_eq {l : List Int} (hl : l.length ≤ 60) (n : Int) (w : Bool) (k : Int) : f25 100 n w l k = some (betwS n w l k) := by
  unfold f25 betwS
  rw [f68_eq hl]
  by_cases h : code n w l = 0
  · have v := code_zero.1 h
    have hr := v.rng
    have hlen := v.len
    by_cases h1 : 1 ≤ k ∧ k ≤ n
    · obtain ⟨a, rfl⟩ := Int.eq_ofNat_of_zero_le (show 0 ≤ k by omega)
      by_cases h0 : posF 0 l (a : Int) = []
      · simp [h, h1, h0]
      · obtain ⟨b, e1, e2, e3⟩ := v.both (by omega) h0
        have hd := dN_pos (w := w) (k := a) (by omega)
        simp only [h, h1, h0, and_self, if_true, if_false, Option.bind_some, bne_self_eq_false, Int.toNat_natCast, Bool.false_eq_true]
        rw [req_pos (by omega)]
        simp only [Nat.zero_add, Nat.mul_one, tab_get (show a < 9 by omega), Option.bind_some, e3]
        rw [f70_eq (by omega) (by omega), e3, dist_nat, w64_nat (by omega)]
        simp only [Option.bind_some]
        rw [req_pos (by omega)]
        have g1 : Int.toNat ((b : Int) + (dN w a : Nat)) = b + dN w a := by omega
        simp only [g1, Int.toNat_natCast, f44_1]
        rw [req_pos (by rw [tab_len]; omega), row_slice (by omega) (by omega), req_pos (by simp; omega)]
        simp only [List.nil_append, Option.bind_some]
        unfold btwL
        rw [e1]
        simp only [List.headD_cons, Int.toNat_natCast, Nat.zero_add, List.take_length, List.drop_zero]
        rw [show b + dN w a - (b + 1) = dN w a - 1 by omega]
    · simp [h, h1]
  · simp [h]

/-- Another kind crosses one: just one of its places is between. -/
def crossB (w : Bool) (l : List Int) (k j : Nat) : Bool := decide ((posF 0 (btwL w l k) j).length = 1)

def crs (w : Bool) (l : List Int) (k : Nat) : Nat → Nat → List Int
  | 0, _ => []
  | m + 1, j => (if crossB w l k j = true then [(j : Int)] else []) ++ crs w l k m (j + 1)
theorem crs_len (w : Bool) (l : List Int) (k : Nat) : ∀ m j, (crs w l k m j).length ≤ m
  | 0, _ => by simp [crs]
  | m + 1, j => by
    have := crs_len w l k m (j + 1)
    simp only [crs, List.length_append]; split <;> simp <;> omega

def crossS (n : Int) (w : Bool) (l : List Int) (k : Int) : List Int × Int :=
  if code n w l = 0 then
    if 1 ≤ k ∧ k ≤ n then
      if posF 0 l k = [] then ([], 12) else (crs w l k.toNat n.toNat 1, 0)
    else ([], 2)
  else ([], code n w l)

/-- The places in a part of a list. -/
theorem pos_part {l : List Int} {k : Int} {i m : Nat} {x : Int} : x ∈ posF 0 ((l.drop i).take m) k ↔ ((i : Int) + x ∈ posF 0 l k ∧ 0 ≤ x ∧ x < m) := by
  constructor
  · intro h
    obtain ⟨h1, h2, h3⟩ := posF_mem h
    have hx : x.toNat < m := by simp at h2; omega
    rw [List.getElem?_take, if_pos (by omega), List.getElem?_drop] at h3
    have := posF_of (i := 0) h3
    exact ⟨by rwa [show (0 : Int) + ((i + (x - 0).toNat : Nat) : Int) = i + x by omega] at this, h1, by omega⟩
  · rintro ⟨h1, h2, h3⟩
    obtain ⟨_, _, h6⟩ := posF_mem h1
    have : ((l.drop i).take m)[x.toNat]? = some k := by
      rw [List.getElem?_take, if_pos (by omega), List.getElem?_drop, ← h6]
      congr 1; omega
    simpa [show ((x.toNat : Nat) : Int) = x by omega] using posF_of (i := 0) this

theorem posF_sorted (k : Int) : ∀ (l : List Int) (i : Int), (posF i l k).Pairwise (· < ·)
  | [], _ => by simp [posF]
  | x :: l, i => by
    have ih := posF_sorted k l (i + 1)
    simp only [posF]
    split
    · refine List.pairwise_cons.2 ⟨fun y hy => ?_, ih⟩
      have := posF_mem hy
      omega
    · exact ih

theorem len_one_iff {ps : List Int} (hs : ps.Pairwise (· < ·)) : ps.length = 1 ↔ ∃ x, x ∈ ps ∧ ∀ y, y ∈ ps → y = x := by
  constructor
  · intro h
    match ps, h with
    | [x], _ => exact ⟨x, by simp, by simp⟩
  · rintro ⟨x, h1, h2⟩
    match ps with
    | [] => cases h1
    | [a] => rfl
    | a :: b :: r =>
      have e1 := h2 a (by simp)
      have e2 := h2 b (by simp)
      have := (List.pairwise_cons.1 hs).1 b (by simp)
      omega

/-- A kind crosses another one just if one of its places, and not the other, is between those. -/
theorem cross_iff {n : Int} {w : Bool} {l : List Int} (v : Val n w l) {k j : Nat} (hk : 1 ≤ k ∧ (k : Int) ≤ n) (hj : 1 ≤ j ∧ (j : Int) ≤ n) {a : Nat} (ha : posF 0 l k = [(a : Int), ((a + dN w k : Nat) : Int)]) :
    crossB w l k j = true ↔ ∃ c : Nat, posF 0 l j = [(c : Int), ((c + dN w j : Nat) : Int)] ∧ ((a < c ∧ c < a + dN w k) ↔ ¬ (a < c + dN w j ∧ c + dN w j < a + dN w k)) := by
  have hd := dN_pos (w := w) hk.1
  have hdj := dN_pos (w := w) hj.1
  have hm : ∀ x : Int, x ∈ posF 0 (btwL w l k) j ↔ ((a : Int) + 1 + x ∈ posF 0 l j ∧ 0 ≤ x ∧ x < ((dN w k - 1 : Nat) : Int)) := fun x => by
    unfold btwL
    rw [ha, pos_part]
    simp only [List.headD_cons, Int.toNat_natCast, Int.natCast_add, Int.natCast_one]
  simp only [crossB, decide_eq_true_eq]
  rw [len_one_iff (posF_sorted _ _ _)]
  by_cases h0 : posF 0 l (j : Int) = []
  · constructor
    · rintro ⟨x, h1, _⟩
      have := (hm x).1 h1
      rw [h0] at this
      cases this.1
    · rintro ⟨c, h1, _⟩
      rw [h0] at h1; cases h1
  · obtain ⟨c, e1, e2, _⟩ := v.both hj h0
    rw [e1] at hm ⊢
    simp only [List.mem_cons, List.not_mem_nil, or_false] at hm
    constructor
    · rintro ⟨x, h1, h2⟩
      refine ⟨c, rfl, ?_⟩
      have h3 := (hm x).1 h1
      have h4 := fun y hy => h2 y ((hm y).2 hy)
      constructor
      · rintro ⟨g1, g2⟩ ⟨g3, g4⟩
        have u1 := h4 ((c : Int) - a - 1) ⟨by left; omega, by omega, by omega⟩
        have u2 := h4 ((c : Int) + dN w j - a - 1) ⟨by right; omega, by omega, by omega⟩
        omega
      · intro g
        rcases h3.1 with e | e
        · omega
        · exact absurd (by omega) g
    · rintro ⟨c', h1, h2⟩
      obtain rfl : c' = c := by simp at h1; omega
      by_cases g : a < c' ∧ c' < a + dN w k
      · have g' := h2.1 g
        refine ⟨(c' : Int) - a - 1, (hm _).2 ⟨by left; omega, by omega, by omega⟩, fun y hy => ?_⟩
        obtain ⟨q1, q2, q3⟩ := (hm y).1 hy
        rcases q1 with e | e
        · omega
        · exact absurd (by omega) g'
      · have g' : a < c' + dN w j ∧ c' + dN w j < a + dN w k := by
          apply Classical.byContradiction
          intro q; exact g (h2.2 q)
        refine ⟨(c' : Int) + dN w j - a - 1, (hm _).2 ⟨by right; omega, by omega, by omega⟩, fun y hy => ?_⟩
        obtain ⟨q1, q2, q3⟩ := (hm y).1 hy
        rcases q1 with e | e
        · exact absurd (by omega) g
        · omega

/-- Two kinds have no place in common. -/
theorem pos_apart {l : List Int} {k j x : Int} (h1 : x ∈ posF 0 l k) (h2 : x ∈ posF 0 l j) : k = j := by
  have := (posF_mem h1).2.2
  rw [(posF_mem h2).2.2] at this
  simpa using this.symm

theorem f27_p2_eq {F : Nat} {n : Int} {w : Bool} {l : List Int} (v : Val n w l) {k a : Nat} (hk : 1 ≤ k ∧ (k : Int) ≤ n) (ha : posF 0 l k = [(a : Int), ((a + dN w k : Nat) : Int)]) :
    ∀ (m j f : Nat) (out : List Int), m < f → 1 ≤ j → (j : Int) + m = n + 1 → out.length + m ≤ 100 →
    f27_p2 F k a ((a : Int) + (dN w k : Nat)) n w (tab 16 (atv l)) (tab 9 (fstv l)) f j out = some (out ++ crs w l k m j)
  | 0, j, f + 1, out, _, _, hj, _ => by
    have : ¬ (j : Int) ≤ n := by omega
    simp [f27_p2, this, crs]
  | m + 1, j, f + 1, out, hf, h1, hj, ho => by
    have hlt : (j : Int) ≤ n := by omega
    have hr := v.rng
    have hlen := v.len
    have hd := dN_pos (w := w) hk.1
    have hdj := dN_pos (w := w) h1
    simp only [f27_p2, decide_eq_true hlt, if_true]
    rw [req_pos (by omega)]
    simp only [Int.toNat_natCast, Nat.zero_add, Nat.mul_one, tab_get (show j < 9 by omega), Option.bind_some, crs]
    rw [w64_nat (by omega)]
    by_cases h0 : posF 0 l (j : Int) = []
    · have hf0 : fstv l j < 0 := by
        have : ¬ 0 ≤ fstv l j := fun g => fst_pos.1 g h0
        omega
      have hc : ¬ crossB w l k j = true := by
        rw [cross_iff v hk ⟨h1, hlt⟩ ha]
        rintro ⟨c, e, _⟩
        rw [h0] at e; cases e
      rw [if_pos (by simpa using hf0), f27_p2_eq v hk ha m (j + 1) f out (by omega) (by omega) (by omega) (by omega)]
      simp [hc]
    · obtain ⟨c, e1, e2, e3⟩ := v.both ⟨h1, hlt⟩ h0
      have hf0 : ¬ fstv l j < 0 := by omega
      rw [if_neg (by simpa using hf0)]
      by_cases hjk : j = k
      · subst hjk
        have hc : ¬ crossB w l j j = true := by
          rw [cross_iff v hk ⟨h1, hlt⟩ ha]
          rintro ⟨c', e, h2⟩
          rw [ha] at e
          obtain rfl : a = c' := by simp at e; omega
          omega
        rw [if_pos (by simp), f27_p2_eq v hk ha m (j + 1) f out (by omega) (by omega) (by omega) (by omega)]
        simp [hc]
      · have hjk' : ¬ (j : Int) = (k : Int) := by omega
        rw [if_neg (by simpa using hjk'), f70_eq (by omega) (by omega), e3, dist_nat]
        simp only [Option.bind_some, f58_eq, f27_p6_1]
        -- the places of two kinds differ
        have q1 : c ≠ a := fun e => hjk' (pos_apart (x := (c : Int)) (by rw [e1]; simp) (by rw [ha, e]; simp))
        have q2 : c ≠ a + dN w k := fun e => hjk' (pos_apart (x := (c : Int)) (by rw [e1]; simp) (by rw [ha, e]; simp))
        have q3 : c + dN w j ≠ a := fun e => hjk' (pos_apart (x := ((c + dN w j : Nat) : Int)) (by rw [e1]; simp) (by rw [ha, e]; simp))
        have q4 : c + dN w j ≠ a + dN w k := fun e => hjk' (pos_apart (x := ((c + dN w j : Nat) : Int)) (by rw [e1]; simp) (by rw [ha, e]; simp))
        have hc : crossB w l k j = true ↔ ((a < c ∧ c < a + dN w k) ↔ ¬ (a < c + dN w j ∧ c + dN w j < a + dN w k)) := by
          rw [cross_iff v hk ⟨h1, hlt⟩ ha]
          constructor
          · rintro ⟨c', e, h2⟩
            rw [e1] at e
            obtain rfl : c = c' := by simp at e; omega
            exact h2
          · intro h2; exact ⟨c, e1, h2⟩
        have p1 : (@LE.le Int _ (a : Int) (c : Int) ∧ @LE.le Int _ (c : Int) ((a : Int) + (dN w k : Nat))) ↔ (a < c ∧ c < a + dN w k) := by omega
        have p2 : (@LE.le Int _ (a : Int) ((c : Int) + (dN w j : Nat)) ∧ @LE.le Int _ ((c : Int) + (dN w j : Nat)) ((a : Int) + (dN w k : Nat))) ↔ (a < c + dN w j ∧ c + dN w j < a + dN w k) := by omega
        rw [decide_eq_decide.2 p1, decide_eq_decide.2 p2]
        by_cases g : crossB w l k j = true
        · have hne : ¬ (decide (a < c ∧ c < a + dN w k) == decide (a < c + dN w j ∧ c + dN w j < a + dN w k)) = true := by
            have := hc.1 g
            intro e
            simp only [beq_iff_eq, decide_eq_decide] at e
            omega
          rw [if_neg hne, req_pos (by simp; omega)]
          simp only [Option.bind_some]
          rw [f27_p2_eq v hk ha m (j + 1) f _ (by omega) (by omega) (by omega) (by simp; omega)]
          simp [g]
        · have heq : (decide (a < c ∧ c < a + dN w k) == decide (a < c + dN w j ∧ c + dN w j < a + dN w k)) = true := by
            simp only [beq_iff_eq, decide_eq_decide]
            have := mt hc.2 g
            omega
          rw [if_pos heq]
          simp only [Option.bind_some]
          rw [f27_p2_eq v hk ha m (j + 1) f _ (by omega) (by omega) (by omega) (by omega)]
          simp [g]

theorem f27_eq {l : List Int} (hl : l.length ≤ 60) (n : Int) (w : Bool) (k : Int) : f27 100 n w l k = some (crossS n w l k) := by
  unfold f27 crossS
  rw [f68_eq hl]
  by_cases h : code n w l = 0
  · have v := code_zero.1 h
    have hr := v.rng
    have hlen := v.len
    by_cases h1 : 1 ≤ k ∧ k ≤ n
    · obtain ⟨a, rfl⟩ := Int.eq_ofNat_of_zero_le (show 0 ≤ k by omega)
      by_cases h0 : posF 0 l (a : Int) = []
      · simp [h, h1, h0]
      · obtain ⟨b, e1, e2, e3⟩ := v.both (by omega) h0
        have hd := dN_pos (w := w) (k := a) (by omega)
        simp only [h, h1, h0, and_self, if_true, if_false, Option.bind_some, bne_self_eq_false, Int.toNat_natCast, Bool.false_eq_true]
        rw [req_pos (by omega)]
        simp only [Nat.zero_add, Nat.mul_one, tab_get (show a < 9 by omega), Option.bind_some, e3]
        rw [f70_eq (by omega) (by omega), e3, dist_nat]
        simp only [Option.bind_some]
        have := f27_p2_eq (F := 100) v (k := a) (by omega) e1 n.toNat 1 100 [] (by omega) (by omega) (by omega) (by simp; omega)
        simp only [Int.natCast_one] at this
        rw [this]
        simp
    · simp [h, h1]
  · simp [h]

end Go.Gh.Fan
