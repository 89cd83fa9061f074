/- TopP4: the law TopTakings' plain side. -/
import Derived.Test.YtcaphjiiaclndaaDoorTopT
namespace Go.Gh.Top
set_option linter.unusedVariables false
set_option linter.unusedSimpArgs false

theorem f55_all : ∀ c : Fin 11, ∀ m : Fin 6, ∀ n : Fin 11, f55 1100 [1, 2] [(c.val : Int), (m.val : Int)] (n.val : Int) = some ([1, 2], [(c.val : Int), (m.val : Int)], 0) := by decide +kernel
theorem f15_is : f15 1100 = some true := by decide +kernel

theorem good {c m : Int} (hc : 0 ≤ c ∧ c ≤ 40) (hm : 0 ≤ m ∧ m ≤ 40) : Good [1, 2] [c, m] := by
  refine ⟨rfl, by simp, ?_, ?_⟩
  · intro x hx; simp at hx; omega
  · intro x hx; simp at hx; omega

theorem f19_eq (c : Fin 11) (m : Fin 6) (n : Fin 11) : f19 1100 [1, 2] [(c.val : Int), (m.val : Int)] (n.val : Int) = some (W [1, 2] [(c.val : Int), (m.val : Int)] n.val, 0) := by
  unfold f19
  rw [f55_all, Option.bind_some]
  show (if ((0 : Int) != 0) = true then _ else _) = _
  rw [if_neg (by decide), f56_eq (by omega) (good (by omega) (by omega)), Option.bind_some, tab_at _ (by omega)]
  rfl

/-- The search of Span looks at no number beyond the sum. -/
theorem f22_p4_is {F n : Nat} (hn : n ≤ 10) (x11 : Int) (x6 : List Int) {w : Nat → Int} : ∀ (k j : Nat) (x12 x13 x14 : Int), j ≤ 100 → f22_p4 F n 0 (tab 1001 w) x11 [1, 2] x6 k x12 x13 x14 j = f22_p4 F n 0 (tab 11 w) x11 [1, 2] x6 k x12 x13 x14 j := by
  intro k
  induction k with
  | zero => intros; simp only [f22_p4]
  | succ k ih =>
    intro j x12 x13 x14 hj
    unfold f22_p4
    have e0 : at? ([1, 2] : List Int) 0 = some 1 := rfl
    rw [e0, Option.bind_some, Option.bind_some]
    have e1 : w64 ((n : Int) - w64 ((j : Int) * 1)) = (n : Int) - j := by rw [Int.mul_one, w64_in (n := (j : Int)) (by omega), w64_in (by omega)]
    rw [e1]
    by_cases hjn : (n : Int) - j < 0
    · rw [if_pos (c := decide ((n : Int) - j < 0) = true) (by simpa using hjn), if_pos (c := decide ((n : Int) - j < 0) = true) (by simpa using hjn)]
    · rw [if_neg (c := decide ((n : Int) - j < 0) = true) (by simpa using hjn), if_neg (c := decide ((n : Int) - j < 0) = true) (by simpa using hjn)]
      have e2 : ((n : Int) - j) = ((n - j : Nat) : Int) := by omega
      have e3 : w64 ((j : Int) + 1) = ((j + 1 : Nat) : Int) := w64_succ (by omega)
      rw [e2, tab_at _ (by omega), tab_at _ (by omega), e3]
      simp only [Option.bind_some]
      have h10 : ∀ a b c d e f, f22_p10 F n 0 a b (tab 1001 w) c d e f = f22_p10 F n 0 a b (tab 11 w) c d e f := by intros; simp only [f22_p10]
      by_cases hj2 : j + 1 ≤ 100
      · simp only [h10, ih (j + 1) _ _ _ hj2]
      · omega

theorem tmod_id {q a : Int} (h : 0 ≤ a ∧ a < q) (hq : q ≤ 100) : Int.tmod (w64 a) q = a := by
  rw [w64_in (by omega)]; exact Int.tmod_eq_of_lt h.1 h.2

theorem f59_1_eq {F : Nat} {l : List Int} (h0 : l ≠ []) (hl : l.length ≤ 5000) : f59_1 F l = some l := by
  unfold f59_1
  rw [req_pos h0, req_pos (by simp; omega)]; rfl

/-- What Span answers, by the numbers of fillings without the first size. -/
def spn (c m n : Int) : Option (Int × Int × Int) := f22_p4 1100 n 0 (tab 11 (W [1, 2] [0, m])) c [1, 2] [c, m] 1100 0 0 12 0

theorem f22_eq (c : Fin 11) (m : Fin 6) (n : Fin 11) : f22 1100 [1, 2] [(c.val : Int), (m.val : Int)] (n.val : Int) 0 = spn c.val m.val n.val := by
  unfold f22
  rw [f55_all, Option.bind_some]
  show (if ((0 : Int) != 0) = true then _ else _) = _
  have e57 : f57 1100 0 0 (w64 (((List.length ([1, 2] : List Int) : Nat) : Int) - 1)) = some true := by decide +kernel
  rw [if_neg (by decide), e57, Option.bind_some, if_pos rfl, f59_1_eq (by simp) (by simp), Option.bind_some, req_pos (by simp), req_pos (by simp), req_pos (by simp)]
  have ec : List.drop 0 (List.take (0 + ([(c.val : Int), (m.val : Int)] : List Int).length) (List.set [(c.val : Int), (m.val : Int)] (0 + Int.toNat 0) 0)) = [0, (m.val : Int)] := rfl
  rw [ec, f56_eq (by omega) (good (by omega) (by omega)), Option.bind_some]
  have ea : at? ([(c.val : Int), (m.val : Int)] : List Int) 0 = some (c.val : Int) := rfl
  rw [ea, Option.bind_some]
  have e := f22_p4_is (F := 1100) (n := n.val) (by omega) (c.val : Int) [(c.val : Int), (m.val : Int)] (w := W [1, 2] [0, (m.val : Int)]) 1100 0 0 0 12 (by omega)
  rw [show f22_p4 1100 (n.val : Int) 0 (tab 1001 (W [1, 2] [0, (m.val : Int)])) (c.val : Int) [1, 2] [(c.val : Int), (m.val : Int)] 1100 0 0 12 0 = _ from e]
  show (spn c.val m.val n.val).bind _ = _
  cases spn (c.val : Int) (m.val : Int) (n.val : Int) <;> rfl

theorem f4_p6_is {F : Nat} (x1 y1 : Int) (x5 x9 : List Int) (x10 x14 x2 y2 x8 : Int) (h1 : Int.tmod (w64 x1) 11 = Int.tmod (w64 y1) 11) (h2 : Int.tmod (w64 x2) 4 = Int.tmod (w64 y2) 4) : ∀ (k : Nat) (a b c : Int), f4_p6 F x1 x5 x9 x10 x14 x2 x8 k a b c = f4_p6 F y1 x5 x9 0 x14 y2 0 k a b c := by
  intro k
  induction k with
  | zero => intros; simp only [f4_p6]
  | succ k ih => intro a b c; simp only [f4_p6, ih, h1, h2]
theorem f4_p2_is {F : Nat} (x1 y1 : Int) (x5 x9 : List Int) (x10 x2 y2 x8 : Int) (h1 : Int.tmod (w64 x1) 11 = Int.tmod (w64 y1) 11) (h2 : Int.tmod (w64 x2) 4 = Int.tmod (w64 y2) 4) : ∀ (k : Nat) (a b c : Int), f4_p2 F x1 x5 x9 x10 x2 x8 k a b c = f4_p2 F y1 x5 x9 0 y2 0 k a b c := by
  intro k
  induction k with
  | zero => intros; simp only [f4_p2]
  | succ k ih => intro a b c; simp only [f4_p2, ih, f4_p6_is x1 y1 x5 x9 x10 _ x2 y2 x8 h1 h2]

/-- What is left to look at. -/
def fine (n b c m : Nat) : Bool :=
  match f4_p2 1100 n [(c : Int), (m : Int)] [1, 2] 0 b 0 1100 0 0 0, spn c m n with
  | some (.c1 s w), some (lo, hi, e) => w == W [1, 2] [(c : Int), (m : Int)] n && s == ((g 1100 n c m b true : Nat) : Int) &&
    (if w == 0 then e == 12 else e == 0 && decide (lo ≤ hi) && f20 1100 [1, 2] [(c : Int), (m : Int)] n [hi, w64 (Int.tdiv (w64 ((n : Int) - hi)) 2)] == some 0)
  | _, _ => false

theorem f4_core (F : Nat) {n b c m r w s lo hi e x1 x2 x3 x4 : Int} (h1 : Int.tmod (w64 x1) 11 = n) (h2 : Int.tmod (w64 x2) 4 = b) (h3 : Int.tmod (w64 x3) 11 = c) (h4 : Int.tmod (w64 x4) 6 = m)
    (e17 : f17 F F ⟨#[]⟩ n c m b 0 = some r) (e19 : f19 F [1, 2] [c, m] n = some (w, 0)) (ep : f4_p2 F x1 [c, m] [1, 2] w x2 r F 0 0 0 = some (.c1 s w)) (es : s = r) (e22 : f22 F [1, 2] [c, m] n 0 = some (lo, hi, e)) (e15 : f15 F = some true)
    (hl : (w = 0 ∧ e = 12) ∨ (w ≠ 0 ∧ e = 0 ∧ lo ≤ hi ∧ f20 F [1, 2] [c, m] n [hi, w64 (Int.tdiv (w64 (n - hi)) 2)] = some 0)) : f4 F x1 x2 x3 x4 = some true := by
  subst es
  have e16 : ∀ l : List Int, f16 F l = some l := fun _ => rfl
  have ea : at? ([c, m] : List Int) 0 = some c := rfl
  have eb : at? ([c, m] : List Int) 1 = some m := rfl
  unfold f4
  rw [h1, h2, h3, h4]
  simp only [e16, ea, eb, Option.bind_some, e17, e19, ep, e22, e15]
  rcases hl with ⟨rfl, rfl⟩ | ⟨g1, rfl, g2, g3⟩
  · simp
  · simp only [g3, Option.bind_some]
    simp [g1, g2]

theorem f4_of (n c : Fin 11) (m : Fin 6) (b : Fin 4) (x1 x2 x3 x4 : Int) (h1 : Int.tmod (w64 x1) 11 = n.val) (h2 : Int.tmod (w64 x2) 4 = b.val) (h3 : Int.tmod (w64 x3) 11 = c.val) (h4 : Int.tmod (w64 x4) 6 = m.val) (hf : fine n.val b.val c.val m.val = true) :
    f4 1100 x1 x2 x3 x4 = some true := by
  have e17 := f17_eq (b := (b.val : Int)) (by omega) 1100 n.val c.val m.val [] 0 (by simp) (by simp; omega) (by omega) (by omega) (by omega) (by omega) (by
    have : 2 ^ n.val ≤ 2 ^ 10 := Nat.pow_le_pow_right (by omega) (by omega)
    have h : 2 ^ n.val ≤ 1024 := this
    generalize 2 ^ n.val = q at *
    omega)
  rw [Int.zero_add] at e17
  unfold fine at hf
  split at hf
  rotate_left
  · cases hf
  rename_i s w lo hi e hp hs
  simp only [Bool.and_eq_true, beq_iff_eq] at hf
  obtain ⟨⟨hw, hg⟩, hl⟩ := hf
  rw [← f4_p2_is x1 (n.val : Int) [(c.val : Int), (m.val : Int)] [1, 2] w x2 (b.val : Int) s (by rw [h1, tmod_id (by omega) (by omega)]) (by rw [h2, tmod_id (by omega) (by omega)]) 1100 0 0 0] at hp
  refine f4_core 1100 h1 h2 h3 h4 (r := s) (w := w) (s := s) (lo := lo) (hi := hi) (e := e) ?_ ?_ hp rfl ?_ f15_is ?_
  · rw [hg]; exact e17
  · rw [hw]; exact f19_eq c m n
  · rw [← hs]; exact f22_eq c m n
  · by_cases h0 : w = 0
    · rw [if_pos (by simpa using h0)] at hl
      exact .inl ⟨h0, by simpa using hl⟩
    · rw [if_neg (by simpa using h0)] at hl
      simp only [Bool.and_eq_true, beq_iff_eq, decide_eq_true_eq] at hl
      exact .inr ⟨h0, hl.1.1, hl.1.2, hl.2⟩

end Go.Gh.Top
