/- BunchHooked: one division after the other. -/
import Derived.Test.YtegnegeoodkpcaaBunchU
namespace Go.Gh.Bunch
set_option linter.unusedVariables false
set_option linter.unusedSimpArgs false

theorem f10_step (x1 : Int) (l : List Int) (L : List (List Int)) (k : Nat) (a b : Int) (i : Nat) (hi : i < L.length) (h : at? L (i : Int) = some l) :
    f10_p1 2000 x1 L (k + 1) a b i = Option.bind (f10_p1 2000 x1 [l] (1 + 1) a b 0) (fun | .c0 => some .c0 | .c1 A B => f10_p1 2000 x1 L k A B (w64 ((i : Int) + 1))) := by
  have base : ∀ A B, f10_p1 2000 x1 [l] 1 A B (w64 (0 + 1)) = some (.c1 A B) := by
    intro A B
    rw [show (1 : Nat) = 0 + 1 from rfl, f10_p1.eq_2, if_neg (by simp [w64_in])]
  have p5 : ∀ x3 x4 x9 x10 x11, f10_p5 2000 x1 x3 x4 l x9 x10 L i x11 = f10_p5 2000 x1 x3 x4 l x9 x10 [l] 0 x11 := fun _ _ _ _ _ => rfl
  have p9 : ∀ x18 x4 x19 x20 x22, f10_p9 2000 x1 x18 x4 x19 x20 L i x22 = f10_p9 2000 x1 x18 x4 x19 x20 [l] 0 x22 := fun _ _ _ _ _ => rfl
  have h0 : at? [l] 0 = some l := rfl
  conv => lhs; rw [f10_p1.eq_2]
  conv => rhs; rw [f10_p1.eq_2]
  rw [if_pos (by simp; omega), if_pos (by simp), h, h0]
  simp only [Option.bind_some, base, p5, p9]
  repeat' (first
    | (rw [Option.bind_assoc]; refine bcongr fun y => ?_; cases y <;> try dsimp only)
    | (rw [ite_bind]; refine icongr ?_ ?_)
    | (simp only [Option.bind_some]; done))

def run10 (n : Int) : List (List Int) → Int → Int → Option (Int × Int)
  | [], a, b => some (a, b)
  | l :: r, a, b => match f10_p1 2000 n [l] 2 a b 0 with
    | some (.c1 A B) => run10 n r A B
    | _ => none

theorem run10_append (n : Int) : ∀ (r s : List (List Int)) (a b A B : Int), run10 n r a b = some (A, B) → run10 n (r ++ s) a b = run10 n s A B := by
  intro r
  induction r with
  | nil => intro s a b A B h; cases h; rfl
  | cons l r ih =>
    intro s a b A B h
    simp only [run10, List.cons_append] at h ⊢
    split at h
    · exact ih _ _ _ _ _ h
    · cases h

theorem run10_cut {n : Int} {L : List (List Int)} (q : Nat) {a b A B : Int} {r : Option (Int × Int)} (h : run10 n (L.take q) a b = some (A, B)) (k : run10 n (L.drop q) A B = r) : run10 n L a b = r := by
  rw [← k, ← run10_append n (L.take q) (L.drop q) a b A B h, List.take_append_drop]

theorem f10_p1_eq (x1 : Int) (L : List (List Int)) (hl : L.length ≤ 5000) : ∀ (k i : Nat) (a b A B : Int), i ≤ L.length → L.length < k + i → run10 x1 (L.drop i) a b = some (A, B) → f10_p1 2000 x1 L k a b i = some (.c1 A B) := by
  intro k
  induction k with
  | zero => intro i a b A B _ h; omega
  | succ k ih =>
    intro i a b A B h1 h2 h
    by_cases hi : i < L.length
    · rw [f10_step x1 L[i] L k a b i hi (at_of (List.getElem?_eq_getElem hi))]
      rw [drop_cons hi] at h
      simp only [run10] at h
      split at h
      · rename_i A' B' he
        rw [show (1 + 1 : Nat) = 2 from rfl, he, Option.bind_some]
        rw [show w64 ((i : Int) + 1) = ((i + 1 : Nat) : Int) by rw [w64_in (by omega)]; omega]
        exact ih (i + 1) _ _ _ _ (by omega) (by omega) h
      · cases h
    · rw [List.drop_eq_nil_of_le (by omega)] at h
      cases h
      rw [f10_p1.eq_2, if_neg (by simp; omega)]

theorem f10_p1_mod {x y : Int} (h : Int.tmod (w64 x) 23 = Int.tmod (w64 y) 23) (L : List (List Int)) : ∀ (k : Nat) (a b i : Int), f10_p1 2000 x L k a b i = f10_p1 2000 y L k a b i := by
  intro k
  induction k with
  | zero => intro _ _ _; rfl
  | succ k ih => intro a b i; simp only [f10_p1, f10_p5, f10_p9, h, ih]
theorem f10_mod {x y : Int} (h : Int.tmod (w64 x) 23 = Int.tmod (w64 y) 23) : f10 2000 x = f10 2000 y := by
  simp only [f10, h, f10_p1_mod h]

end Go.Gh.Bunch
