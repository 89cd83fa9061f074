/- BunchGlaisher: one division after the other. -/
import Derived.Test.YtegnegeoodkpcaaBunchU
namespace Go.Gh.Bunch
set_option linter.unusedVariables false
set_option linter.unusedSimpArgs false

theorem f7_p11_ind {F : Nat} {x y x3 x4 x10 x14 i j : Int} {x6 x7 x9 : List Int} {L M : List (List Int)} : ∀ (k : Nat) (a b : Int), f7_p11 F x x3 x4 x6 x7 x9 x10 x14 L i k a b = f7_p11 F y x3 x4 x6 x7 x9 x10 x14 M j k a b := by
  intro k
  induction k with
  | zero => intro _ _; rfl
  | succ k ih => intro a b; simp only [f7_p11, f7_p14, ih]
theorem f7_p16_ind {F : Nat} {x y x3 x4 x10 x14 x19 i j : Int} {x6 x7 x9 : List Int} {L M : List (List Int)} : ∀ (k : Nat) (a b : Int), f7_p16 F x x3 x4 x6 x7 x9 x10 x14 x19 L i k a b = f7_p16 F y x3 x4 x6 x7 x9 x10 x14 x19 M j k a b := by
  intro k
  induction k with
  | zero => intro _ _; rfl
  | succ k ih => intro a b; simp only [f7_p16, f7_p19, ih]
theorem f7_p7_ind {F : Nat} {x y x3 x4 x10 i j : Int} {x6 x7 x9 : List Int} {L M : List (List Int)} (h : Int.tmod (w64 x) 21 = Int.tmod (w64 y) 21) : ∀ (k : Nat) (a : Int), f7_p7 F x x3 x4 x6 x7 x9 x10 L i k a = f7_p7 F y x3 x4 x6 x7 x9 x10 M j k a := by
  intro k
  induction k with
  | zero => intro _; rfl
  | succ k ih =>
    intro a
    simp only [f7_p7, h, ih]
    rw [f7_p11_ind (x := x) (y := y) (L := L) (M := M) (i := i) (j := j)]
    simp only [f7_p16_ind (x := x) (y := y) (L := L) (M := M) (i := i) (j := j)]
theorem f7_p4_ind {F : Nat} {x y x3 x4 x8 x10 i j : Int} {x6 x7 x9 : List Int} {x11 : Bool} {L M : List (List Int)} (h : Int.tmod (w64 x) 21 = Int.tmod (w64 y) 21) : f7_p4 F x x3 x4 x6 x7 x8 x9 x10 L i x11 = f7_p4 F y x3 x4 x6 x7 x8 x9 x10 M j x11 := by
  simp only [f7_p4, h]
  rw [f7_p7_ind (L := L) (M := M) (i := i) (j := j) h]

theorem f7_step (x1 : Int) (l : List Int) (L : List (List Int)) (k : Nat) (a b : Int) (i : Nat) (hi : i < L.length) (h : at? L (i : Int) = some l) :
    f7_p1_4 2000 x1 L (k + 1) a b i = Option.bind (f7_p1_4 2000 x1 [l] (1 + 1) a b 0) (fun | .c0 => some .c0 | .c1 A B => f7_p1_4 2000 x1 L k A B (w64 ((i : Int) + 1))) := by
  have base : ∀ A B, f7_p1_4 2000 x1 [l] 1 A B (w64 (0 + 1)) = some (.c1 A B) := by
    intro A B
    rw [show (1 : Nat) = 0 + 1 from rfl, f7_p1_4.eq_2, if_neg (by simp [w64_in])]
  have p4 : ∀ x3 x4 x7 x8 x9 x10 x11, f7_p4 2000 x1 x3 x4 l x7 x8 x9 x10 L i x11 = f7_p4 2000 x1 x3 x4 l x7 x8 x9 x10 [l] 0 x11 := fun _ _ _ _ _ _ _ => f7_p4_ind rfl
  have p23 : ∀ x28 x4 x9 x10 x29, f7_p23 2000 x1 x28 x4 l x9 x10 L i x29 = f7_p23 2000 x1 x28 x4 l x9 x10 [l] 0 x29 := fun _ _ _ _ _ => rfl
  have h0 : at? [l] 0 = some l := rfl
  conv => lhs; rw [f7_p1_4.eq_2]
  conv => rhs; rw [f7_p1_4.eq_2]
  rw [if_pos (by simp; omega), if_pos (by simp), h, h0]
  simp only [Option.bind_some, base, p4, p23]
  repeat' (first
    | (rw [Option.bind_assoc]; refine bcongr fun y => ?_; cases y <;> try dsimp only)
    | (rw [ite_bind]; refine icongr ?_ ?_)
    | (simp only [Option.bind_some]; done))

def run7 (n : Int) : List (List Int) → Int → Int → Option (Int × Int)
  | [], a, b => some (a, b)
  | l :: r, a, b => match f7_p1_4 2000 n [l] 2 a b 0 with
    | some (.c1 A B) => run7 n r A B
    | _ => none

theorem run7_append (n : Int) : ∀ (r s : List (List Int)) (a b A B : Int), run7 n r a b = some (A, B) → run7 n (r ++ s) a b = run7 n s A B := by
  intro r
  induction r with
  | nil => intro s a b A B h; cases h; rfl
  | cons l r ih =>
    intro s a b A B h
    simp only [run7, List.cons_append] at h ⊢
    split at h
    · exact ih _ _ _ _ _ h
    · cases h

theorem run7_cut {n : Int} {L : List (List Int)} (q : Nat) {a b A B : Int} {r : Option (Int × Int)} (h : run7 n (L.take q) a b = some (A, B)) (k : run7 n (L.drop q) A B = r) : run7 n L a b = r := by
  rw [← k, ← run7_append n (L.take q) (L.drop q) a b A B h, List.take_append_drop]

theorem f7_p1_eq (x1 : Int) (L : List (List Int)) (hl : L.length ≤ 5000) : ∀ (k i : Nat) (a b A B : Int), i ≤ L.length → L.length < k + i → run7 x1 (L.drop i) a b = some (A, B) → f7_p1_4 2000 x1 L k a b i = some (.c1 A B) := by
  intro k
  induction k with
  | zero => intro i a b A B _ h; omega
  | succ k ih =>
    intro i a b A B h1 h2 h
    by_cases hi : i < L.length
    · rw [f7_step x1 L[i] L k a b i hi (at_of (List.getElem?_eq_getElem hi))]
      rw [drop_cons hi] at h
      simp only [run7] at h
      split at h
      · rename_i A' B' he
        rw [show (1 + 1 : Nat) = 2 from rfl, he, Option.bind_some]
        rw [show w64 ((i : Int) + 1) = ((i + 1 : Nat) : Int) by rw [w64_in (by omega)]; omega]
        exact ih (i + 1) _ _ _ _ (by omega) (by omega) h
      · cases h
    · rw [List.drop_eq_nil_of_le (by omega)] at h
      cases h
      rw [f7_p1_4.eq_2, if_neg (by simp; omega)]

theorem f7_p1_mod {x y : Int} (h : Int.tmod (w64 x) 21 = Int.tmod (w64 y) 21) (L : List (List Int)) : ∀ (k : Nat) (a b i : Int), f7_p1_4 2000 x L k a b i = f7_p1_4 2000 y L k a b i := by
  intro k
  induction k with
  | zero => intro _ _ _; rfl
  | succ k ih =>
    intro a b i
    simp only [f7_p1_4, f7_p23, h, ih]
    simp only [f7_p4_ind (L := L) (M := L) (i := i) (j := i) h]
theorem f7_mod {x y : Int} (h : Int.tmod (w64 x) 21 = Int.tmod (w64 y) 21) : f7 2000 x = f7 2000 y := by
  simp only [f7, h, f7_p1_mod h]

end Go.Gh.Bunch
