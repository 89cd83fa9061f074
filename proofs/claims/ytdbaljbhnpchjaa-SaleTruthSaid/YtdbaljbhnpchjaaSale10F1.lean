/- Sale10F1: printed by wip/tool/gx.py -/
import Derived.Test.YtdbaljbhnpchjaaSale10F0
namespace Go.Gh.Sale
set_option linter.unusedVariables false
set_option linter.unusedSimpArgs false
open Go.Proofs

theorem f97_2_p5_ok (F : Nat) (rec : (List Int) → (List (List Int)) → Int → (List Int) → Int → Int → Int → Option ((List Int) × Int)) (hrec : ∀ (x1 : List Int) (x2 : List (List Int)) (x3 : Int) (x4 : List Int) (x5 x6 x7 : Int) (r : (List Int) × Int), rec x1 x2 x3 x4 x5 x6 x7 = some r → f97_2_C x1 x2 x3 x4 x5 x6 x7 r) (x1 : List Int) (x14 : Int) (x20 : Bool) (x2 : List (List Int)) (x3 : Int) (x15 : List Int) (x16 x6 x7 : Int) (r : (List Int) × Int) (h : f97_2_p5 F rec x1 x14 x20 x2 x3 x15 x16 x6 x7 = some r) : f97_2_p5_P x1 x14 x20 x2 x3 x15 x16 x6 x7 r := by
  unfold f97_2_p5 at h
  by_cases h14 : x20 = true
  · rw [if_pos h14] at h
    obtain rfl := Option.some.inj h
    exact gRun_ok cxOK (f97_2_p5_e0 x1 x2 x3 x6 x7 x14 x15 x16 x20) ⟨(by rw [h14]; rfl), trivial⟩
  · rw [if_neg h14] at h
    have h14 := Bool.eq_false_iff.2 h14
    obtain ⟨x21, h15, h⟩ := bind_some h
    have ch15 := f95_ok F x1 _ h15
    try dsimp only at h
    obtain ⟨h16, h⟩ := req_some h
    obtain ⟨rh17, h17, h⟩ := bind_some h
    have ch17 := hrec (x21 ++ ([x14] : List Int)) x2 x3 x15 x16 x6 x7 _ h17
    obtain ⟨x22, x23⟩ := rh17
    try dsimp only at h
    obtain rfl := Option.some.inj h
    exact gRun_ok cxOK (f97_2_p5_e1 x1 x2 x3 x6 x7 x14 x15 x16 x20 x21 x22 x23) ⟨(by rw [h14]; rfl), ch15, h16, (.inr (by simp)), rfl, ch17, trivial⟩
theorem f97_2_p2_ok (F : Nat) (rec : (List Int) → (List (List Int)) → Int → (List Int) → Int → Int → Int → Option ((List Int) × Int)) (hrec : ∀ (x1 : List Int) (x2 : List (List Int)) (x3 : Int) (x4 : List Int) (x5 x6 x7 : Int) (r : (List Int) × Int), rec x1 x2 x3 x4 x5 x6 x7 = some r → f97_2_C x1 x2 x3 x4 x5 x6 x7 r) (x1 : List Int) (x2 : List (List Int)) (x3 x6 x7 : Int) : ∀ (k : Nat) (x14 : Int) (x15 : List Int) (x16 : Int) (r : (List Int) × Int), f97_2_p2 F rec x1 x2 x3 x6 x7 k x14 x15 x16 = some r → f97_2_p2_P x1 x2 x3 x6 x7 x14 x15 x16 r
  | 0, _, _, _, _, h => by cases h
  | k + 1, x14, x15, x16, r, h => by
    unfold f97_2_p2 at h
    by_cases h8 : (decide (x14 < x7)) = true
    · rw [if_pos h8] at h
      by_cases h9 : (decide (x14 < 0)) = true
      · rw [if_pos h9] at h
        obtain ⟨x17, h10, h⟩ := bind_some h
        have ch10 := f95_ok F x1 _ h10
        try dsimp only at h
        obtain ⟨h11, h⟩ := req_some h
        obtain ⟨rh12, h12, h⟩ := bind_some h
        have ch12 := hrec (x17 ++ ([x14] : List Int)) x2 x3 x15 x16 x6 x7 _ h12
        obtain ⟨x18, x19⟩ := rh12
        try dsimp only at h
        exact Lp.again (gRun_ok cxOK (f97_2_p2_e0 x1 x2 x3 x6 x7 x14 x15 x16 x17 x18 x19) ⟨h8, h9, h9, h9, h9, h9, rfl, ch10, h11, (.inr (by simp)), rfl, ch12, trivial⟩) (f97_2_p2_ok F rec hrec x1 x2 x3 x6 x7 k (w64 (x14 + 1)) x18 x19 r h)
      · rw [if_neg h9] at h
        have h9 := Bool.eq_false_iff.2 h9
        obtain ⟨x20, h13, h⟩ := bind_some h
        have ch13 := f53_ok F x1 x14 _ h13
        try dsimp only at h
        obtain ⟨rh18, h18, h⟩ := bind_some h
        have ch18 := f97_2_p5_ok F rec hrec x1 x14 x20 x2 x3 x15 x16 x6 x7 _ h18
        obtain ⟨x24, x25⟩ := rh18
        try dsimp only at h
        exact Lp.again (gRun_ok cxOK (f97_2_p2_e1 x1 x2 x3 x6 x7 x14 x15 x16 x20 x24 x25) ⟨h8, h9, h9, h9, ch13, h9, h9, ch18, trivial⟩) (f97_2_p2_ok F rec hrec x1 x2 x3 x6 x7 k (w64 (x14 + 1)) x24 x25 r h)
    · rw [if_neg h8] at h
      have h8 := Bool.eq_false_iff.2 h8
      obtain rfl := Option.some.inj h
      exact Lp.out (gRun_ok cxOK (f97_2_p2_e2 x1 x2 x3 x6 x7 x14 x15 x16) ⟨h8, trivial⟩) (by intro hh; cases hh)
theorem f97_2_b_ok (F : Nat) (rec : (List Int) → (List (List Int)) → Int → (List Int) → Int → Int → Int → Option ((List Int) × Int)) (hrec : ∀ (x1 : List Int) (x2 : List (List Int)) (x3 : Int) (x4 : List Int) (x5 x6 x7 : Int) (r : (List Int) × Int), rec x1 x2 x3 x4 x5 x6 x7 = some r → f97_2_C x1 x2 x3 x4 x5 x6 x7 r) (x1 : List Int) (x2 : List (List Int)) (x3 : Int) (x4 : List Int) (x5 x6 x7 : Int) (r : (List Int) × Int) (h : f97_2_b F rec x1 x2 x3 x4 x5 x6 x7 = some r) : f97_2_C x1 x2 x3 x4 x5 x6 x7 r := by
  unfold f97_2_b at h
  by_cases h1 : (((List.length x1 : Nat) : Int) == x6) = true
  · rw [if_pos h1] at h
    obtain ⟨rh2, h2, h⟩ := bind_some h
    have ch2 := f92_1_ok F x1 x2 x3 x4 x5 _ h2
    obtain ⟨x8, x9⟩ := rh2
    try dsimp only at h
    obtain rfl := Option.some.inj h
    exact callOK cxOK cxW Try.func97 (by kernel_rfl) (f97_2_e0 x1 x2 x3 x4 x5 x6 x7 x8 x9) ⟨h1, ch2, trivial⟩
  · rw [if_neg h1] at h
    have h1 := Bool.eq_false_iff.2 h1
    obtain ⟨rh19, h19, h⟩ := bind_some h
    have ch19 := f97_2_p2_ok F rec hrec x1 x2 x3 x6 x7 F (-1) x4 x5 _ h19
    obtain ⟨x26, x27⟩ := rh19
    try dsimp only at h
    obtain rfl := Option.some.inj h
    exact callOK cxOK cxW Try.func97 (by kernel_rfl) (f97_2_e1 x1 x2 x3 x4 x5 x6 x7 x26 x27) ⟨h1, ch19, trivial⟩
theorem f97_2_ok (F : Nat) : ∀ (k : Nat) (x1 : List Int) (x2 : List (List Int)) (x3 : Int) (x4 : List Int) (x5 x6 x7 : Int) (r : (List Int) × Int), f97_2 F k x1 x2 x3 x4 x5 x6 x7 = some r → f97_2_C x1 x2 x3 x4 x5 x6 x7 r
  | 0, _, _, _, _, _, _, _, _, h => by cases h
  | k + 1, x1, x2, x3, x4, x5, x6, x7, r, h => f97_2_b_ok F (f97_2 F k) (f97_2_ok F k) x1 x2 x3 x4 x5 x6 x7 r h

theorem f97_1_p5_ok (F : Nat) (x1 : List Int) (x19 : Int) (x25 : Bool) (x2 : List (List Int)) (x3 : Int) (x20 : List Int) (x21 x5 x6 : Int) (r : (List Int) × Int) (h : f97_1_p5 F x1 x19 x25 x2 x3 x20 x21 x5 x6 = some r) : f97_1_p5_P x1 x19 x25 x2 x3 x20 x21 x5 x6 r := by
  unfold f97_1_p5 at h
  by_cases h19 : x25 = true
  · rw [if_pos h19] at h
    obtain rfl := Option.some.inj h
    exact gRun_ok cxOK (f97_1_p5_e0 x1 x2 x3 x5 x6 x19 x20 x21 x25) ⟨(by rw [h19]; rfl), trivial⟩
  · rw [if_neg h19] at h
    have h19 := Bool.eq_false_iff.2 h19
    obtain ⟨x26, h20, h⟩ := bind_some h
    have ch20 := f95_ok F x1 _ h20
    try dsimp only at h
    obtain ⟨h21, h⟩ := req_some h
    obtain ⟨rh22, h22, h⟩ := bind_some h
    have ch22 := f97_2_ok F F (x26 ++ ([x19] : List Int)) x2 x3 x20 x21 x5 x6 _ h22
    obtain ⟨x27, x28⟩ := rh22
    try dsimp only at h
    obtain rfl := Option.some.inj h
    exact gRun_ok cxOK (f97_1_p5_e1 x1 x2 x3 x5 x6 x19 x20 x21 x25 x26 x27 x28) ⟨(by rw [h19]; rfl), ch20, h21, (.inr (by simp)), rfl, ch22, trivial⟩
theorem f97_1_p2_ok (F : Nat) (x1 : List Int) (x2 : List (List Int)) (x3 x5 x6 : Int) : ∀ (k : Nat) (x19 : Int) (x20 : List Int) (x21 : Int) (r : (List Int) × Int), f97_1_p2 F x1 x2 x3 x5 x6 k x19 x20 x21 = some r → f97_1_p2_P x1 x2 x3 x5 x6 x19 x20 x21 r
  | 0, _, _, _, _, h => by cases h
  | k + 1, x19, x20, x21, r, h => by
    unfold f97_1_p2 at h
    by_cases h13 : (decide (x19 < x6)) = true
    · rw [if_pos h13] at h
      by_cases h14 : (decide (x19 < 0)) = true
      · rw [if_pos h14] at h
        obtain ⟨x22, h15, h⟩ := bind_some h
        have ch15 := f95_ok F x1 _ h15
        try dsimp only at h
        obtain ⟨h16, h⟩ := req_some h
        obtain ⟨rh17, h17, h⟩ := bind_some h
        have ch17 := f97_2_ok F F (x22 ++ ([x19] : List Int)) x2 x3 x20 x21 x5 x6 _ h17
        obtain ⟨x23, x24⟩ := rh17
        try dsimp only at h
        exact Lp.again (gRun_ok cxOK (f97_1_p2_e0 x1 x2 x3 x5 x6 x19 x20 x21 x22 x23 x24) ⟨h13, h14, h14, h14, h14, h14, rfl, ch15, h16, (.inr (by simp)), rfl, ch17, trivial⟩) (f97_1_p2_ok F x1 x2 x3 x5 x6 k (w64 (x19 + 1)) x23 x24 r h)
      · rw [if_neg h14] at h
        have h14 := Bool.eq_false_iff.2 h14
        obtain ⟨x25, h18, h⟩ := bind_some h
        have ch18 := f53_ok F x1 x19 _ h18
        try dsimp only at h
        obtain ⟨rh23, h23, h⟩ := bind_some h
        have ch23 := f97_1_p5_ok F x1 x19 x25 x2 x3 x20 x21 x5 x6 _ h23
        obtain ⟨x29, x30⟩ := rh23
        try dsimp only at h
        exact Lp.again (gRun_ok cxOK (f97_1_p2_e1 x1 x2 x3 x5 x6 x19 x20 x21 x25 x29 x30) ⟨h13, h14, h14, h14, ch18, h14, h14, ch23, trivial⟩) (f97_1_p2_ok F x1 x2 x3 x5 x6 k (w64 (x19 + 1)) x29 x30 r h)
    · rw [if_neg h13] at h
      have h13 := Bool.eq_false_iff.2 h13
      obtain rfl := Option.some.inj h
      exact Lp.out (gRun_ok cxOK (f97_1_p2_e2 x1 x2 x3 x5 x6 x19 x20 x21) ⟨h13, trivial⟩) (by intro hh; cases hh)
theorem f97_1_b_ok (F : Nat) (rec : (List Int) → (List (List Int)) → Int → Int → Int → Int → Option f97_1_R) (hrec : ∀ (x1 : List Int) (x2 : List (List Int)) (x3 x4 : Int) (x5 x6 : Int) (r : f97_1_R), rec x1 x2 x3 x4 x5 x6 = some r → f97_1_C x1 x2 x3 x4 x5 x6 r) (x1 : List Int) (x2 : List (List Int)) (x3 x4 : Int) (x5 x6 : Int) (r : f97_1_R) (h : f97_1_b F rec x1 x2 x3 x4 x5 x6 = some r) : f97_1_C x1 x2 x3 x4 x5 x6 r := by
  unfold f97_1_b at h
  by_cases h1 : (((List.length x1 : Nat) : Int) == x5) = true
  · rw [if_pos h1] at h
    obtain ⟨rh2, h2, h⟩ := bind_some h
    have ch2 := f92_ok F x1 x2 x3 x4 _ h2
    cases rh2 with
    | c0 x7 x8 =>
      try dsimp only at h
      obtain rfl := Option.some.inj h
      exact callOK cxOK cxW Try.func97 (by kernel_rfl) (f97_1_e0 x1 x2 x3 x4 x5 x6 x7 x8) ⟨h1, ch2, trivial⟩
    | c1 x9 =>
      try dsimp only at h
      obtain rfl := Option.some.inj h
      exact callOK cxOK cxW Try.func97 (by kernel_rfl) (f97_1_e1 x1 x2 x3 x4 x5 x6 x9) ⟨h1, ch2, trivial⟩
  · rw [if_neg h1] at h
    have h1 := Bool.eq_false_iff.2 h1
    obtain ⟨rh24, h24, h⟩ := bind_some h
    have ch24 := f97_1_p2_ok F x1 x2 x3 x5 x6 F (-1) ([] : List Int) x4 _ h24
    obtain ⟨x31, x32⟩ := rh24
    try dsimp only at h
    obtain rfl := Option.some.inj h
    exact callOK cxOK cxW Try.func97 (by kernel_rfl) (f97_1_e2 x1 x2 x3 x4 x5 x6 x31 x32) ⟨h1, ch24, trivial⟩
theorem f97_1_ok (F : Nat) : ∀ (k : Nat) (x1 : List Int) (x2 : List (List Int)) (x3 x4 : Int) (x5 x6 : Int) (r : f97_1_R), f97_1 F k x1 x2 x3 x4 x5 x6 = some r → f97_1_C x1 x2 x3 x4 x5 x6 r
  | 0, _, _, _, _, _, _, _, h => by cases h
  | k + 1, x1, x2, x3, x4, x5, x6, r, h => f97_1_b_ok F (f97_1 F k) (f97_1_ok F k) x1 x2 x3 x4 x5 x6 r h

theorem f54_1_ok (F : Nat) (x1 x2 : Int) (x3 : List (List Int)) (x4 x5 : Int) (r : f54_1_R) (h : f54_1 F x1 x2 x3 x4 x5 = some r) : f54_1_C x1 x2 x3 x4 x5 r := by
  unfold f54_1 at h
  obtain ⟨rh1, h1, h⟩ := bind_some h
  have ch1 := f97_1_ok F F ([] : List Int) x3 x4 x5 x1 x2 _ h1
  cases rh1 with
  | c0 x6 x7 =>
    try dsimp only at h
    obtain rfl := Option.some.inj h
    exact callOK cxOK cxW Try.func54 (by kernel_rfl) (f54_1_e0 x1 x2 x3 x4 x5 x6 x7) ⟨ch1, trivial⟩
  | c1 x8 =>
    try dsimp only at h
    obtain rfl := Option.some.inj h
    exact callOK cxOK cxW Try.func54 (by kernel_rfl) (f54_1_e1 x1 x2 x3 x4 x5 x8) ⟨ch1, trivial⟩

theorem f47_ok (F : Nat) (x1 : List (List Int)) (r : (List Int) × Int) (h : f47 F x1 = some r) : f47_C x1 r := by
  unfold f47 at h
  obtain ⟨x2, h1, h⟩ := bind_some h
  have ch1 := f48_ok F x1 (-1) _ h1
  try dsimp only at h
  obtain ⟨x3, h2, h⟩ := bind_some h
  try dsimp only at h
  obtain ⟨rh3, h3, h⟩ := bind_some h
  have ch3 := f54_1_ok F ((List.length x1 : Nat) : Int) ((List.length x3 : Nat) : Int) x1 x2 0 _ h3
  cases rh3 with
  | c0 x4 x5 =>
    try dsimp only at h
    obtain rfl := Option.some.inj h
    exact callOK cxOK cxW Try.func47 (by kernel_rfl) (f47_e0 x1 x2 x3 x4 x5) ⟨ch1, ⟨(at?_spec h2).1, x3, (at?_spec h2).2, rfl⟩, ch3, trivial⟩
  | c1 x6 =>
    try dsimp only at h
    obtain rfl := Option.some.inj h
    exact callOK cxOK cxW Try.func47 (by kernel_rfl) (f47_e1 x1 x2 x3 x6) ⟨ch1, ⟨(at?_spec h2).1, x3, (at?_spec h2).2, rfl⟩, ch3, trivial⟩

theorem f52_1_ok (F : Nat) (x1 : List (List Int)) (r : (List (List Int))) (h : f52_1 F x1 = some r) : f52_1_C x1 r := by
  unfold f52_1 at h
  obtain ⟨h1, h⟩ := req_some h
  obtain ⟨h2, h⟩ := req_some h
  obtain rfl := Option.some.inj h
  exact callOK cxOK cxW Try.func52 (by kernel_rfl) (f52_1_e0 x1) ⟨h1, rfl, h2, (.inl rfl), trivial⟩

theorem f51_p1_ok (F : Nat) (x6 : List (List Int)) (x3 : Int) (x1 x7 : List Int) (x9 x10 : Int) (x11 x12 x13 : Int) (x2 : List (List Int)) (x4 : List Int) (x5 : Bool) (r : Int) (h : f51_p1 F x6 x3 x1 x7 x9 x10 x11 x12 x13 x2 x4 x5 = some r) : f51_p1_P x6 x3 x1 x7 x9 x10 x11 x12 x13 x2 x4 x5 r := by
  unfold f51_p1 at h
  by_cases h9 : (decide (x13 ≥ 0)) = true
  · rw [if_pos h9] at h
    obtain ⟨x14, h10, h⟩ := bind_some h
    try dsimp only at h
    obtain ⟨x15, h11, h⟩ := bind_some h
    try dsimp only at h
    obtain ⟨x16, h12, h⟩ := bind_some h
    try dsimp only at h
    obtain rfl := Option.some.inj h
    exact gRun_ok cxOK (f51_p1_e0 x1 x2 x3 x4 x5 x6 x7 x9 x10 x11 x12 x13 x14 x15 x16) ⟨h9, ⟨(at?_spec h10).1, x14, (at?_spec h10).2, rfl⟩, ⟨(at?_spec h11).1, x15, (at?_spec h11).2, rfl⟩, ⟨(at?_spec h12).1, x16, (at?_spec h12).2, rfl⟩, trivial⟩
  · rw [if_neg h9] at h
    have h9 := Bool.eq_false_iff.2 h9
    obtain rfl := Option.some.inj h
    exact gRun_ok cxOK (f51_p1_e1 x1 x2 x3 x4 x5 x6 x7 x9 x10 x11 x12 x13) ⟨h9, trivial⟩
theorem f51_ok (F : Nat) (x1 : List Int) (x2 : List (List Int)) (x3 : Int) (x4 : List Int) (x5 : Bool) (r : Bool) (h : f51 F x1 x2 x3 x4 x5 = some r) : f51_C x1 x2 x3 x4 x5 r := by
  unfold f51 at h
  by_cases h1 : x5 = true
  · rw [if_pos h1] at h
    obtain ⟨x6, h2, h⟩ := bind_some h
    have ch2 := f52_1_ok F x2 _ h2
    try dsimp only at h
    obtain ⟨h3, h⟩ := req_some h
    obtain ⟨h4, h⟩ := req_some h
    obtain ⟨h5, h⟩ := req_some h
    obtain ⟨rh6, h6, h⟩ := bind_some h
    have ch6 := f47_ok F (List.drop 0 (List.take (0 + (List.length x6)) (List.set x6 (0 + (Int.toNat x3)) x1))) _ h6
    obtain ⟨x7, x8⟩ := rh6
    try dsimp only at h
    obtain ⟨rh7, h7, h⟩ := bind_some h
    have ch7 := f30_ok F x2 x3 x1 _ h7
    obtain ⟨x9, x10, x11, x12⟩ := rh7
    try dsimp only at h
    obtain ⟨x13, h8, h⟩ := bind_some h
    try dsimp only at h
    obtain ⟨x17, h13, h⟩ := bind_some h
    have ch13 := f51_p1_ok F x6 x3 x1 x7 x9 x10 x11 x12 x13 x2 x4 x5 _ h13
    try dsimp only at h
    obtain ⟨x18, h14, h⟩ := bind_some h
    have ch14 := f48_ok F (List.drop 0 (List.take (0 + (List.length x6)) (List.set x6 (0 + (Int.toNat x3)) x1))) x3 _ h14
    try dsimp only at h
    obtain ⟨x19, h15, h⟩ := bind_some h
    have ch15 := f49_ok F (List.drop 0 (List.take (0 + (List.length x6)) (List.set x6 (0 + (Int.toNat x3)) x1))) x7 x3 _ h15
    try dsimp only at h
    by_cases h16 : (x12 == 0) = true
    · rw [if_pos h16] at h
      by_cases h17 : (x9 == x13) = true
      · rw [if_pos h17] at h
        by_cases h18 : (x10 == (w64 (x18 - x19))) = true
        · rw [if_pos h18] at h
          by_cases h19 : (x11 == (w64 (x17 - (w64 (x18 - x19))))) = true
          · rw [if_pos h19] at h
            obtain ⟨x20, h20, h⟩ := bind_some h
            try dsimp only at h
            obtain rfl := Option.some.inj h
            exact callOK cxOK cxW Try.func51 (by kernel_rfl) (f51_e0 x1 x2 x3 x4 x5 x6 x7 x8 x9 x10 x11 x12 x13 x17 x18 x19 x20) ⟨(by rw [h1]; rfl), ch2, h3, h4, h5, ch6, ch7, ⟨(at?_spec h8).1, x13, (at?_spec h8).2, rfl⟩, ch13, ch14, ch15, h16, h16, h16, h16, ⟨(at?_spec h8).1, x13, (at?_spec h8).2, rfl⟩, h16, h16, h16, h17, h17, h17, h17, h18, h18, h18, h18, h18, h18, h19, h19, h19, h19, ⟨(at?_spec h20).1, x20, (at?_spec h20).2, rfl⟩, h19, h19, h19, trivial⟩
          · rw [if_neg h19] at h
            have h19 := Bool.eq_false_iff.2 h19
            obtain rfl := Option.some.inj h
            exact callOK cxOK cxW Try.func51 (by kernel_rfl) (f51_e1 x1 x2 x3 x4 x5 x6 x7 x8 x9 x10 x11 x12 x13 x17 x18 x19) ⟨(by rw [h1]; rfl), ch2, h3, h4, h5, ch6, ch7, ⟨(at?_spec h8).1, x13, (at?_spec h8).2, rfl⟩, ch13, ch14, ch15, h16, h16, h16, h16, ⟨(at?_spec h8).1, x13, (at?_spec h8).2, rfl⟩, h16, h16, h16, h17, h17, h17, h17, h18, h18, h18, h18, h18, h18, h19, h19, h19, h19, h19, h19, h19, trivial⟩
        · rw [if_neg h18] at h
          have h18 := Bool.eq_false_iff.2 h18
          obtain rfl := Option.some.inj h
          exact callOK cxOK cxW Try.func51 (by kernel_rfl) (f51_e2 x1 x2 x3 x4 x5 x6 x7 x8 x9 x10 x11 x12 x13 x17 x18 x19) ⟨(by rw [h1]; rfl), ch2, h3, h4, h5, ch6, ch7, ⟨(at?_spec h8).1, x13, (at?_spec h8).2, rfl⟩, ch13, ch14, ch15, h16, h16, h16, h16, ⟨(at?_spec h8).1, x13, (at?_spec h8).2, rfl⟩, h16, h16, h16, h17, h17, h17, h17, h18, h18, h18, h18, h18, h18, rfl, rfl, rfl, rfl, rfl, rfl, rfl, trivial⟩
      · rw [if_neg h17] at h
        have h17 := Bool.eq_false_iff.2 h17
        obtain rfl := Option.some.inj h
        exact callOK cxOK cxW Try.func51 (by kernel_rfl) (f51_e3 x1 x2 x3 x4 x5 x6 x7 x8 x9 x10 x11 x12 x13 x17 x18 x19) ⟨(by rw [h1]; rfl), ch2, h3, h4, h5, ch6, ch7, ⟨(at?_spec h8).1, x13, (at?_spec h8).2, rfl⟩, ch13, ch14, ch15, h16, h16, h16, h16, ⟨(at?_spec h8).1, x13, (at?_spec h8).2, rfl⟩, h16, h16, h16, h17, h17, h17, h17, rfl, rfl, rfl, rfl, rfl, rfl, rfl, rfl, rfl, rfl, rfl, rfl, rfl, trivial⟩
    · rw [if_neg h16] at h
      have h16 := Bool.eq_false_iff.2 h16
      obtain rfl := Option.some.inj h
      exact callOK cxOK cxW Try.func51 (by kernel_rfl) (f51_e4 x1 x2 x3 x4 x5 x6 x7 x8 x9 x10 x11 x12 x13 x17 x18 x19) ⟨(by rw [h1]; rfl), ch2, h3, h4, h5, ch6, ch7, ⟨(at?_spec h8).1, x13, (at?_spec h8).2, rfl⟩, ch13, ch14, ch15, h16, h16, h16, h16, h16, h16, h16, rfl, rfl, rfl, rfl, rfl, rfl, rfl, rfl, rfl, rfl, rfl, rfl, rfl, rfl, rfl, rfl, rfl, trivial⟩
  · rw [if_neg h1] at h
    have h1 := Bool.eq_false_iff.2 h1
    obtain rfl := Option.some.inj h
    exact callOK cxOK cxW Try.func51 (by kernel_rfl) (f51_e5 x1 x2 x3 x4 x5) ⟨(by rw [h1]; rfl), trivial⟩

theorem f94_p2_ok (F : Nat) (rec : (List Int) → (List (List Int)) → Int → (List Int) → Bool → Int → Int → Option Bool) (hrec : ∀ (x1 : List Int) (x2 : List (List Int)) (x3 : Int) (x4 : List Int) (x5 : Bool) (x6 x7 : Int) (r : Bool), rec x1 x2 x3 x4 x5 x6 x7 = some r → f94_C x1 x2 x3 x4 x5 x6 x7 r) (x1 : List Int) (x2 : List (List Int)) (x3 : Int) (x4 : List Int) (x6 x7 : Int) : ∀ (k : Nat) (x12 : Int) (x13 : Bool) (r : Bool), f94_p2 F rec x1 x2 x3 x4 x6 x7 k x12 x13 = some r → f94_p2_P x1 x2 x3 x4 x6 x7 x12 x13 r
  | 0, _, _, _, h => by cases h
  | k + 1, x12, x13, r, h => by
    unfold f94_p2 at h
    by_cases h7 : (decide (x12 ≤ x7)) = true
    · rw [if_pos h7] at h
      obtain ⟨x14, h8, h⟩ := bind_some h
      have ch8 := f95_ok F x1 _ h8
      try dsimp only at h
      obtain ⟨h9, h⟩ := req_some h
      obtain ⟨x15, h10, h⟩ := bind_some h
      have ch10 := hrec (x14 ++ ([x12] : List Int)) x2 x3 x4 x13 x6 x7 _ h10
      try dsimp only at h
      exact Lp.again (gRun_ok cxOK (f94_p2_e0 x1 x2 x3 x4 x6 x7 x12 x13 x14 x15) ⟨h7, ch8, h9, (.inr (by simp)), rfl, ch10, trivial⟩) (f94_p2_ok F rec hrec x1 x2 x3 x4 x6 x7 k (w64 (x12 + 1)) x15 r h)
    · rw [if_neg h7] at h
      have h7 := Bool.eq_false_iff.2 h7
      obtain rfl := Option.some.inj h
      exact Lp.out (gRun_ok cxOK (f94_p2_e1 x1 x2 x3 x4 x6 x7 x12 x13) ⟨h7, trivial⟩) (by intro hh; cases hh)
theorem f94_b_ok (F : Nat) (rec : (List Int) → (List (List Int)) → Int → (List Int) → Bool → Int → Int → Option Bool) (hrec : ∀ (x1 : List Int) (x2 : List (List Int)) (x3 : Int) (x4 : List Int) (x5 : Bool) (x6 x7 : Int) (r : Bool), rec x1 x2 x3 x4 x5 x6 x7 = some r → f94_C x1 x2 x3 x4 x5 x6 x7 r) (x1 : List Int) (x2 : List (List Int)) (x3 : Int) (x4 : List Int) (x5 : Bool) (x6 x7 : Int) (r : Bool) (h : f94_b F rec x1 x2 x3 x4 x5 x6 x7 = some r) : f94_C x1 x2 x3 x4 x5 x6 x7 r := by
  unfold f94_b at h
  by_cases h1 : (((List.length x1 : Nat) : Int) == x6) = true
  · rw [if_pos h1] at h
    obtain ⟨x8, h2, h⟩ := bind_some h
    have ch2 := f51_ok F x1 x2 x3 x4 x5 _ h2
    try dsimp only at h
    obtain rfl := Option.some.inj h
    exact callOK cxOK cxW Try.func94 (by kernel_rfl) (f94_e0 x1 x2 x3 x4 x5 x6 x7 x8) ⟨h1, ch2, trivial⟩
  · rw [if_neg h1] at h
    have h1 := Bool.eq_false_iff.2 h1
    obtain ⟨x16, h11, h⟩ := bind_some h
    have ch11 := f94_p2_ok F rec hrec x1 x2 x3 x4 x6 x7 F 0 x5 _ h11
    try dsimp only at h
    obtain rfl := Option.some.inj h
    exact callOK cxOK cxW Try.func94 (by kernel_rfl) (f94_e1 x1 x2 x3 x4 x5 x6 x7 x16) ⟨h1, ch11, trivial⟩
theorem f94_ok (F : Nat) : ∀ (k : Nat) (x1 : List Int) (x2 : List (List Int)) (x3 : Int) (x4 : List Int) (x5 : Bool) (x6 x7 : Int) (r : Bool), f94 F k x1 x2 x3 x4 x5 x6 x7 = some r → f94_C x1 x2 x3 x4 x5 x6 x7 r
  | 0, _, _, _, _, _, _, _, _, h => by cases h
  | k + 1, x1, x2, x3, x4, x5, x6, x7, r, h => f94_b_ok F (f94 F k) (f94_ok F k) x1 x2 x3 x4 x5 x6 x7 r h

theorem f50_ok (F : Nat) (x1 x2 : Int) (x3 : List (List Int)) (x4 : Int) (x5 : List Int) (x6 : Bool) (r : Bool) (h : f50 F x1 x2 x3 x4 x5 x6 = some r) : f50_C x1 x2 x3 x4 x5 x6 r := by
  unfold f50 at h
  obtain ⟨x7, h1, h⟩ := bind_some h
  have ch1 := f94_ok F F ([] : List Int) x3 x4 x5 x6 x1 x2 _ h1
  try dsimp only at h
  obtain rfl := Option.some.inj h
  exact callOK cxOK cxW Try.func50 (by kernel_rfl) (f50_e0 x1 x2 x3 x4 x5 x6 x7) ⟨ch1, trivial⟩

theorem f10_p5_ok (F : Nat) (x8 x10 : List Int) (x12 x13 : Int) (x5 : List (List Int)) (x4 : Int) (x6 : List Int) (r : Int) (h : f10_p5 F x8 x10 x12 x13 x5 x4 x6 = some r) : f10_p5_P x8 x10 x12 x13 x5 x4 x6 r := by
  unfold f10_p5 at h
  by_cases h12 : (decide (x13 ≥ 0)) = true
  · rw [if_pos h12] at h
    obtain ⟨x14, h13, h⟩ := bind_some h
    try dsimp only at h
    obtain ⟨x15, h14, h⟩ := bind_some h
    try dsimp only at h
    obtain rfl := Option.some.inj h
    exact gRun_ok cxOK (f10_p5_e0 x4 x5 x6 x8 x10 x12 x13 x14 x15) ⟨h12, ⟨(at?_spec h13).1, x14, (at?_spec h13).2, rfl⟩, ⟨(at?_spec h14).1, x15, (at?_spec h14).2, rfl⟩, trivial⟩
  · rw [if_neg h12] at h
    have h12 := Bool.eq_false_iff.2 h12
    obtain rfl := Option.some.inj h
    exact gRun_ok cxOK (f10_p5_e1 x4 x5 x6 x8 x10 x12 x13) ⟨h12, trivial⟩
theorem f10_p2_ok (F : Nat) (x8 x10 : List Int) (x5 : List (List Int)) (x4 : Int) (x6 : List Int) : ∀ (k : Nat) (x12 : Int) (r : f10_p2_R), f10_p2 F x8 x10 x5 x4 x6 k x12 = some r → f10_p2_P x8 x10 x5 x4 x6 x12 r
  | 0, _, _, h => by cases h
  | k + 1, x12, r, h => by
    unfold f10_p2 at h
    by_cases h10 : (decide (x12 < ((List.length x10 : Nat) : Int))) = true
    · rw [if_pos h10] at h
      obtain ⟨x13, h11, h⟩ := bind_some h
      try dsimp only at h
      obtain ⟨x16, h15, h⟩ := bind_some h
      have ch15 := f10_p5_ok F x8 x10 x12 x13 x5 x4 x6 _ h15
      try dsimp only at h
      obtain ⟨x17, h16, h⟩ := bind_some h
      have ch16 := f48_ok F x5 x12 _ h16
      try dsimp only at h
      obtain ⟨x18, h17, h⟩ := bind_some h
      have ch17 := f49_ok F x5 x10 x12 _ h17
      try dsimp only at h
      obtain ⟨x19, h18, h⟩ := bind_some h
      try dsimp only at h
      by_cases h19 : (x19 != (w64 (x17 - x18))) = true
      · rw [if_pos h19] at h
        obtain rfl := Option.some.inj h
        exact Lp.out (gRun_ok cxOK (f10_p2_e0 x4 x5 x6 x8 x10 x12 x13 x16 x17 x18 x19) ⟨h10, ⟨(at?_spec h11).1, x13, (at?_spec h11).2, rfl⟩, ch15, ch16, ch17, ⟨(at?_spec h18).1, x19, (at?_spec h18).2, rfl⟩, h19, h19, h19, h19, h19, h19, h19, h19, h19, rfl, rfl, rfl, rfl, rfl, rfl, rfl, rfl, trivial⟩) (by intro hh; cases hh)
      · rw [if_neg h19] at h
        have h19 := Bool.eq_false_iff.2 h19
        obtain ⟨x20, h20, h⟩ := bind_some h
        try dsimp only at h
        by_cases h21 : (x20 != (w64 (x16 - (w64 (x17 - x18))))) = true
        · rw [if_pos h21] at h
          obtain rfl := Option.some.inj h
          exact Lp.out (gRun_ok cxOK (f10_p2_e1 x4 x5 x6 x8 x10 x12 x13 x16 x17 x18 x19 x20) ⟨h10, ⟨(at?_spec h11).1, x13, (at?_spec h11).2, rfl⟩, ch15, ch16, ch17, ⟨(at?_spec h18).1, x19, (at?_spec h18).2, rfl⟩, h19, h19, h19, ⟨(at?_spec h20).1, x20, (at?_spec h20).2, rfl⟩, h19, h19, h19, h19, h19, h19, h21, h21, h21, rfl, rfl, rfl, rfl, rfl, trivial⟩) (by intro hh; cases hh)
        · rw [if_neg h21] at h
          have h21 := Bool.eq_false_iff.2 h21
          by_cases h22 : (decide ((w64 (x17 - x18)) < 0)) = true
          · rw [if_pos h22] at h
            obtain rfl := Option.some.inj h
            exact Lp.out (gRun_ok cxOK (f10_p2_e2 x4 x5 x6 x8 x10 x12 x13 x16 x17 x18 x19 x20) ⟨h10, ⟨(at?_spec h11).1, x13, (at?_spec h11).2, rfl⟩, ch15, ch16, ch17, ⟨(at?_spec h18).1, x19, (at?_spec h18).2, rfl⟩, h19, h19, h19, ⟨(at?_spec h20).1, x20, (at?_spec h20).2, rfl⟩, h19, h19, h19, h19, h19, h19, h21, h21, h21, h22, h22, h22, h22, rfl, trivial⟩) (by intro hh; cases hh)
          · rw [if_neg h22] at h
            have h22 := Bool.eq_false_iff.2 h22
            by_cases h23 : (decide ((w64 (x17 - x18)) > x16)) = true
            · rw [if_pos h23] at h
              obtain rfl := Option.some.inj h
              exact Lp.out (gRun_ok cxOK (f10_p2_e3 x4 x5 x6 x8 x10 x12 x13 x16 x17 x18 x19 x20) ⟨h10, ⟨(at?_spec h11).1, x13, (at?_spec h11).2, rfl⟩, ch15, ch16, ch17, ⟨(at?_spec h18).1, x19, (at?_spec h18).2, rfl⟩, h19, h19, h19, ⟨(at?_spec h20).1, x20, (at?_spec h20).2, rfl⟩, h19, h19, h19, h19, h19, h19, h21, h21, h21, h22, h22, h22, h22, h23, trivial⟩) (by intro hh; cases hh)
            · rw [if_neg h23] at h
              have h23 := Bool.eq_false_iff.2 h23
              exact Lp.again (gRun_ok cxOK (f10_p2_e4 x4 x5 x6 x8 x10 x12 x13 x16 x17 x18 x19 x20) ⟨h10, ⟨(at?_spec h11).1, x13, (at?_spec h11).2, rfl⟩, ch15, ch16, ch17, ⟨(at?_spec h18).1, x19, (at?_spec h18).2, rfl⟩, h19, h19, h19, ⟨(at?_spec h20).1, x20, (at?_spec h20).2, rfl⟩, h19, h19, h19, h19, h19, h19, h21, h21, h21, h22, h22, h22, h22, h23, trivial⟩) (f10_p2_ok F x8 x10 x5 x4 x6 k (w64 (x12 + 1)) r h)
    · rw [if_neg h10] at h
      have h10 := Bool.eq_false_iff.2 h10
      obtain rfl := Option.some.inj h
      exact Lp.out (gRun_ok cxOK (f10_p2_e5 x4 x5 x6 x8 x10 x12) ⟨h10, trivial⟩) (by intro hh; cases hh)
theorem f10_ok (F : Nat) (x1 x2 : Int) (x3 : List Int) (x4 : Int) (r : Bool) (h : f10 F x1 x2 x3 x4 = some r) : f10_C x1 x2 x3 x4 r := by
  unfold f10 at h
  obtain ⟨x5, h1, h⟩ := bind_some h
  have ch1 := f43_ok F x1 x2 x3 3 3 3 _ h1
  try dsimp only at h
  obtain ⟨h2, h⟩ := req_some h
  obtain ⟨rh3, h3, h⟩ := bind_some h
  have ch3 := f28_ok F x5 _ h3
  obtain ⟨x6, x7⟩ := rh3
  try dsimp only at h
  obtain ⟨rh4, h4, h⟩ := bind_some h
  have ch4 := f26_ok F x5 _ h4
  obtain ⟨x8, x9⟩ := rh4
  try dsimp only at h
  by_cases h5 : (x7 != 0) = true
  · rw [if_pos h5] at h
    cases h
  · rw [if_neg h5] at h
    have h5 := Bool.eq_false_iff.2 h5
    by_cases h6 : (x9 != 0) = true
    · rw [if_pos h6] at h
      cases h
    · rw [if_neg h6] at h
      have h6 := Bool.eq_false_iff.2 h6
      by_cases h7 : (((List.length x6 : Nat) : Int) != ((List.length x5 : Nat) : Int)) = true
      · rw [if_pos h7] at h
        cases h
      · rw [if_neg h7] at h
        have h7 := Bool.eq_false_iff.2 h7
        by_cases h8 : (((List.length x8 : Nat) : Int) != ((List.length x5 : Nat) : Int)) = true
        · rw [if_pos h8] at h
          cases h
        · rw [if_neg h8] at h
          have h8 := Bool.eq_false_iff.2 h8
          obtain ⟨rh9, h9, h⟩ := bind_some h
          have ch9 := f47_ok F x5 _ h9
          obtain ⟨x10, x11⟩ := rh9
          try dsimp only at h
          obtain ⟨rh24, h24, h⟩ := bind_some h
          have ch24 := f10_p2_ok F x8 x10 x5 x4 x6 F 0 _ h24
          cases rh24 with
          | c0 =>
            try dsimp only at h
            cases h
          | c1 =>
            try dsimp only at h
            obtain ⟨x21, h25, h⟩ := bind_some h
            try dsimp only at h
            obtain ⟨x22, h26, h⟩ := bind_some h
            have ch26 := f50_ok F ((List.length x21 : Nat) : Int) 3 x5 (Int.tmod (w64 (x4)) ((List.length x5 : Nat) : Int)) x6 true _ h26
            try dsimp only at h
            by_cases h27 : x22 = true
            · rw [if_pos h27] at h
              obtain ⟨x23, h28, h⟩ := bind_some h
              have ch28 := f16_ok F _ h28
              try dsimp only at h
              obtain rfl := Option.some.inj h
              exact callOK cxOK cxW Try.func10 (by kernel_rfl) (f10_e0 x1 x2 x3 x4 x5 x6 x7 x8 x9 x10 x11 x21 x22 x23) ⟨ch1, h2, ch3, ch4, h5, h5, h5, h6, h6, h6, h6, h6, h6, h7, h7, h7, h7, h7, h7, h8, ch9, ch24, ⟨(at?_spec h25).1, x21, (at?_spec h25).2, rfl⟩, ch26, h27, ch28, h27, trivial⟩
            · rw [if_neg h27] at h
              have h27 := Bool.eq_false_iff.2 h27
              cases h

end Go.Gh.Sale
