/- Sale11F1: printed by wip/tool/gx.py -/
import Derived.Test.YtdbaljbhnpchjaaSale11F0
namespace Go.Gh.Sale
set_option linter.unusedVariables false
set_option linter.unusedSimpArgs false
open Go.Proofs

theorem f97_2_p5_ok (F : Nat) (rec : (List Int) → (List (List Int)) → Int → (List Int) → Int → Int → Int → Option ((List Int) × Int)) (hrec : ∀ (x1 : List Int) (x2 : List (List Int)) (x3 : Int) (x4 : List Int) (x5 x6 x7 : Int) (r : (List Int) × Int), rec x1 x2 x3 x4 x5 x6 x7 = some r → f97_2_C x1 x2 x3 x4 x5 x6 x7 r) (x1 : List Int) (x14 : Int) (x20 : Bool) (x2 : List (List Int)) (x3 : Int) (x15 : List Int) (x16 x6 x7 : Int) (r : (List Int) × Int) (h : f97_2_p5 F rec x1 x14 x20 x2 x3 x15 x16 x6 x7 = some r) : f97_2_p5_P x1 x14 x20 x2 x3 x15 x16 x6 x7 r := by
  unfold f97_2_p5 at h
  by_cases h14 : x20 = true
  · rw [if_pos h14] at h
    obtain rfl := Option.some.inj h
    exact gRun_ok cxOK (f97_2_p5_e0 x1 x2 x3 x6 x7 x14 x15 x16 x20) ⟨(by rw [h14]; rfl), trivial⟩
  · rw [if_neg h14] at h
    have h14 := Bool.eq_false_iff.2 h14
    obtain ⟨x21, h15, h⟩ := bind_some h
    have ch15 := f95_ok F x1 _ h15
    try dsimp only at h
    obtain ⟨h16, h⟩ := req_some h
    obtain ⟨rh17, h17, h⟩ := bind_some h
    have ch17 := hrec (x21 ++ ([x14] : List Int)) x2 x3 x15 x16 x6 x7 _ h17
    obtain ⟨x22, x23⟩ := rh17
    try dsimp only at h
    obtain rfl := Option.some.inj h
    exact gRun_ok cxOK (f97_2_p5_e1 x1 x2 x3 x6 x7 x14 x15 x16 x20 x21 x22 x23) ⟨(by rw [h14]; rfl), ch15, h16, (.inr (by simp)), rfl, ch17, trivial⟩
theorem f97_2_p2_ok (F : Nat) (rec : (List Int) → (List (List Int)) → Int → (List Int) → Int → Int → Int → Option ((List Int) × Int)) (hrec : ∀ (x1 : List Int) (x2 : List (List Int)) (x3 : Int) (x4 : List Int) (x5 x6 x7 : Int) (r : (List Int) × Int), rec x1 x2 x3 x4 x5 x6 x7 = some r → f97_2_C x1 x2 x3 x4 x5 x6 x7 r) (x1 : List Int) (x2 : List (List Int)) (x3 x6 x7 : Int) : ∀ (k : Nat) (x14 : Int) (x15 : List Int) (x16 : Int) (r : (List Int) × Int), f97_2_p2 F rec x1 x2 x3 x6 x7 k x14 x15 x16 = some r → f97_2_p2_P x1 x2 x3 x6 x7 x14 x15 x16 r
  | 0, _, _, _, _, h => by cases h
  | k + 1, x14, x15, x16, r, h => by
    unfold f97_2_p2 at h
    by_cases h8 : (decide (x14 < x7)) = true
    · rw [if_pos h8] at h
      by_cases h9 : (decide (x14 < 0)) = true
      · rw [if_pos h9] at h
        obtain ⟨x17, h10, h⟩ := bind_some h
        have ch10 := f95_ok F x1 _ h10
        try dsimp only at h
        obtain ⟨h11, h⟩ := req_some h
        obtain ⟨rh12, h12, h⟩ := bind_some h
        have ch12 := hrec (x17 ++ ([x14] : List Int)) x2 x3 x15 x16 x6 x7 _ h12
        obtain ⟨x18, x19⟩ := rh12
        try dsimp only at h
        exact Lp.again (gRun_ok cxOK (f97_2_p2_e0 x1 x2 x3 x6 x7 x14 x15 x16 x17 x18 x19) ⟨h8, h9, h9, h9, h9, h9, rfl, ch10, h11, (.inr (by simp)), rfl, ch12, trivial⟩) (f97_2_p2_ok F rec hrec x1 x2 x3 x6 x7 k (w64 (x14 + 1)) x18 x19 r h)
      · rw [if_neg h9] at h
        have h9 := Bool.eq_false_iff.2 h9
        obtain ⟨x20, h13, h⟩ := bind_some h
        have ch13 := f53_ok F x1 x14 _ h13
        try dsimp only at h
        obtain ⟨rh18, h18, h⟩ := bind_some h
        have ch18 := f97_2_p5_ok F rec hrec x1 x14 x20 x2 x3 x15 x16 x6 x7 _ h18
        obtain ⟨x24, x25⟩ := rh18
        try dsimp only at h
        exact Lp.again (gRun_ok cxOK (f97_2_p2_e1 x1 x2 x3 x6 x7 x14 x15 x16 x20 x24 x25) ⟨h8, h9, h9, h9, ch13, h9, h9, ch18, trivial⟩) (f97_2_p2_ok F rec hrec x1 x2 x3 x6 x7 k (w64 (x14 + 1)) x24 x25 r h)
    · rw [if_neg h8] at h
      have h8 := Bool.eq_false_iff.2 h8
      obtain rfl := Option.some.inj h
      exact Lp.out (gRun_ok cxOK (f97_2_p2_e2 x1 x2 x3 x6 x7 x14 x15 x16) ⟨h8, trivial⟩) (by intro hh; cases hh)
theorem f97_2_b_ok (F : Nat) (rec : (List Int) → (List (List Int)) → Int → (List Int) → Int → Int → Int → Option ((List Int) × Int)) (hrec : ∀ (x1 : List Int) (x2 : List (List Int)) (x3 : Int) (x4 : List Int) (x5 x6 x7 : Int) (r : (List Int) × Int), rec x1 x2 x3 x4 x5 x6 x7 = some r → f97_2_C x1 x2 x3 x4 x5 x6 x7 r) (x1 : List Int) (x2 : List (List Int)) (x3 : Int) (x4 : List Int) (x5 x6 x7 : Int) (r : (List Int) × Int) (h : f97_2_b F rec x1 x2 x3 x4 x5 x6 x7 = some r) : f97_2_C x1 x2 x3 x4 x5 x6 x7 r := by
  unfold f97_2_b at h
  by_cases h1 : (((List.length x1 : Nat) : Int) == x6) = true
  · rw [if_pos h1] at h
    obtain ⟨rh2, h2, h⟩ := bind_some h
    have ch2 := f92_1_ok F x1 x2 x3 x4 x5 _ h2
    obtain ⟨x8, x9⟩ := rh2
    try dsimp only at h
    obtain rfl := Option.some.inj h
    exact callOK cxOK cxW Try.func97 (by kernel_rfl) (f97_2_e0 x1 x2 x3 x4 x5 x6 x7 x8 x9) ⟨h1, ch2, trivial⟩
  · rw [if_neg h1] at h
    have h1 := Bool.eq_false_iff.2 h1
    obtain ⟨rh19, h19, h⟩ := bind_some h
    have ch19 := f97_2_p2_ok F rec hrec x1 x2 x3 x6 x7 F (-1) x4 x5 _ h19
    obtain ⟨x26, x27⟩ := rh19
    try dsimp only at h
    obtain rfl := Option.some.inj h
    exact callOK cxOK cxW Try.func97 (by kernel_rfl) (f97_2_e1 x1 x2 x3 x4 x5 x6 x7 x26 x27) ⟨h1, ch19, trivial⟩
theorem f97_2_ok (F : Nat) : ∀ (k : Nat) (x1 : List Int) (x2 : List (List Int)) (x3 : Int) (x4 : List Int) (x5 x6 x7 : Int) (r : (List Int) × Int), f97_2 F k x1 x2 x3 x4 x5 x6 x7 = some r → f97_2_C x1 x2 x3 x4 x5 x6 x7 r
  | 0, _, _, _, _, _, _, _, _, h => by cases h
  | k + 1, x1, x2, x3, x4, x5, x6, x7, r, h => f97_2_b_ok F (f97_2 F k) (f97_2_ok F k) x1 x2 x3 x4 x5 x6 x7 r h

theorem f97_1_p5_ok (F : Nat) (x1 : List Int) (x19 : Int) (x25 : Bool) (x2 : List (List Int)) (x3 : Int) (x20 : List Int) (x21 x5 x6 : Int) (r : (List Int) × Int) (h : f97_1_p5 F x1 x19 x25 x2 x3 x20 x21 x5 x6 = some r) : f97_1_p5_P x1 x19 x25 x2 x3 x20 x21 x5 x6 r := by
  unfold f97_1_p5 at h
  by_cases h19 : x25 = true
  · rw [if_pos h19] at h
    obtain rfl := Option.some.inj h
    exact gRun_ok cxOK (f97_1_p5_e0 x1 x2 x3 x5 x6 x19 x20 x21 x25) ⟨(by rw [h19]; rfl), trivial⟩
  · rw [if_neg h19] at h
    have h19 := Bool.eq_false_iff.2 h19
    obtain ⟨x26, h20, h⟩ := bind_some h
    have ch20 := f95_ok F x1 _ h20
    try dsimp only at h
    obtain ⟨h21, h⟩ := req_some h
    obtain ⟨rh22, h22, h⟩ := bind_some h
    have ch22 := f97_2_ok F F (x26 ++ ([x19] : List Int)) x2 x3 x20 x21 x5 x6 _ h22
    obtain ⟨x27, x28⟩ := rh22
    try dsimp only at h
    obtain rfl := Option.some.inj h
    exact gRun_ok cxOK (f97_1_p5_e1 x1 x2 x3 x5 x6 x19 x20 x21 x25 x26 x27 x28) ⟨(by rw [h19]; rfl), ch20, h21, (.inr (by simp)), rfl, ch22, trivial⟩
theorem f97_1_p2_ok (F : Nat) (x1 : List Int) (x2 : List (List Int)) (x3 x5 x6 : Int) : ∀ (k : Nat) (x19 : Int) (x20 : List Int) (x21 : Int) (r : (List Int) × Int), f97_1_p2 F x1 x2 x3 x5 x6 k x19 x20 x21 = some r → f97_1_p2_P x1 x2 x3 x5 x6 x19 x20 x21 r
  | 0, _, _, _, _, h => by cases h
  | k + 1, x19, x20, x21, r, h => by
    unfold f97_1_p2 at h
    by_cases h13 : (decide (x19 < x6)) = true
    · rw [if_pos h13] at h
      by_cases h14 : (decide (x19 < 0)) = true
      · rw [if_pos h14] at h
        obtain ⟨x22, h15, h⟩ := bind_some h
        have ch15 := f95_ok F x1 _ h15
        try dsimp only at h
        obtain ⟨h16, h⟩ := req_some h
        obtain ⟨rh17, h17, h⟩ := bind_some h
        have ch17 := f97_2_ok F F (x22 ++ ([x19] : List Int)) x2 x3 x20 x21 x5 x6 _ h17
        obtain ⟨x23, x24⟩ := rh17
        try dsimp only at h
        exact Lp.again (gRun_ok cxOK (f97_1_p2_e0 x1 x2 x3 x5 x6 x19 x20 x21 x22 x23 x24) ⟨h13, h14, h14, h14, h14, h14, rfl, ch15, h16, (.inr (by simp)), rfl, ch17, trivial⟩) (f97_1_p2_ok F x1 x2 x3 x5 x6 k (w64 (x19 + 1)) x23 x24 r h)
      · rw [if_neg h14] at h
        have h14 := Bool.eq_false_iff.2 h14
        obtain ⟨x25, h18, h⟩ := bind_some h
        have ch18 := f53_ok F x1 x19 _ h18
        try dsimp only at h
        obtain ⟨rh23, h23, h⟩ := bind_some h
        have ch23 := f97_1_p5_ok F x1 x19 x25 x2 x3 x20 x21 x5 x6 _ h23
        obtain ⟨x29, x30⟩ := rh23
        try dsimp only at h
        exact Lp.again (gRun_ok cxOK (f97_1_p2_e1 x1 x2 x3 x5 x6 x19 x20 x21 x25 x29 x30) ⟨h13, h14, h14, h14, ch18, h14, h14, ch23, trivial⟩) (f97_1_p2_ok F x1 x2 x3 x5 x6 k (w64 (x19 + 1)) x29 x30 r h)
    · rw [if_neg h13] at h
      have h13 := Bool.eq_false_iff.2 h13
      obtain rfl := Option.some.inj h
      exact Lp.out (gRun_ok cxOK (f97_1_p2_e2 x1 x2 x3 x5 x6 x19 x20 x21) ⟨h13, trivial⟩) (by intro hh; cases hh)
theorem f97_1_b_ok (F : Nat) (rec : (List Int) → (List (List Int)) → Int → Int → Int → Int → Option f97_1_R) (hrec : ∀ (x1 : List Int) (x2 : List (List Int)) (x3 x4 : Int) (x5 x6 : Int) (r : f97_1_R), rec x1 x2 x3 x4 x5 x6 = some r → f97_1_C x1 x2 x3 x4 x5 x6 r) (x1 : List Int) (x2 : List (List Int)) (x3 x4 : Int) (x5 x6 : Int) (r : f97_1_R) (h : f97_1_b F rec x1 x2 x3 x4 x5 x6 = some r) : f97_1_C x1 x2 x3 x4 x5 x6 r := by
  unfold f97_1_b at h
  by_cases h1 : (((List.length x1 : Nat) : Int) == x5) = true
  · rw [if_pos h1] at h
    obtain ⟨rh2, h2, h⟩ := bind_some h
    have ch2 := f92_ok F x1 x2 x3 x4 _ h2
    cases rh2 with
    | c0 x7 x8 =>
      try dsimp only at h
      obtain rfl := Option.some.inj h
      exact callOK cxOK cxW Try.func97 (by kernel_rfl) (f97_1_e0 x1 x2 x3 x4 x5 x6 x7 x8) ⟨h1, ch2, trivial⟩
    | c1 x9 =>
      try dsimp only at h
      obtain rfl := Option.some.inj h
      exact callOK cxOK cxW Try.func97 (by kernel_rfl) (f97_1_e1 x1 x2 x3 x4 x5 x6 x9) ⟨h1, ch2, trivial⟩
  · rw [if_neg h1] at h
    have h1 := Bool.eq_false_iff.2 h1
    obtain ⟨rh24, h24, h⟩ := bind_some h
    have ch24 := f97_1_p2_ok F x1 x2 x3 x5 x6 F (-1) ([] : List Int) x4 _ h24
    obtain ⟨x31, x32⟩ := rh24
    try dsimp only at h
    obtain rfl := Option.some.inj h
    exact callOK cxOK cxW Try.func97 (by kernel_rfl) (f97_1_e2 x1 x2 x3 x4 x5 x6 x31 x32) ⟨h1, ch24, trivial⟩
theorem f97_1_ok (F : Nat) : ∀ (k : Nat) (x1 : List Int) (x2 : List (List Int)) (x3 x4 : Int) (x5 x6 : Int) (r : f97_1_R), f97_1 F k x1 x2 x3 x4 x5 x6 = some r → f97_1_C x1 x2 x3 x4 x5 x6 r
  | 0, _, _, _, _, _, _, _, h => by cases h
  | k + 1, x1, x2, x3, x4, x5, x6, r, h => f97_1_b_ok F (f97_1 F k) (f97_1_ok F k) x1 x2 x3 x4 x5 x6 r h

theorem f54_1_ok (F : Nat) (x1 x2 : Int) (x3 : List (List Int)) (x4 x5 : Int) (r : f54_1_R) (h : f54_1 F x1 x2 x3 x4 x5 = some r) : f54_1_C x1 x2 x3 x4 x5 r := by
  unfold f54_1 at h
  obtain ⟨rh1, h1, h⟩ := bind_some h
  have ch1 := f97_1_ok F F ([] : List Int) x3 x4 x5 x1 x2 _ h1
  cases rh1 with
  | c0 x6 x7 =>
    try dsimp only at h
    obtain rfl := Option.some.inj h
    exact callOK cxOK cxW Try.func54 (by kernel_rfl) (f54_1_e0 x1 x2 x3 x4 x5 x6 x7) ⟨ch1, trivial⟩
  | c1 x8 =>
    try dsimp only at h
    obtain rfl := Option.some.inj h
    exact callOK cxOK cxW Try.func54 (by kernel_rfl) (f54_1_e1 x1 x2 x3 x4 x5 x8) ⟨ch1, trivial⟩

theorem f47_ok (F : Nat) (x1 : List (List Int)) (r : (List Int) × Int) (h : f47 F x1 = some r) : f47_C x1 r := by
  unfold f47 at h
  obtain ⟨x2, h1, h⟩ := bind_some h
  have ch1 := f48_ok F x1 (-1) _ h1
  try dsimp only at h
  obtain ⟨x3, h2, h⟩ := bind_some h
  try dsimp only at h
  obtain ⟨rh3, h3, h⟩ := bind_some h
  have ch3 := f54_1_ok F ((List.length x1 : Nat) : Int) ((List.length x3 : Nat) : Int) x1 x2 0 _ h3
  cases rh3 with
  | c0 x4 x5 =>
    try dsimp only at h
    obtain rfl := Option.some.inj h
    exact callOK cxOK cxW Try.func47 (by kernel_rfl) (f47_e0 x1 x2 x3 x4 x5) ⟨ch1, ⟨(at?_spec h2).1, x3, (at?_spec h2).2, rfl⟩, ch3, trivial⟩
  | c1 x6 =>
    try dsimp only at h
    obtain rfl := Option.some.inj h
    exact callOK cxOK cxW Try.func47 (by kernel_rfl) (f47_e1 x1 x2 x3 x6) ⟨ch1, ⟨(at?_spec h2).1, x3, (at?_spec h2).2, rfl⟩, ch3, trivial⟩

theorem f11_p2_ok (F : Nat) (x5 : List (List Int)) (x6 x4 : List Int) : ∀ (k : Nat) (x18 : Bool) (x19 : Int) (x17 : List Int) (r : Bool × (List Int)), f11_p2 F x5 x6 x4 k x18 x19 x17 = some r → f11_p2_P x5 x6 x4 x18 x19 x17 r
  | 0, _, _, _, _, h => by cases h
  | k + 1, x18, x19, x17, r, h => by
    unfold f11_p2 at h
    by_cases h17 : (decide (x19 < ((List.length x5 : Nat) : Int))) = true
    · rw [if_pos h17] at h
      obtain ⟨h18, h⟩ := req_some h
      obtain ⟨x20, h19, h⟩ := bind_some h
      try dsimp only at h
      obtain ⟨x21, h20, h⟩ := bind_some h
      try dsimp only at h
      obtain ⟨h21, h⟩ := req_some h
      by_cases h22 : x18 = true
      · rw [if_pos h22] at h
        obtain ⟨h23, h⟩ := req_some h
        exact Lp.again (gRun_ok cxOK (f11_p2_e0 x4 x5 x6 x17 x18 x19 x20 x21) ⟨h17, h18, ⟨x20, h19, rfl⟩, ⟨(at?_spec h20).1, x21, (at?_spec h20).2, rfl⟩, h21, h22, h22, h22, h22, h22, h23, rfl, trivial⟩) (f11_p2_ok F x5 x6 x4 k true (w64 (x19 + 1)) (x17 ++ ([(w64 ((Int.tmod (w64 (x20)) (w64 (((List.length x21 : Nat) : Int) + 1))) - 1))] : List Int)) r h)
      · rw [if_neg h22] at h
        have h22 := Bool.eq_false_iff.2 h22
        by_cases h24 : (decide ((w64 ((Int.tmod (w64 (x20)) (w64 (((List.length x21 : Nat) : Int) + 1))) - 1)) ≥ 0)) = true
        · rw [if_pos h24] at h
          obtain ⟨x22, h25, h⟩ := bind_some h
          have ch25 := f53_ok F (List.drop 0 (List.take (0 + (List.length x17)) x17)) (w64 ((Int.tmod (w64 (x20)) (w64 (((List.length x21 : Nat) : Int) + 1))) - 1)) _ h25
          try dsimp only at h
          obtain ⟨h26, h⟩ := req_some h
          exact Lp.again (gRun_ok cxOK (f11_p2_e1 x4 x5 x6 x17 x18 x19 x20 x21 x22) ⟨h17, h18, ⟨x20, h19, rfl⟩, ⟨(at?_spec h20).1, x21, (at?_spec h20).2, rfl⟩, h21, h22, h22, h22, h24, h24, h24, ch25, (Nat.le_of_eq (Nat.zero_add _)), h22, h24, h22, h26, rfl, trivial⟩) (f11_p2_ok F x5 x6 x4 k x22 (w64 (x19 + 1)) (x17 ++ ([(w64 ((Int.tmod (w64 (x20)) (w64 (((List.length x21 : Nat) : Int) + 1))) - 1))] : List Int)) r h)
        · rw [if_neg h24] at h
          have h24 := Bool.eq_false_iff.2 h24
          obtain ⟨h27, h⟩ := req_some h
          exact Lp.again (gRun_ok cxOK (f11_p2_e2 x4 x5 x6 x17 x18 x19 x20 x21) ⟨h17, h18, ⟨x20, h19, rfl⟩, ⟨(at?_spec h20).1, x21, (at?_spec h20).2, rfl⟩, h21, h22, h22, h22, h24, h24, h24, h22, h24, h22, h27, rfl, trivial⟩) (f11_p2_ok F x5 x6 x4 k false (w64 (x19 + 1)) (x17 ++ ([(w64 ((Int.tmod (w64 (x20)) (w64 (((List.length x21 : Nat) : Int) + 1))) - 1))] : List Int)) r h)
    · rw [if_neg h17] at h
      have h17 := Bool.eq_false_iff.2 h17
      obtain rfl := Option.some.inj h
      exact Lp.out (gRun_ok cxOK (f11_p2_e3 x4 x5 x6 x17 x18 x19) ⟨h17, trivial⟩) (by intro hh; cases hh)
theorem f11_ok (F : Nat) (x1 x2 : Int) (x3 x4 : List Int) (r : Bool) (h : f11 F x1 x2 x3 x4 = some r) : f11_C x1 x2 x3 x4 r := by
  unfold f11 at h
  obtain ⟨x5, h1, h⟩ := bind_some h
  have ch1 := f43_ok F x1 x2 x3 4 4 9 _ h1
  try dsimp only at h
  obtain ⟨rh2, h2, h⟩ := bind_some h
  have ch2 := f47_ok F x5 _ h2
  obtain ⟨x6, x7⟩ := rh2
  try dsimp only at h
  obtain ⟨rh3, h3, h⟩ := bind_some h
  have ch3 := f17_ok F x5 _ h3
  obtain ⟨x8, x9⟩ := rh3
  try dsimp only at h
  obtain ⟨rh4, h4, h⟩ := bind_some h
  have ch4 := f19_ok F x5 _ h4
  obtain ⟨x10, x11⟩ := rh4
  try dsimp only at h
  by_cases h5 : (x9 != 0) = true
  · rw [if_pos h5] at h
    cases h
  · rw [if_neg h5] at h
    have h5 := Bool.eq_false_iff.2 h5
    by_cases h6 : (x11 != 0) = true
    · rw [if_pos h6] at h
      cases h
    · rw [if_neg h6] at h
      have h6 := Bool.eq_false_iff.2 h6
      obtain ⟨x12, h7, h⟩ := bind_some h
      have ch7 := f23_ok F x8 x6 _ h7
      try dsimp only at h
      by_cases h8 : x12 = true
      · rw [if_pos h8] at h
        by_cases h9 : (x10 != x7) = true
        · rw [if_pos h9] at h
          cases h
        · rw [if_neg h9] at h
          have h9 := Bool.eq_false_iff.2 h9
          obtain ⟨rh28, h28, h⟩ := bind_some h
          have ch28 := f11_p2_ok F x5 x6 x4 F false 0 ([] : List Int) _ h28
          obtain ⟨x23, x24⟩ := rh28
          try dsimp only at h
          obtain ⟨rh29, h29, h⟩ := bind_some h
          have ch29 := f21_ok F x5 (List.drop 0 (List.take (0 + (List.length x24)) x24)) _ h29
          obtain ⟨x25, x26⟩ := rh29
          try dsimp only at h
          by_cases h30 : x23 = true
          · rw [if_pos h30] at h
            by_cases h31 : (x26 == 6) = true
            · rw [if_pos h31] at h
              by_cases h32 : (x25 == 0) = true
              · rw [if_pos h32] at h
                obtain ⟨x27, h33, h⟩ := bind_some h
                have ch33 := f16_ok F _ h33
                try dsimp only at h
                obtain rfl := Option.some.inj h
                exact callOK cxOK cxW Try.func11 (by kernel_rfl) (f11_e0 x1 x2 x3 x4 x5 x6 x7 x8 x9 x10 x11 x12 x23 x24 x25 x26 x27) ⟨ch1, ch2, ch3, ch4, h5, h5, h5, h6, h6, h6, ch7, h6, h6, (by rw [h8]; rfl), (by rw [h8]; rfl), (by rw [h8]; rfl), (by rw [h8]; rfl), h9, ch28, ch29, (Nat.le_of_eq (Nat.zero_add _)), h30, h31, h31, h31, h32, ch33, h32, trivial⟩
              · rw [if_neg h32] at h
                have h32 := Bool.eq_false_iff.2 h32
                cases h
            · rw [if_neg h31] at h
              have h31 := Bool.eq_false_iff.2 h31
              cases h
          · rw [if_neg h30] at h
            have h30 := Bool.eq_false_iff.2 h30
            by_cases h34 : (x26 == 0) = true
            · rw [if_pos h34] at h
              obtain ⟨x28, h35, h⟩ := bind_some h
              have ch35 := f49_ok F x5 (List.drop 0 (List.take (0 + (List.length x24)) x24)) (-1) _ h35
              try dsimp only at h
              by_cases h36 : (x25 == x28) = true
              · rw [if_pos h36] at h
                obtain ⟨x29, h37, h⟩ := bind_some h
                have ch37 := f49_ok F x5 x6 (-1) _ h37
                try dsimp only at h
                by_cases h38 : (decide (x25 ≤ x29)) = true
                · rw [if_pos h38] at h
                  obtain ⟨x30, h39, h⟩ := bind_some h
                  have ch39 := f16_ok F _ h39
                  try dsimp only at h
                  obtain rfl := Option.some.inj h
                  exact callOK cxOK cxW Try.func11 (by kernel_rfl) (f11_e1 x1 x2 x3 x4 x5 x6 x7 x8 x9 x10 x11 x12 x23 x24 x25 x26 x28 x29 x30) ⟨ch1, ch2, ch3, ch4, h5, h5, h5, h6, h6, h6, ch7, h6, h6, (by rw [h8]; rfl), (by rw [h8]; rfl), (by rw [h8]; rfl), (by rw [h8]; rfl), h9, ch28, ch29, (Nat.le_of_eq (Nat.zero_add _)), h30, h34, h34, h34, h34, ch35, (Nat.le_of_eq (Nat.zero_add _)), h34, h34, h36, h36, h36, h36, ch37, h36, h36, h38, ch39, h38, trivial⟩
                · rw [if_neg h38] at h
                  have h38 := Bool.eq_false_iff.2 h38
                  cases h
              · rw [if_neg h36] at h
                have h36 := Bool.eq_false_iff.2 h36
                cases h
            · rw [if_neg h34] at h
              have h34 := Bool.eq_false_iff.2 h34
              cases h
      · rw [if_neg h8] at h
        have h8 := Bool.eq_false_iff.2 h8
        cases h

end Go.Gh.Sale
