/- Bunch4F1: printed by wip/tool/gx.py -/
import Derived.Test.YtegnegeoodkpcaaBunch4F0
namespace Go.Gh.Bunch
set_option linter.unusedVariables false
set_option linter.unusedSimpArgs false
open Go.Proofs

theorem f62_p8_1_ok (F : Nat) (x1 : List Int) (x9 : List Int) (x10 : Int) (x12 : Int) (x13 : Int) (x14 : Int) (r : Int) (h : f62_p8_1 F x1 x9 x10 x12 x13 x14 = some r) : f62_p8_1_P x1 x9 x10 x12 x13 x14 r := by
  unfold f62_p8_1 at h
  by_cases h15 : (decide (x14 ≥ x10)) = true
  · rw [if_pos h15] at h
    obtain rfl := Option.some.inj h
    exact gRun_ok cxOK (f62_p8_1_e0 x1 x9 x10 x12 x13 x14) ⟨h15, trivial⟩
  · rw [if_neg h15] at h
    have h15 := Bool.eq_false_iff.2 h15
    obtain rfl := Option.some.inj h
    exact gRun_ok cxOK (f62_p8_1_e1 x1 x9 x10 x12 x13 x14) ⟨h15, trivial⟩
theorem f62_p5_1_ok (F : Nat) (x1 : List Int) (x9 : List Int) (x10 : Int) : ∀ (k : Nat) (x12 : Int) (x13 : Int) (r : Int), f62_p5_1 F x1 x9 x10 k x12 x13 = some r → f62_p5_1_P x1 x9 x10 x12 x13 r
  | 0, _, _, _, h => by cases h
  | k + 1, x12, x13, r, h => by
    unfold f62_p5_1 at h
    by_cases h13 : (decide (x13 < ((List.length x1 : Nat) : Int))) = true
    · rw [if_pos h13] at h
      obtain ⟨x14, h14, h⟩ := bind_some h
      try dsimp only at h
      obtain ⟨rh16, h16, h⟩ := bind_some h
      have ch16 := f62_p8_1_ok F x1 x9 x10 x12 x13 x14 _ h16
      obtain ⟨x15, rfl⟩ : ∃ z, z = rh16 := ⟨_, rfl⟩
      try dsimp only at h
      exact Lp.again (gRun_ok cxOK (f62_p5_1_e0 x1 x9 x10 x12 x13 x14 x15) ⟨h13, ⟨(at?_spec h14).1, x14, (at?_spec h14).2, rfl⟩, ch16, trivial⟩) (f62_p5_1_ok F x1 x9 x10 k x15 (w64 (x13 + 1)) r h)
    · rw [if_neg h13] at h
      have h13 := Bool.eq_false_iff.2 h13
      obtain rfl := Option.some.inj h
      exact Lp.out (gRun_ok cxOK (f62_p5_1_e1 x1 x9 x10 x12 x13) ⟨h13, trivial⟩) (by intro hh; cases hh)
theorem f62_p1_ok (F : Nat) (x1 : List Int) : ∀ (k : Nat) (x10 : Int) (x9 : List Int) (r : (List Int)), f62_p1 F x1 k x10 x9 = some r → f62_p1_P x1 x10 x9 r
  | 0, _, _, _, h => by cases h
  | k + 1, x10, x9, r, h => by
    unfold f62_p1 at h
    by_cases h10 : (decide (((List.length x1 : Nat) : Int) > 0)) = true
    · rw [if_pos h10] at h
      obtain ⟨x11, h11, h⟩ := bind_some h
      try dsimp only at h
      by_cases h12 : (decide (x10 ≤ x11)) = true
      · rw [if_pos h12] at h
        obtain ⟨rh17, h17, h⟩ := bind_some h
        have ch17 := f62_p5_1_ok F x1 x9 x10 F 0 0 _ h17
        obtain ⟨x16, rfl⟩ : ∃ z, z = rh17 := ⟨_, rfl⟩
        try dsimp only at h
        obtain ⟨h18, h⟩ := req_some h
        exact Lp.again (gRun_ok cxOK (f62_p1_e0 x1 x9 x10 x11 x16) ⟨h10, h10, h10, ⟨(at?_spec h11).1, x11, (at?_spec h11).2, rfl⟩, h10, h10, h10, h12, ch17, h18, rfl, trivial⟩) (f62_p1_ok F x1 k (w64 (x10 + 1)) (x9 ++ ([x16] : List Int)) r h)
      · rw [if_neg h12] at h
        have h12 := Bool.eq_false_iff.2 h12
        obtain rfl := Option.some.inj h
        exact Lp.out (gRun_ok cxOK (f62_p1_e1 x1 x9 x10 x11) ⟨h10, h10, h10, ⟨(at?_spec h11).1, x11, (at?_spec h11).2, rfl⟩, h10, h10, h10, h12, trivial⟩) (by intro hh; cases hh)
    · rw [if_neg h10] at h
      have h10 := Bool.eq_false_iff.2 h10
      obtain rfl := Option.some.inj h
      exact Lp.out (gRun_ok cxOK (f62_p1_e2 x1 x9 x10) ⟨h10, h10, h10, h10, h10, h10, rfl, trivial⟩) (by intro hh; cases hh)
theorem f62_ok (F : Nat) (x1 : List Int) (r : (List Int)) (h : f62 F x1 = some r) : f62_C x1 r := by
  unfold f62 at h
  obtain ⟨rh19, h19, h⟩ := bind_some h
  have ch19 := f62_p1_ok F x1 F 1 ([] : List Int) _ h19
  obtain ⟨x17, rfl⟩ : ∃ z, z = rh19 := ⟨_, rfl⟩
  try dsimp only at h
  obtain rfl := Option.some.inj h
  exact callOK cxOK cxW Try.func62 (by kernel_rfl) (f62_e0 x1 x17) ⟨ch19, (Nat.le_of_eq (Nat.zero_add _)), trivial⟩

theorem f26_ok (F : Nat) (x1 : List Int) (r : (List Int) × Int) (h : f26 F x1 = some r) : f26_C x1 r := by
  unfold f26 at h
  obtain ⟨rh1, h1, h⟩ := bind_some h
  have ch1 := f35_ok F x1 _ h1
  obtain ⟨x2, rfl⟩ : ∃ z, z = rh1 := ⟨_, rfl⟩
  try dsimp only at h
  by_cases h2 : (x2 != 0) = true
  · rw [if_pos h2] at h
    obtain rfl := Option.some.inj h
    exact callOK cxOK cxW Try.func26 (by kernel_rfl) (f26_e0 x1 x2) ⟨ch1, h2, trivial⟩
  · rw [if_neg h2] at h
    have h2 := Bool.eq_false_iff.2 h2
    obtain ⟨rh3, h3, h⟩ := bind_some h
    have ch3 := f62_ok F x1 _ h3
    obtain ⟨x3, rfl⟩ : ∃ z, z = rh3 := ⟨_, rfl⟩
    try dsimp only at h
    obtain rfl := Option.some.inj h
    exact callOK cxOK cxW Try.func26 (by kernel_rfl) (f26_e1 x1 x2 x3) ⟨ch1, h2, ch3, trivial⟩

theorem f66_p1_ok (F : Nat) (x1 : List Int) : ∀ (k : Nat) (x2 : Int) (r : f66_p1_R), f66_p1 F x1 k x2 = some r → f66_p1_P x1 x2 r
  | 0, _, _, h => by cases h
  | k + 1, x2, r, h => by
    unfold f66_p1 at h
    by_cases h1 : (decide (x2 < ((List.length x1 : Nat) : Int))) = true
    · rw [if_pos h1] at h
      obtain ⟨x3, h2, h⟩ := bind_some h
      try dsimp only at h
      by_cases h3 : ((Int.tmod x3 2) == 0) = true
      · rw [if_pos h3] at h
        obtain rfl := Option.some.inj h
        exact Lp.out (gRun_ok cxOK (f66_p1_e0 x1 x2 x3) ⟨h1, ⟨(at?_spec h2).1, x3, (at?_spec h2).2, rfl⟩, (by decide), h3, trivial⟩) (by intro hh; cases hh)
      · rw [if_neg h3] at h
        have h3 := Bool.eq_false_iff.2 h3
        exact Lp.again (gRun_ok cxOK (f66_p1_e1 x1 x2 x3) ⟨h1, ⟨(at?_spec h2).1, x3, (at?_spec h2).2, rfl⟩, (by decide), h3, trivial⟩) (f66_p1_ok F x1 k (w64 (x2 + 1)) r h)
    · rw [if_neg h1] at h
      have h1 := Bool.eq_false_iff.2 h1
      obtain rfl := Option.some.inj h
      exact Lp.out (gRun_ok cxOK (f66_p1_e2 x1 x2) ⟨h1, trivial⟩) (by intro hh; cases hh)
theorem f66_ok (F : Nat) (x1 : List Int) (r : Bool) (h : f66 F x1 = some r) : f66_C x1 r := by
  unfold f66 at h
  obtain ⟨rh4, h4, h⟩ := bind_some h
  have ch4 := f66_p1_ok F x1 F 0 _ h4
  cases rh4 with
  | c0 =>
    try dsimp only at h
    obtain rfl := Option.some.inj h
    exact callOK cxOK cxW Try.func66 (by kernel_rfl) (f66_e0 x1) ⟨ch4, trivial⟩
  | c1 =>
    try dsimp only at h
    obtain rfl := Option.some.inj h
    exact callOK cxOK cxW Try.func66 (by kernel_rfl) (f66_e1 x1) ⟨ch4, trivial⟩

theorem f88_p5_2_ok (F : Nat) (x1 : List Int) (x30 : Int) : ∀ (k : Nat) (x35 : Int) (x34 : List Int) (r : (List Int)), f88_p5_2 F x1 x30 k x35 x34 = some r → f88_p5_2_P x1 x30 x35 x34 r
  | 0, _, _, _, h => by cases h
  | k + 1, x35, x34, r, h => by
    unfold f88_p5_2 at h
    by_cases h63 : (decide (x35 > 0)) = true
    · rw [if_pos h63] at h
      obtain ⟨h64, h⟩ := req_some h
      obtain ⟨x36, h65, h⟩ := bind_some h
      try dsimp only at h
      obtain ⟨h66, h⟩ := req_some h
      obtain ⟨x37, h67, h⟩ := bind_some h
      try dsimp only at h
      by_cases h68 : (decide (x36 > x37)) = true
      · rw [if_pos h68] at h
        obtain ⟨h69, h⟩ := req_some h
        obtain ⟨h70, h⟩ := req_some h
        exact Lp.again (gRun_ok cxOK (f88_p5_2_e0 x1 x30 x34 x35 x36 x37) ⟨h63, h63, h63, h64, h63, ⟨x36, h65, rfl⟩, h63, h63, h63, h63, h66, h63, ⟨x37, h67, rfl⟩, h63, h63, h68, h66, ⟨x37, h67, rfl⟩, h64, ⟨x36, h65, rfl⟩, h64, h69, h66, h70, trivial⟩) (f88_p5_2_ok F x1 x30 k (w64 (x35 - 1)) (List.set (List.set x34 (0 + (Int.toNat x35)) x37) (0 + (Int.toNat (w64 (x35 - 1)))) x36) r h)
      · rw [if_neg h68] at h
        have h68 := Bool.eq_false_iff.2 h68
        obtain rfl := Option.some.inj h
        exact Lp.out (gRun_ok cxOK (f88_p5_2_e1 x1 x30 x34 x35 x36 x37) ⟨h63, h63, h63, h64, h63, ⟨x36, h65, rfl⟩, h63, h63, h63, h63, h66, h63, ⟨x37, h67, rfl⟩, h63, h63, h68, trivial⟩) (by intro hh; cases hh)
    · rw [if_neg h63] at h
      have h63 := Bool.eq_false_iff.2 h63
      obtain rfl := Option.some.inj h
      exact Lp.out (gRun_ok cxOK (f88_p5_2_e2 x1 x30 x34 x35) ⟨h63, h63, h63, h63, h63, h63, h63, h63, h63, h63, h63, rfl, trivial⟩) (by intro hh; cases hh)
theorem f88_p1_ok (F : Nat) (x1 : List Int) : ∀ (k : Nat) (x30 : Int) (x29 : List Int) (r : (List Int)), f88_p1 F x1 k x30 x29 = some r → f88_p1_P x1 x30 x29 r
  | 0, _, _, _, h => by cases h
  | k + 1, x30, x29, r, h => by
    unfold f88_p1 at h
    by_cases h54 : (decide (x30 < (((List.length (([] : List Int) ++ x1)) : Nat) : Int))) = true
    · rw [if_pos h54] at h
      obtain ⟨rh71, h71, h⟩ := bind_some h
      have ch71 := f88_p5_2_ok F x1 x30 F x30 x29 _ h71
      obtain ⟨x38, rfl⟩ : ∃ z, z = rh71 := ⟨_, rfl⟩
      try dsimp only at h
      exact Lp.again (gRun_ok cxOK (f88_p1_e0 x1 x29 x30 x38) ⟨h54, ch71, trivial⟩) (f88_p1_ok F x1 k (w64 (x30 + 1)) x38 r h)
    · rw [if_neg h54] at h
      have h54 := Bool.eq_false_iff.2 h54
      obtain rfl := Option.some.inj h
      exact Lp.out (gRun_ok cxOK (f88_p1_e1 x1 x29 x30) ⟨h54, trivial⟩) (by intro hh; cases hh)
theorem f88_ok (F : Nat) (x1 : List Int) (r : Nat × (List Int)) (h : f88 F x1 = some r) : f88_C x1 r := by
  unfold f88 at h
  obtain ⟨h1, h⟩ := req_some h
  obtain ⟨rh72, h72, h⟩ := bind_some h
  have ch72 := f88_p1_ok F x1 F 0 (([] : List Int) ++ x1) _ h72
  obtain ⟨x39, rfl⟩ : ∃ z, z = rh72 := ⟨_, rfl⟩
  try dsimp only at h
  obtain rfl := Option.some.inj h
  exact callOK cxOK cxW Try.func88 (by kernel_rfl) (f88_e0 x1 x39) ⟨h1, (.inl rfl), ch72, trivial⟩

theorem f67_p1_ok (F : Nat) (rec : (List Int) → Option (List Int)) (hrec : ∀ (x1 : List Int) (r : (List Int)), rec x1 = some r → f67_C x1 r) (x1 : List Int) : ∀ (k : Nat) (x2 : Int) (r : f67_p1_R), f67_p1 F rec x1 k x2 = some r → f67_p1_P x1 x2 r
  | 0, _, _, h => by cases h
  | k + 1, x2, r, h => by
    unfold f67_p1 at h
    by_cases h1 : (decide (x2 < ((List.length x1 : Nat) : Int))) = true
    · rw [if_pos h1] at h
      obtain ⟨x3, h2, h⟩ := bind_some h
      try dsimp only at h
      obtain ⟨x4, h3, h⟩ := bind_some h
      try dsimp only at h
      by_cases h4 : (x3 == x4) = true
      · rw [if_pos h4] at h
        obtain ⟨h5, h⟩ := req_some h
        obtain ⟨h6, h⟩ := req_some h
        obtain ⟨h7, h⟩ := req_some h
        obtain ⟨h8, h⟩ := req_some h
        obtain ⟨h11, h⟩ := req_some h
        obtain ⟨rh12, h12, h⟩ := bind_some h
        have ch12 := f88_ok F (List.drop 0 (List.take (0 + (List.length (((([] : List Int) ++ (List.drop 0 (List.take (Int.toNat (w64 (x2 - 1))) x1))) ++ (List.drop (Int.toNat (w64 (x2 + 1))) (List.take (List.length x1) x1))) ++ ([(w64 (2 * x3))] : List Int)))) (((([] : List Int) ++ (List.drop 0 (List.take (Int.toNat (w64 (x2 - 1))) x1))) ++ (List.drop (Int.toNat (w64 (x2 + 1))) (List.take (List.length x1) x1))) ++ ([(w64 (2 * x3))] : List Int)))) _ h12
        obtain ⟨x7, x8⟩ := rh12
        try dsimp only at h
        obtain ⟨rh14, h14, h⟩ := bind_some h
        have ch14 := hrec (List.drop 0 (List.take (0 + x7) x8)) _ h14
        obtain ⟨x9, rfl⟩ : ∃ z, z = rh14 := ⟨_, rfl⟩
        try dsimp only at h
        obtain ⟨h13, h⟩ := req_some h
        obtain rfl := Option.some.inj h
        exact Lp.out (gRun_ok cxOK (f67_p1_e0 x1 x2 x3 x4 x7 x8 x9) ⟨h1, ⟨(at?_spec h2).1, x3, (at?_spec h2).2, rfl⟩, ⟨(at?_spec h3).1, x4, (at?_spec h3).2, rfl⟩, h4, h5, h6, (.inl rfl), h7, h8, rfl, ⟨(at?_spec h2).1, x3, (at?_spec h2).2, rfl⟩, h11, rfl, ch12, (Nat.le_of_eq (Nat.zero_add _)), h13, ch14, trivial⟩) (by intro hh; cases hh)
      · rw [if_neg h4] at h
        have h4 := Bool.eq_false_iff.2 h4
        exact Lp.again (gRun_ok cxOK (f67_p1_e1 x1 x2 x3 x4) ⟨h1, ⟨(at?_spec h2).1, x3, (at?_spec h2).2, rfl⟩, ⟨(at?_spec h3).1, x4, (at?_spec h3).2, rfl⟩, h4, trivial⟩) (f67_p1_ok F rec hrec x1 k (w64 (x2 + 1)) r h)
    · rw [if_neg h1] at h
      have h1 := Bool.eq_false_iff.2 h1
      obtain rfl := Option.some.inj h
      exact Lp.out (gRun_ok cxOK (f67_p1_e2 x1 x2) ⟨h1, trivial⟩) (by intro hh; cases hh)
theorem f67_b_ok (F : Nat) (rec : (List Int) → Option (List Int)) (hrec : ∀ (x1 : List Int) (r : (List Int)), rec x1 = some r → f67_C x1 r) (x1 : List Int) (r : (List Int)) (h : f67_b F rec x1 = some r) : f67_C x1 r := by
  unfold f67_b at h
  obtain ⟨rh15, h15, h⟩ := bind_some h
  have ch15 := f67_p1_ok F rec hrec x1 F 1 _ h15
  cases rh15 with
  | c0 x10 =>
    try dsimp only at h
    obtain rfl := Option.some.inj h
    exact callOK cxOK cxW Try.func67 (by kernel_rfl) (f67_e0 x1 x10) ⟨ch15, trivial⟩
  | c1 =>
    try dsimp only at h
    obtain ⟨h16, h⟩ := req_some h
    obtain rfl := Option.some.inj h
    exact callOK cxOK cxW Try.func67 (by kernel_rfl) (f67_e1 x1) ⟨ch15, h16, (.inl rfl), (Nat.le_of_eq (Nat.zero_add _)), trivial⟩
theorem f67_ok (F : Nat) : ∀ (k : Nat) (x1 : List Int) (r : (List Int)), f67 F k x1 = some r → f67_C x1 r
  | 0, _, _, h => by cases h
  | k + 1, x1, r, h => f67_b_ok F (f67 F k) (f67_ok F k) x1 r h

theorem f28_p0_ok (F : Nat) (x1 : List Int) (x2 : Int) (x3 : Bool) (r : Int) (h : f28_p0 F x1 x2 x3 = some r) : f28_p0_P x1 x2 x3 r := by
  unfold f28_p0 at h
  by_cases h4 : x3 = true
  · rw [if_pos h4] at h
    obtain rfl := Option.some.inj h
    exact gRun_ok cxOK (f28_p0_e0 x1 x2 x3) ⟨(by rw [h4]; rfl), trivial⟩
  · rw [if_neg h4] at h
    have h4 := Bool.eq_false_iff.2 h4
    obtain rfl := Option.some.inj h
    exact gRun_ok cxOK (f28_p0_e1 x1 x2 x3) ⟨(by rw [h4]; rfl), trivial⟩
theorem f28_ok (F : Nat) (x1 : List Int) (r : (List Int) × Int) (h : f28 F x1 = some r) : f28_C x1 r := by
  unfold f28 at h
  obtain ⟨rh1, h1, h⟩ := bind_some h
  have ch1 := f35_ok F x1 _ h1
  obtain ⟨x2, rfl⟩ : ∃ z, z = rh1 := ⟨_, rfl⟩
  try dsimp only at h
  by_cases h2 : (x2 == 0) = true
  · rw [if_pos h2] at h
    obtain ⟨rh3, h3, h⟩ := bind_some h
    have ch3 := f66_ok F x1 _ h3
    obtain ⟨x3, rfl⟩ : ∃ z, z = rh3 := ⟨_, rfl⟩
    try dsimp only at h
    obtain ⟨rh5, h5, h⟩ := bind_some h
    have ch5 := f28_p0_ok F x1 x2 x3 _ h5
    obtain ⟨x4, rfl⟩ : ∃ z, z = rh5 := ⟨_, rfl⟩
    try dsimp only at h
    by_cases h6 : (x4 != 0) = true
    · rw [if_pos h6] at h
      obtain rfl := Option.some.inj h
      exact callOK cxOK cxW Try.func28 (by kernel_rfl) (f28_e0 x1 x2 x3 x4) ⟨ch1, h2, h2, ch3, h2, h2, ch5, h6, trivial⟩
    · rw [if_neg h6] at h
      have h6 := Bool.eq_false_iff.2 h6
      obtain ⟨rh7, h7, h⟩ := bind_some h
      have ch7 := f67_ok F F x1 _ h7
      obtain ⟨x5, rfl⟩ : ∃ z, z = rh7 := ⟨_, rfl⟩
      try dsimp only at h
      obtain rfl := Option.some.inj h
      exact callOK cxOK cxW Try.func28 (by kernel_rfl) (f28_e1 x1 x2 x3 x4 x5) ⟨ch1, h2, h2, ch3, h2, h2, ch5, h6, ch7, trivial⟩
  · rw [if_neg h2] at h
    have h2 := Bool.eq_false_iff.2 h2
    obtain rfl := Option.some.inj h
    exact callOK cxOK cxW Try.func28 (by kernel_rfl) (f28_e2 x1 x2) ⟨ch1, h2, h2, h2, h2, rfl, (by rw [bne, h2]; rfl), trivial⟩

theorem f60_p1_ok (F : Nat) (x1 : List Int) : ∀ (k : Nat) (x2 : Int) (r : f60_p1_R), f60_p1 F x1 k x2 = some r → f60_p1_P x1 x2 r
  | 0, _, _, h => by cases h
  | k + 1, x2, r, h => by
    unfold f60_p1 at h
    by_cases h1 : (decide (x2 < ((List.length x1 : Nat) : Int))) = true
    · rw [if_pos h1] at h
      obtain ⟨x3, h2, h⟩ := bind_some h
      try dsimp only at h
      obtain ⟨x4, h3, h⟩ := bind_some h
      try dsimp only at h
      by_cases h4 : (x3 == x4) = true
      · rw [if_pos h4] at h
        obtain rfl := Option.some.inj h
        exact Lp.out (gRun_ok cxOK (f60_p1_e0 x1 x2 x3 x4) ⟨h1, ⟨(at?_spec h2).1, x3, (at?_spec h2).2, rfl⟩, ⟨(at?_spec h3).1, x4, (at?_spec h3).2, rfl⟩, h4, trivial⟩) (by intro hh; cases hh)
      · rw [if_neg h4] at h
        have h4 := Bool.eq_false_iff.2 h4
        exact Lp.again (gRun_ok cxOK (f60_p1_e1 x1 x2 x3 x4) ⟨h1, ⟨(at?_spec h2).1, x3, (at?_spec h2).2, rfl⟩, ⟨(at?_spec h3).1, x4, (at?_spec h3).2, rfl⟩, h4, trivial⟩) (f60_p1_ok F x1 k (w64 (x2 + 1)) r h)
    · rw [if_neg h1] at h
      have h1 := Bool.eq_false_iff.2 h1
      obtain rfl := Option.some.inj h
      exact Lp.out (gRun_ok cxOK (f60_p1_e2 x1 x2) ⟨h1, trivial⟩) (by intro hh; cases hh)
theorem f60_ok (F : Nat) (x1 : List Int) (r : Bool) (h : f60 F x1 = some r) : f60_C x1 r := by
  unfold f60 at h
  obtain ⟨rh5, h5, h⟩ := bind_some h
  have ch5 := f60_p1_ok F x1 F 1 _ h5
  cases rh5 with
  | c0 =>
    try dsimp only at h
    obtain rfl := Option.some.inj h
    exact callOK cxOK cxW Try.func60 (by kernel_rfl) (f60_e0 x1) ⟨ch5, trivial⟩
  | c1 =>
    try dsimp only at h
    obtain rfl := Option.some.inj h
    exact callOK cxOK cxW Try.func60 (by kernel_rfl) (f60_e1 x1) ⟨ch5, trivial⟩

theorem f88_1_p5_2_ok (F : Nat) (x1 : List Int) (x30 : Int) : ∀ (k : Nat) (x35 : Int) (x34 : List Int) (r : (List Int)), f88_1_p5_2 F x1 x30 k x35 x34 = some r → f88_1_p5_2_P x1 x30 x35 x34 r
  | 0, _, _, _, h => by cases h
  | k + 1, x35, x34, r, h => by
    unfold f88_1_p5_2 at h
    by_cases h63 : (decide (x35 > 0)) = true
    · rw [if_pos h63] at h
      obtain ⟨h64, h⟩ := req_some h
      obtain ⟨x36, h65, h⟩ := bind_some h
      try dsimp only at h
      obtain ⟨h66, h⟩ := req_some h
      obtain ⟨x37, h67, h⟩ := bind_some h
      try dsimp only at h
      by_cases h68 : (decide (x36 > x37)) = true
      · rw [if_pos h68] at h
        obtain ⟨h69, h⟩ := req_some h
        obtain ⟨h70, h⟩ := req_some h
        exact Lp.again (gRun_ok cxOK (f88_1_p5_2_e0 x1 x30 x34 x35 x36 x37) ⟨h63, h63, h63, h64, h63, ⟨x36, h65, rfl⟩, h63, h63, h63, h63, h66, h63, ⟨x37, h67, rfl⟩, h63, h63, h68, h66, ⟨x37, h67, rfl⟩, h64, ⟨x36, h65, rfl⟩, h64, h69, h66, h70, trivial⟩) (f88_1_p5_2_ok F x1 x30 k (w64 (x35 - 1)) (List.set (List.set x34 (0 + (Int.toNat x35)) x37) (0 + (Int.toNat (w64 (x35 - 1)))) x36) r h)
      · rw [if_neg h68] at h
        have h68 := Bool.eq_false_iff.2 h68
        obtain rfl := Option.some.inj h
        exact Lp.out (gRun_ok cxOK (f88_1_p5_2_e1 x1 x30 x34 x35 x36 x37) ⟨h63, h63, h63, h64, h63, ⟨x36, h65, rfl⟩, h63, h63, h63, h63, h66, h63, ⟨x37, h67, rfl⟩, h63, h63, h68, trivial⟩) (by intro hh; cases hh)
    · rw [if_neg h63] at h
      have h63 := Bool.eq_false_iff.2 h63
      obtain rfl := Option.some.inj h
      exact Lp.out (gRun_ok cxOK (f88_1_p5_2_e2 x1 x30 x34 x35) ⟨h63, h63, h63, h63, h63, h63, h63, h63, h63, h63, h63, rfl, trivial⟩) (by intro hh; cases hh)
theorem f88_1_p1_ok (F : Nat) (x1 : List Int) : ∀ (k : Nat) (x30 : Int) (x29 : List Int) (r : (List Int)), f88_1_p1 F x1 k x30 x29 = some r → f88_1_p1_P x1 x30 x29 r
  | 0, _, _, _, h => by cases h
  | k + 1, x30, x29, r, h => by
    unfold f88_1_p1 at h
    by_cases h54 : (decide (x30 < (((List.length (([] : List Int) ++ x1)) : Nat) : Int))) = true
    · rw [if_pos h54] at h
      obtain ⟨rh71, h71, h⟩ := bind_some h
      have ch71 := f88_1_p5_2_ok F x1 x30 F x30 x29 _ h71
      obtain ⟨x38, rfl⟩ : ∃ z, z = rh71 := ⟨_, rfl⟩
      try dsimp only at h
      exact Lp.again (gRun_ok cxOK (f88_1_p1_e0 x1 x29 x30 x38) ⟨h54, ch71, trivial⟩) (f88_1_p1_ok F x1 k (w64 (x30 + 1)) x38 r h)
    · rw [if_neg h54] at h
      have h54 := Bool.eq_false_iff.2 h54
      obtain rfl := Option.some.inj h
      exact Lp.out (gRun_ok cxOK (f88_1_p1_e1 x1 x29 x30) ⟨h54, trivial⟩) (by intro hh; cases hh)
theorem f88_1_ok (F : Nat) (x1 : List Int) (r : (List Int)) (h : f88_1 F x1 = some r) : f88_1_C x1 r := by
  unfold f88_1 at h
  obtain ⟨h1, h⟩ := req_some h
  obtain ⟨rh72, h72, h⟩ := bind_some h
  have ch72 := f88_1_p1_ok F x1 F 0 (([] : List Int) ++ x1) _ h72
  obtain ⟨x39, rfl⟩ : ∃ z, z = rh72 := ⟨_, rfl⟩
  try dsimp only at h
  obtain ⟨h73, h⟩ := req_some h
  obtain rfl := Option.some.inj h
  exact callOK cxOK cxW Try.func88 (by kernel_rfl) (f88_1_e0 x1 x39) ⟨h1, (.inl rfl), ch72, h73, trivial⟩

theorem f69_p1_ok (F : Nat) (rec : (List Int) → Option (List Int)) (hrec : ∀ (x1 : List Int) (r : (List Int)), rec x1 = some r → f69_C x1 r) (x1 : List Int) : ∀ (k : Nat) (x2 : Int) (r : f69_p1_R), f69_p1 F rec x1 k x2 = some r → f69_p1_P x1 x2 r
  | 0, _, _, h => by cases h
  | k + 1, x2, r, h => by
    unfold f69_p1 at h
    by_cases h1 : (decide (x2 < ((List.length x1 : Nat) : Int))) = true
    · rw [if_pos h1] at h
      obtain ⟨x3, h2, h⟩ := bind_some h
      try dsimp only at h
      by_cases h3 : ((Int.tmod x3 2) == 0) = true
      · rw [if_pos h3] at h
        obtain ⟨h4, h⟩ := req_some h
        obtain ⟨h5, h⟩ := req_some h
        obtain ⟨h6, h⟩ := req_some h
        obtain ⟨h7, h⟩ := req_some h
        obtain ⟨h8, h⟩ := req_some h
        obtain ⟨rh9, h9, h⟩ := bind_some h
        have ch9 := f88_1_ok F (((([] : List Int) ++ (List.drop 0 (List.take (Int.toNat x2) x1))) ++ (List.drop (Int.toNat (w64 (x2 + 1))) (List.take (List.length x1) x1))) ++ ([(w64 (Int.tdiv x3 2)), (w64 (Int.tdiv x3 2))] : List Int)) _ h9
        obtain ⟨x4, rfl⟩ : ∃ z, z = rh9 := ⟨_, rfl⟩
        try dsimp only at h
        obtain ⟨rh10, h10, h⟩ := bind_some h
        have ch10 := hrec x4 _ h10
        obtain ⟨x5, rfl⟩ : ∃ z, z = rh10 := ⟨_, rfl⟩
        try dsimp only at h
        obtain rfl := Option.some.inj h
        exact Lp.out (gRun_ok cxOK (f69_p1_e0 x1 x2 x3 x4 x5) ⟨h1, ⟨(at?_spec h2).1, x3, (at?_spec h2).2, rfl⟩, (by decide), h3, h4, h5, (.inl rfl), h6, h7, rfl, ⟨(at?_spec h2).1, x3, (at?_spec h2).2, rfl⟩, (by decide), ⟨(at?_spec h2).1, x3, (at?_spec h2).2, rfl⟩, (by decide), h8, rfl, rfl, ch9, ch10, trivial⟩) (by intro hh; cases hh)
      · rw [if_neg h3] at h
        have h3 := Bool.eq_false_iff.2 h3
        exact Lp.again (gRun_ok cxOK (f69_p1_e1 x1 x2 x3) ⟨h1, ⟨(at?_spec h2).1, x3, (at?_spec h2).2, rfl⟩, (by decide), h3, trivial⟩) (f69_p1_ok F rec hrec x1 k (w64 (x2 + 1)) r h)
    · rw [if_neg h1] at h
      have h1 := Bool.eq_false_iff.2 h1
      obtain rfl := Option.some.inj h
      exact Lp.out (gRun_ok cxOK (f69_p1_e2 x1 x2) ⟨h1, trivial⟩) (by intro hh; cases hh)
theorem f69_b_ok (F : Nat) (rec : (List Int) → Option (List Int)) (hrec : ∀ (x1 : List Int) (r : (List Int)), rec x1 = some r → f69_C x1 r) (x1 : List Int) (r : (List Int)) (h : f69_b F rec x1 = some r) : f69_C x1 r := by
  unfold f69_b at h
  obtain ⟨rh11, h11, h⟩ := bind_some h
  have ch11 := f69_p1_ok F rec hrec x1 F 0 _ h11
  cases rh11 with
  | c0 x6 =>
    try dsimp only at h
    obtain rfl := Option.some.inj h
    exact callOK cxOK cxW Try.func69 (by kernel_rfl) (f69_e0 x1 x6) ⟨ch11, trivial⟩
  | c1 =>
    try dsimp only at h
    obtain ⟨h12, h⟩ := req_some h
    obtain rfl := Option.some.inj h
    exact callOK cxOK cxW Try.func69 (by kernel_rfl) (f69_e1 x1) ⟨ch11, h12, (.inl rfl), (Nat.le_of_eq (Nat.zero_add _)), trivial⟩
theorem f69_ok (F : Nat) : ∀ (k : Nat) (x1 : List Int) (r : (List Int)), f69 F k x1 = some r → f69_C x1 r
  | 0, _, _, h => by cases h
  | k + 1, x1, r, h => f69_b_ok F (f69 F k) (f69_ok F k) x1 r h

theorem f30_p0_ok (F : Nat) (x1 : List Int) (x2 : Int) (x3 : Bool) (r : Int) (h : f30_p0 F x1 x2 x3 = some r) : f30_p0_P x1 x2 x3 r := by
  unfold f30_p0 at h
  by_cases h4 : x3 = true
  · rw [if_pos h4] at h
    obtain rfl := Option.some.inj h
    exact gRun_ok cxOK (f30_p0_e0 x1 x2 x3) ⟨(by rw [h4]; rfl), trivial⟩
  · rw [if_neg h4] at h
    have h4 := Bool.eq_false_iff.2 h4
    obtain rfl := Option.some.inj h
    exact gRun_ok cxOK (f30_p0_e1 x1 x2 x3) ⟨(by rw [h4]; rfl), trivial⟩
theorem f30_ok (F : Nat) (x1 : List Int) (r : (List Int) × Int) (h : f30 F x1 = some r) : f30_C x1 r := by
  unfold f30 at h
  obtain ⟨rh1, h1, h⟩ := bind_some h
  have ch1 := f35_ok F x1 _ h1
  obtain ⟨x2, rfl⟩ : ∃ z, z = rh1 := ⟨_, rfl⟩
  try dsimp only at h
  by_cases h2 : (x2 == 0) = true
  · rw [if_pos h2] at h
    obtain ⟨rh3, h3, h⟩ := bind_some h
    have ch3 := f60_ok F x1 _ h3
    obtain ⟨x3, rfl⟩ : ∃ z, z = rh3 := ⟨_, rfl⟩
    try dsimp only at h
    obtain ⟨rh5, h5, h⟩ := bind_some h
    have ch5 := f30_p0_ok F x1 x2 x3 _ h5
    obtain ⟨x4, rfl⟩ : ∃ z, z = rh5 := ⟨_, rfl⟩
    try dsimp only at h
    by_cases h6 : (x4 != 0) = true
    · rw [if_pos h6] at h
      obtain rfl := Option.some.inj h
      exact callOK cxOK cxW Try.func30 (by kernel_rfl) (f30_e0 x1 x2 x3 x4) ⟨ch1, h2, h2, ch3, h2, h2, ch5, h6, trivial⟩
    · rw [if_neg h6] at h
      have h6 := Bool.eq_false_iff.2 h6
      obtain ⟨rh7, h7, h⟩ := bind_some h
      have ch7 := f69_ok F F x1 _ h7
      obtain ⟨x5, rfl⟩ : ∃ z, z = rh7 := ⟨_, rfl⟩
      try dsimp only at h
      obtain rfl := Option.some.inj h
      exact callOK cxOK cxW Try.func30 (by kernel_rfl) (f30_e1 x1 x2 x3 x4 x5) ⟨ch1, h2, h2, ch3, h2, h2, ch5, h6, ch7, trivial⟩
  · rw [if_neg h2] at h
    have h2 := Bool.eq_false_iff.2 h2
    obtain rfl := Option.some.inj h
    exact callOK cxOK cxW Try.func30 (by kernel_rfl) (f30_e2 x1 x2) ⟨ch1, h2, h2, h2, h2, rfl, (by rw [bne, h2]; rfl), trivial⟩

theorem f33_p0_ok (F : Nat) (x1 : List Int) (x2 : Int) (x3 : Bool) (r : Int) (h : f33_p0 F x1 x2 x3 = some r) : f33_p0_P x1 x2 x3 r := by
  unfold f33_p0 at h
  by_cases h4 : x3 = true
  · rw [if_pos h4] at h
    obtain rfl := Option.some.inj h
    exact gRun_ok cxOK (f33_p0_e0 x1 x2 x3) ⟨(by rw [h4]; rfl), trivial⟩
  · rw [if_neg h4] at h
    have h4 := Bool.eq_false_iff.2 h4
    obtain rfl := Option.some.inj h
    exact gRun_ok cxOK (f33_p0_e1 x1 x2 x3) ⟨(by rw [h4]; rfl), trivial⟩
theorem f33_p1_ok (F : Nat) (x1 : List Int) (x4 : Int) (r : Int) (h : f33_p1 F x1 x4 = some r) : f33_p1_P x1 x4 r := by
  unfold f33_p1 at h
  by_cases h7 : (((List.length x1 : Nat) : Int) == 0) = true
  · rw [if_pos h7] at h
    obtain rfl := Option.some.inj h
    exact gRun_ok cxOK (f33_p1_e0 x1 x4) ⟨h7, trivial⟩
  · rw [if_neg h7] at h
    have h7 := Bool.eq_false_iff.2 h7
    obtain rfl := Option.some.inj h
    exact gRun_ok cxOK (f33_p1_e1 x1 x4) ⟨h7, trivial⟩
theorem f33_p4_ok (F : Nat) (x1 : List Int) (x6 : Int) : ∀ (k : Nat) (x7 : Int) (r : Int), f33_p4 F x1 x6 k x7 = some r → f33_p4_P x1 x6 x7 r
  | 0, _, _, h => by cases h
  | k + 1, x7, r, h => by
    unfold f33_p4 at h
    by_cases h11 : (decide (x7 < ((List.length x1 : Nat) : Int))) = true
    · rw [if_pos h11] at h
      obtain ⟨x8, h12, h⟩ := bind_some h
      try dsimp only at h
      obtain ⟨x9, h13, h⟩ := bind_some h
      try dsimp only at h
      by_cases h14 : (x8 == (w64 (x9 - 1))) = true
      · rw [if_pos h14] at h
        exact Lp.again (gRun_ok cxOK (f33_p4_e0 x1 x6 x7 x8 x9) ⟨h11, h11, h11, ⟨(at?_spec h12).1, x8, (at?_spec h12).2, rfl⟩, h11, h11, h11, h11, h11, ⟨(at?_spec h13).1, x9, (at?_spec h13).2, rfl⟩, h11, h11, h11, h11, h14, trivial⟩) (f33_p4_ok F x1 x6 k (w64 (x7 + 1)) r h)
      · rw [if_neg h14] at h
        have h14 := Bool.eq_false_iff.2 h14
        obtain rfl := Option.some.inj h
        exact Lp.out (gRun_ok cxOK (f33_p4_e1 x1 x6 x7 x8 x9) ⟨h11, h11, h11, ⟨(at?_spec h12).1, x8, (at?_spec h12).2, rfl⟩, h11, h11, h11, h11, h11, ⟨(at?_spec h13).1, x9, (at?_spec h13).2, rfl⟩, h11, h11, h11, h11, h14, trivial⟩) (by intro hh; cases hh)
    · rw [if_neg h11] at h
      have h11 := Bool.eq_false_iff.2 h11
      obtain rfl := Option.some.inj h
      exact Lp.out (gRun_ok cxOK (f33_p4_e2 x1 x6 x7) ⟨h11, h11, h11, h11, h11, h11, h11, h11, h11, h11, h11, h11, rfl, trivial⟩) (by intro hh; cases hh)
theorem f33_p10_ok (F : Nat) (x6 : Int) (x1 : List Int) : ∀ (k : Nat) (x14 : Int) (x13 : List Int) (r : (List Int)), f33_p10 F x6 x1 k x14 x13 = some r → f33_p10_P x6 x1 x14 x13 r
  | 0, _, _, _, h => by cases h
  | k + 1, x14, x13, r, h => by
    unfold f33_p10 at h
    by_cases h26 : (decide (x14 < x6)) = true
    · rw [if_pos h26] at h
      obtain ⟨h27, h⟩ := req_some h
      obtain ⟨x15, h28, h⟩ := bind_some h
      try dsimp only at h
      obtain ⟨h29, h⟩ := req_some h
      exact Lp.again (gRun_ok cxOK (f33_p10_e0 x1 x6 x13 x14 x15) ⟨h26, h27, ⟨x15, h28, rfl⟩, h27, h29, trivial⟩) (f33_p10_ok F x6 x1 k (w64 (x14 + 1)) (List.set x13 (0 + (Int.toNat x14)) (w64 (x15 + 1))) r h)
    · rw [if_neg h26] at h
      have h26 := Bool.eq_false_iff.2 h26
      obtain rfl := Option.some.inj h
      exact Lp.out (gRun_ok cxOK (f33_p10_e1 x1 x6 x13 x14) ⟨h26, trivial⟩) (by intro hh; cases hh)
theorem f33_p14_ok (F : Nat) (x10 : Int) (x1 : List Int) : ∀ (k : Nat) (x23 : Int) (x22 : List Int) (r : (List Int)), f33_p14 F x10 x1 k x23 x22 = some r → f33_p14_P x10 x1 x23 x22 r
  | 0, _, _, _, h => by cases h
  | k + 1, x23, x22, r, h => by
    unfold f33_p14 at h
    by_cases h40 : (decide (x23 < x10)) = true
    · rw [if_pos h40] at h
      obtain ⟨h41, h⟩ := req_some h
      obtain ⟨x24, h42, h⟩ := bind_some h
      try dsimp only at h
      obtain ⟨h43, h⟩ := req_some h
      exact Lp.again (gRun_ok cxOK (f33_p14_e0 x1 x10 x22 x23 x24) ⟨h40, h41, ⟨x24, h42, rfl⟩, h41, h43, trivial⟩) (f33_p14_ok F x10 x1 k (w64 (x23 + 1)) (List.set x22 (0 + (Int.toNat x23)) (w64 (x24 - 1))) r h)
    · rw [if_neg h40] at h
      have h40 := Bool.eq_false_iff.2 h40
      obtain rfl := Option.some.inj h
      exact Lp.out (gRun_ok cxOK (f33_p14_e1 x1 x10 x22 x23) ⟨h40, trivial⟩) (by intro hh; cases hh)
theorem f33_p10_1_ok (F : Nat) (x6 : Int) (x1 : List Int) : ∀ (k : Nat) (x29 : Int) (x28 : List Int) (r : (List Int)), f33_p10_1 F x6 x1 k x29 x28 = some r → f33_p10_1_P x6 x1 x29 x28 r
  | 0, _, _, _, h => by cases h
  | k + 1, x29, x28, r, h => by
    unfold f33_p10_1 at h
    by_cases h54 : (decide (x29 < x6)) = true
    · rw [if_pos h54] at h
      obtain ⟨h55, h⟩ := req_some h
      obtain ⟨x30, h56, h⟩ := bind_some h
      try dsimp only at h
      obtain ⟨h57, h⟩ := req_some h
      exact Lp.again (gRun_ok cxOK (f33_p10_1_e0 x1 x6 x28 x29 x30) ⟨h54, h55, ⟨x30, h56, rfl⟩, h55, h57, trivial⟩) (f33_p10_1_ok F x6 x1 k (w64 (x29 + 1)) (List.set x28 (0 + (Int.toNat x29)) (w64 (x30 + 1))) r h)
    · rw [if_neg h54] at h
      have h54 := Bool.eq_false_iff.2 h54
      obtain rfl := Option.some.inj h
      exact Lp.out (gRun_ok cxOK (f33_p10_1_e1 x1 x6 x28 x29) ⟨h54, trivial⟩) (by intro hh; cases hh)
theorem f33_p14_1_ok (F : Nat) (x10 : Int) (x1 : List Int) : ∀ (k : Nat) (x38 : Int) (x37 : List Int) (r : (List Int)), f33_p14_1 F x10 x1 k x38 x37 = some r → f33_p14_1_P x10 x1 x38 x37 r
  | 0, _, _, _, h => by cases h
  | k + 1, x38, x37, r, h => by
    unfold f33_p14_1 at h
    by_cases h68 : (decide (x38 < x10)) = true
    · rw [if_pos h68] at h
      obtain ⟨h69, h⟩ := req_some h
      obtain ⟨x39, h70, h⟩ := bind_some h
      try dsimp only at h
      obtain ⟨h71, h⟩ := req_some h
      exact Lp.again (gRun_ok cxOK (f33_p14_1_e0 x1 x10 x37 x38 x39) ⟨h68, h69, ⟨x39, h70, rfl⟩, h69, h71, trivial⟩) (f33_p14_1_ok F x10 x1 k (w64 (x38 + 1)) (List.set x37 (0 + (Int.toNat x38)) (w64 (x39 - 1))) r h)
    · rw [if_neg h68] at h
      have h68 := Bool.eq_false_iff.2 h68
      obtain rfl := Option.some.inj h
      exact Lp.out (gRun_ok cxOK (f33_p14_1_e1 x1 x10 x37 x38) ⟨h68, trivial⟩) (by intro hh; cases hh)
theorem f33_ok (F : Nat) (x1 : List Int) (r : (List Int) × Int) (h : f33 F x1 = some r) : f33_C x1 r := by
  unfold f33 at h
  obtain ⟨rh1, h1, h⟩ := bind_some h
  have ch1 := f35_ok F x1 _ h1
  obtain ⟨x2, rfl⟩ : ∃ z, z = rh1 := ⟨_, rfl⟩
  try dsimp only at h
  by_cases h2 : (x2 == 0) = true
  · rw [if_pos h2] at h
    obtain ⟨rh3, h3, h⟩ := bind_some h
    have ch3 := f60_ok F x1 _ h3
    obtain ⟨x3, rfl⟩ : ∃ z, z = rh3 := ⟨_, rfl⟩
    try dsimp only at h
    obtain ⟨rh5, h5, h⟩ := bind_some h
    have ch5 := f33_p0_ok F x1 x2 x3 _ h5
    obtain ⟨x4, rfl⟩ : ∃ z, z = rh5 := ⟨_, rfl⟩
    try dsimp only at h
    by_cases h6 : (x4 == 0) = true
    · rw [if_pos h6] at h
      obtain ⟨rh8, h8, h⟩ := bind_some h
      have ch8 := f33_p1_ok F x1 x4 _ h8
      obtain ⟨x5, rfl⟩ : ∃ z, z = rh8 := ⟨_, rfl⟩
      try dsimp only at h
      by_cases h9 : (x5 != 0) = true
      · rw [if_pos h9] at h
        obtain rfl := Option.some.inj h
        exact callOK cxOK cxW Try.func33 (by kernel_rfl) (f33_e0 x1 x2 x3 x4 x5) ⟨ch1, h2, h2, ch3, h2, h2, ch5, h6, h6, h6, h6, ch8, h9, trivial⟩
      · rw [if_neg h9] at h
        have h9 := Bool.eq_false_iff.2 h9
        obtain ⟨x6, h10, h⟩ := bind_some h
        try dsimp only at h
        obtain ⟨rh15, h15, h⟩ := bind_some h
        have ch15 := f33_p4_ok F x1 x6 F 1 _ h15
        obtain ⟨x10, rfl⟩ : ∃ z, z = rh15 := ⟨_, rfl⟩
        try dsimp only at h
        by_cases h16 : (x10 == ((List.length x1 : Nat) : Int)) = true
        · rw [if_pos h16] at h
          by_cases h17 : (x6 == x10) = true
          · rw [if_pos h17] at h
            obtain rfl := Option.some.inj h
            exact callOK cxOK cxW Try.func33 (by kernel_rfl) (f33_e1 x1 x2 x3 x4 x5 x6 x10) ⟨ch1, h2, h2, ch3, h2, h2, ch5, h6, h6, h6, h6, ch8, h9, ⟨(at?_spec h10).1, x6, (at?_spec h10).2, rfl⟩, ch15, h16, h16, h16, h16, h17, h17, h17, h17, h16, h17, h16, rfl, trivial⟩
          · rw [if_neg h17] at h
            have h17 := Bool.eq_false_iff.2 h17
            by_cases h18 : (x6 == (w64 (x10 + 1))) = true
            · rw [if_pos h18] at h
              obtain rfl := Option.some.inj h
              exact callOK cxOK cxW Try.func33 (by kernel_rfl) (f33_e2 x1 x2 x3 x4 x5 x6 x10) ⟨ch1, h2, h2, ch3, h2, h2, ch5, h6, h6, h6, h6, ch8, h9, ⟨(at?_spec h10).1, x6, (at?_spec h10).2, rfl⟩, ch15, h16, h16, h16, h16, h17, h17, h17, h17, h16, h17, h16, h18, trivial⟩
            · rw [if_neg h18] at h
              have h18 := Bool.eq_false_iff.2 h18
              obtain ⟨h19, h⟩ := req_some h
              by_cases h20 : (decide (x6 ≤ x10)) = true
              · rw [if_pos h20] at h
                obtain ⟨h21, h⟩ := req_some h
                obtain ⟨rh30, h30, h⟩ := bind_some h
                have ch30 := f33_p10_ok F x6 x1 F 0 (([] : List Int) ++ x1) _ h30
                obtain ⟨x16, rfl⟩ : ∃ z, z = rh30 := ⟨_, rfl⟩
                try dsimp only at h
                obtain ⟨h31, h⟩ := req_some h
                obtain rfl := Option.some.inj h
                exact callOK cxOK cxW Try.func33 (by kernel_rfl) (f33_e3 x1 x2 x3 x4 x5 x6 x10 x16) ⟨ch1, h2, h2, ch3, h2, h2, ch5, h6, h6, h6, h6, ch8, h9, ⟨(at?_spec h10).1, x6, (at?_spec h10).2, rfl⟩, ch15, h16, h16, h16, h16, h17, h17, h17, h17, h16, h17, h16, h18, h19, (.inl rfl), h20, h21, ch30, h31, trivial⟩
              · rw [if_neg h20] at h
                have h20 := Bool.eq_false_iff.2 h20
                obtain ⟨rh44, h44, h⟩ := bind_some h
                have ch44 := f33_p14_ok F x10 x1 F 0 (([] : List Int) ++ x1) _ h44
                obtain ⟨x25, rfl⟩ : ∃ z, z = rh44 := ⟨_, rfl⟩
                try dsimp only at h
                obtain ⟨h45, h⟩ := req_some h
                obtain ⟨h46, h⟩ := req_some h
                obtain rfl := Option.some.inj h
                exact callOK cxOK cxW Try.func33 (by kernel_rfl) (f33_e4 x1 x2 x3 x4 x5 x6 x10 x25) ⟨ch1, h2, h2, ch3, h2, h2, ch5, h6, h6, h6, h6, ch8, h9, ⟨(at?_spec h10).1, x6, (at?_spec h10).2, rfl⟩, ch15, h16, h16, h16, h16, h17, h17, h17, h17, h16, h17, h16, h18, h19, (.inl rfl), h20, ch44, h45, h46, (Nat.le_of_eq (Nat.zero_add _)), trivial⟩
        · rw [if_neg h16] at h
          have h16 := Bool.eq_false_iff.2 h16
          obtain ⟨h47, h⟩ := req_some h
          by_cases h48 : (decide (x6 ≤ x10)) = true
          · rw [if_pos h48] at h
            obtain ⟨h49, h⟩ := req_some h
            obtain ⟨rh58, h58, h⟩ := bind_some h
            have ch58 := f33_p10_1_ok F x6 x1 F 0 (([] : List Int) ++ x1) _ h58
            obtain ⟨x31, rfl⟩ : ∃ z, z = rh58 := ⟨_, rfl⟩
            try dsimp only at h
            obtain ⟨h59, h⟩ := req_some h
            obtain rfl := Option.some.inj h
            exact callOK cxOK cxW Try.func33 (by kernel_rfl) (f33_e5 x1 x2 x3 x4 x5 x6 x10 x31) ⟨ch1, h2, h2, ch3, h2, h2, ch5, h6, h6, h6, h6, ch8, h9, ⟨(at?_spec h10).1, x6, (at?_spec h10).2, rfl⟩, ch15, h16, h16, h16, h16, h16, h16, rfl, h47, (.inl rfl), h48, h49, ch58, h59, trivial⟩
          · rw [if_neg h48] at h
            have h48 := Bool.eq_false_iff.2 h48
            obtain ⟨rh72, h72, h⟩ := bind_some h
            have ch72 := f33_p14_1_ok F x10 x1 F 0 (([] : List Int) ++ x1) _ h72
            obtain ⟨x40, rfl⟩ : ∃ z, z = rh72 := ⟨_, rfl⟩
            try dsimp only at h
            obtain ⟨h73, h⟩ := req_some h
            obtain ⟨h74, h⟩ := req_some h
            obtain rfl := Option.some.inj h
            exact callOK cxOK cxW Try.func33 (by kernel_rfl) (f33_e6 x1 x2 x3 x4 x5 x6 x10 x40) ⟨ch1, h2, h2, ch3, h2, h2, ch5, h6, h6, h6, h6, ch8, h9, ⟨(at?_spec h10).1, x6, (at?_spec h10).2, rfl⟩, ch15, h16, h16, h16, h16, h16, h16, rfl, h47, (.inl rfl), h48, ch72, h73, h74, (Nat.le_of_eq (Nat.zero_add _)), trivial⟩
    · rw [if_neg h6] at h
      have h6 := Bool.eq_false_iff.2 h6
      obtain rfl := Option.some.inj h
      exact callOK cxOK cxW Try.func33 (by kernel_rfl) (f33_e7 x1 x2 x3 x4) ⟨ch1, h2, h2, ch3, h2, h2, ch5, h6, h6, h6, h6, rfl, (by rw [bne, h6]; rfl), trivial⟩
  · rw [if_neg h2] at h
    have h2 := Bool.eq_false_iff.2 h2
    obtain rfl := Option.some.inj h
    exact callOK cxOK cxW Try.func33 (by kernel_rfl) (f33_e8 x1 x2) ⟨ch1, h2, h2, h2, h2, rfl, h2, h2, h2, h2, rfl, (by rw [bne, h2]; rfl), trivial⟩

theorem f4_ok (F : Nat) (x1 : List Int) (r : Bool) (h : f4 F x1 = some r) : f4_C x1 r := by
  unfold f4 at h
  obtain ⟨rh1, h1, h⟩ := bind_some h
  have ch1 := f24_ok F x1 _ h1
  obtain ⟨x2, rfl⟩ : ∃ z, z = rh1 := ⟨_, rfl⟩
  try dsimp only at h
  by_cases h2 : x2 = true
  · rw [if_pos h2] at h
    obtain ⟨rh3, h3, h⟩ := bind_some h
    have ch3 := f19_ok F _ h3
    obtain ⟨x3, rfl⟩ : ∃ z, z = rh3 := ⟨_, rfl⟩
    try dsimp only at h
    obtain rfl := Option.some.inj h
    exact callOK cxOK cxW Try.func4 (by kernel_rfl) (f4_e0 x1 x2 x3) ⟨ch1, h2, ch3, trivial⟩
  · rw [if_neg h2] at h
    have h2 := Bool.eq_false_iff.2 h2
    obtain ⟨rh4, h4, h⟩ := bind_some h
    have ch4 := f25_ok F x1 _ h4
    obtain ⟨x4, x5⟩ := rh4
    try dsimp only at h
    obtain ⟨rh5, h5, h⟩ := bind_some h
    have ch5 := f26_ok F x1 _ h5
    obtain ⟨x6, x7⟩ := rh5
    try dsimp only at h
    obtain ⟨rh6, h6, h⟩ := bind_some h
    have ch6 := f27_ok F x1 _ h6
    obtain ⟨x8, x9⟩ := rh6
    try dsimp only at h
    obtain ⟨rh7, h7, h⟩ := bind_some h
    have ch7 := f28_ok F x1 _ h7
    obtain ⟨x10, x11⟩ := rh7
    try dsimp only at h
    obtain ⟨rh8, h8, h⟩ := bind_some h
    have ch8 := f29_ok F x1 _ h8
    obtain ⟨x12, x13⟩ := rh8
    try dsimp only at h
    obtain ⟨rh9, h9, h⟩ := bind_some h
    have ch9 := f30_ok F x1 _ h9
    obtain ⟨x14, x15⟩ := rh9
    try dsimp only at h
    obtain ⟨rh10, h10, h⟩ := bind_some h
    have ch10 := f31_ok F x4 x6 _ h10
    obtain ⟨x16, rfl⟩ : ∃ z, z = rh10 := ⟨_, rfl⟩
    try dsimp only at h
    by_cases h11 : x16 = true
    · rw [if_pos h11] at h
      by_cases h12 : (x5 != x7) = true
      · rw [if_pos h12] at h
        cases h
      · rw [if_neg h12] at h
        have h12 := Bool.eq_false_iff.2 h12
        obtain ⟨rh13, h13, h⟩ := bind_some h
        have ch13 := f31_ok F x8 x10 _ h13
        obtain ⟨x17, rfl⟩ : ∃ z, z = rh13 := ⟨_, rfl⟩
        try dsimp only at h
        by_cases h14 : x17 = true
        · rw [if_pos h14] at h
          by_cases h15 : (x9 != x11) = true
          · rw [if_pos h15] at h
            cases h
          · rw [if_neg h15] at h
            have h15 := Bool.eq_false_iff.2 h15
            obtain ⟨rh16, h16, h⟩ := bind_some h
            have ch16 := f31_ok F x12 x14 _ h16
            obtain ⟨x18, rfl⟩ : ∃ z, z = rh16 := ⟨_, rfl⟩
            try dsimp only at h
            by_cases h17 : x18 = true
            · rw [if_pos h17] at h
              by_cases h18 : (x13 != x15) = true
              · rw [if_pos h18] at h
                cases h
              · rw [if_neg h18] at h
                have h18 := Bool.eq_false_iff.2 h18
                obtain ⟨rh19, h19, h⟩ := bind_some h
                have ch19 := f32_ok F x1 _ h19
                obtain ⟨x19, x20⟩ := rh19
                try dsimp only at h
                obtain ⟨rh20, h20, h⟩ := bind_some h
                have ch20 := f33_ok F x1 _ h20
                obtain ⟨x21, x22⟩ := rh20
                try dsimp only at h
                obtain ⟨rh21, h21, h⟩ := bind_some h
                have ch21 := f31_ok F x19 x21 _ h21
                obtain ⟨x23, rfl⟩ : ∃ z, z = rh21 := ⟨_, rfl⟩
                try dsimp only at h
                by_cases h22 : x23 = true
                · rw [if_pos h22] at h
                  by_cases h23 : (x20 == x22) = true
                  · rw [if_pos h23] at h
                    obtain ⟨rh24, h24, h⟩ := bind_some h
                    have ch24 := f34_ok F x1 _ h24
                    obtain ⟨x24, rfl⟩ : ∃ z, z = rh24 := ⟨_, rfl⟩
                    try dsimp only at h
                    obtain ⟨rh25, h25, h⟩ := bind_some h
                    have ch25 := f35_ok F x1 _ h25
                    obtain ⟨x25, rfl⟩ : ∃ z, z = rh25 := ⟨_, rfl⟩
                    try dsimp only at h
                    by_cases h26 : (x24 == x25) = true
                    · rw [if_pos h26] at h
                      obtain ⟨rh27, h27, h⟩ := bind_some h
                      have ch27 := f19_ok F _ h27
                      obtain ⟨x26, rfl⟩ : ∃ z, z = rh27 := ⟨_, rfl⟩
                      try dsimp only at h
                      obtain rfl := Option.some.inj h
                      exact callOK cxOK cxW Try.func4 (by kernel_rfl) (f4_e1 x1 x2 x4 x5 x6 x7 x8 x9 x10 x11 x12 x13 x14 x15 x16 x17 x18 x19 x20 x21 x22 x23 x24 x25 x26) ⟨ch1, h2, ch4, ch5, ch6, ch7, ch8, ch9, ch10, (by rw [h11]; rfl), (by rw [h11]; rfl), (by rw [h11]; rfl), (by rw [h11]; rfl), h12, h12, h12, ch13, h12, h12, (by rw [h14]; rfl), (by rw [h14]; rfl), (by rw [h14]; rfl), (by rw [h14]; rfl), h15, h15, h15, ch16, h15, h15, (by rw [h17]; rfl), (by rw [h17]; rfl), (by rw [h17]; rfl), (by rw [h17]; rfl), h18, ch19, ch20, ch21, h22, h22, h22, h22, h23, h23, ch24, h23, h23, ch25, h23, h23, h26, ch27, h26, trivial⟩
                    · rw [if_neg h26] at h
                      have h26 := Bool.eq_false_iff.2 h26
                      cases h
                  · rw [if_neg h23] at h
                    have h23 := Bool.eq_false_iff.2 h23
                    cases h
                · rw [if_neg h22] at h
                  have h22 := Bool.eq_false_iff.2 h22
                  cases h
            · rw [if_neg h17] at h
              have h17 := Bool.eq_false_iff.2 h17
              cases h
        · rw [if_neg h14] at h
          have h14 := Bool.eq_false_iff.2 h14
          cases h
    · rw [if_neg h11] at h
      have h11 := Bool.eq_false_iff.2 h11
      cases h

end Go.Gh.Bunch
