/- Sale4F1: printed by wip/tool/gx.py -/
import Derived.Test.YtdbaljbhnpchjaaSale4F0
namespace Go.Gh.Sale
set_option linter.unusedVariables false
set_option linter.unusedSimpArgs false
open Go.Proofs

theorem f79_p0_ok (F : Nat) (x1 : List (List Int)) (x2 : Int) (x3 : List Int) (x5 x8 x9 : Int) (r : Int) (h : f79_p0 F x1 x2 x3 x5 x8 x9 = some r) : f79_p0_P x1 x2 x3 x5 x8 x9 r := by
  unfold f79_p0 at h
  by_cases h8 : (decide (x9 ≥ 0)) = true
  · rw [if_pos h8] at h
    obtain ⟨x10, h9, h⟩ := bind_some h
    try dsimp only at h
    obtain ⟨x11, h10, h⟩ := bind_some h
    try dsimp only at h
    obtain ⟨x12, h11, h⟩ := bind_some h
    try dsimp only at h
    obtain rfl := Option.some.inj h
    exact gRun_ok cxOK (f79_p0_e0 x1 x2 x3 x5 x8 x9 x10 x11 x12) ⟨h8, ⟨(at?_spec h9).1, x10, (at?_spec h9).2, rfl⟩, ⟨(at?_spec h10).1, x11, (at?_spec h10).2, rfl⟩, ⟨(at?_spec h11).1, x12, (at?_spec h11).2, rfl⟩, trivial⟩
  · rw [if_neg h8] at h
    have h8 := Bool.eq_false_iff.2 h8
    obtain rfl := Option.some.inj h
    exact gRun_ok cxOK (f79_p0_e1 x1 x2 x3 x5 x8 x9) ⟨h8, trivial⟩
theorem f79_ok (F : Nat) (x1 : List (List Int)) (x2 : Int) (r : Int) (h : f79 F x1 x2 = some r) : f79_C x1 x2 r := by
  unfold f79 at h
  obtain ⟨h1, h⟩ := req_some h
  obtain ⟨h2, h⟩ := req_some h
  obtain ⟨h3, h⟩ := req_some h
  obtain ⟨h4, h⟩ := req_some h
  obtain ⟨rh5, h5, h⟩ := bind_some h
  have ch5 := f67_ok F x1 (-1) _ h5
  obtain ⟨x3, x4, x5⟩ := rh5
  try dsimp only at h
  obtain ⟨rh6, h6, h⟩ := bind_some h
  have ch6 := f67_ok F (List.drop 0 (List.take (0 + (List.length ((([] : List (List Int)) ++ (List.drop 0 (List.take (Int.toNat x2) x1))) ++ (List.drop (Int.toNat (w64 (x2 + 1))) (List.take (List.length x1) x1))))) ((([] : List (List Int)) ++ (List.drop 0 (List.take (Int.toNat x2) x1))) ++ (List.drop (Int.toNat (w64 (x2 + 1))) (List.take (List.length x1) x1))))) (-1) _ h6
  obtain ⟨x6, x7, x8⟩ := rh6
  try dsimp only at h
  obtain ⟨x9, h7, h⟩ := bind_some h
  try dsimp only at h
  obtain ⟨x13, h12, h⟩ := bind_some h
  have ch12 := f79_p0_ok F x1 x2 x3 x5 x8 x9 _ h12
  try dsimp only at h
  obtain rfl := Option.some.inj h
  exact callOK cxOK cxW Try.func79 (by kernel_rfl) (f79_e0 x1 x2 x3 x4 x5 x6 x7 x8 x9 x13) ⟨h1, h2, (.inl rfl), h3, h4, rfl, ch5, (Nat.le_of_eq (Nat.zero_add _)), ch6, ⟨(at?_spec h7).1, x9, (at?_spec h7).2, rfl⟩, ch12, trivial⟩

theorem f27_p2_ok (F : Nat) (x1 : List (List Int)) : ∀ (k : Nat) (x6 : Int) (x5 : List Int) (r : (List Int)), f27_p2 F x1 k x6 x5 = some r → f27_p2_P x1 x6 x5 r
  | 0, _, _, _, h => by cases h
  | k + 1, x6, x5, r, h => by
    unfold f27_p2 at h
    by_cases h6 : (decide (x6 < ((List.length x1 : Nat) : Int))) = true
    · rw [if_pos h6] at h
      obtain ⟨x7, h7, h⟩ := bind_some h
      have ch7 := f79_ok F x1 x6 _ h7
      try dsimp only at h
      obtain ⟨h8, h⟩ := req_some h
      exact Lp.again (gRun_ok cxOK (f27_p2_e0 x1 x5 x6 x7) ⟨h6, ch7, h8, rfl, trivial⟩) (f27_p2_ok F x1 k (w64 (x6 + 1)) (x5 ++ ([x7] : List Int)) r h)
    · rw [if_neg h6] at h
      have h6 := Bool.eq_false_iff.2 h6
      obtain rfl := Option.some.inj h
      exact Lp.out (gRun_ok cxOK (f27_p2_e1 x1 x5 x6) ⟨h6, trivial⟩) (by intro hh; cases hh)
theorem f27_ok (F : Nat) (x1 : List (List Int)) (r : (List Int) × Int) (h : f27 F x1 = some r) : f27_C x1 r := by
  unfold f27 at h
  obtain ⟨x2, h1, h⟩ := bind_some h
  have ch1 := f25_ok F x1 _ h1
  try dsimp only at h
  by_cases h2 : (x2 != 0) = true
  · rw [if_pos h2] at h
    obtain rfl := Option.some.inj h
    exact callOK cxOK cxW Try.func27 (by kernel_rfl) (f27_e0 x1 x2) ⟨ch1, h2, trivial⟩
  · rw [if_neg h2] at h
    have h2 := Bool.eq_false_iff.2 h2
    obtain ⟨x8, h9, h⟩ := bind_some h
    have ch9 := f27_p2_ok F x1 F 0 ([] : List Int) _ h9
    try dsimp only at h
    obtain rfl := Option.some.inj h
    exact callOK cxOK cxW Try.func27 (by kernel_rfl) (f27_e1 x1 x2 x8) ⟨ch1, h2, ch9, (Nat.le_of_eq (Nat.zero_add _)), trivial⟩

theorem f81_ok (F : Nat) (x1 : List (List Int)) (x2 x3 x4 : Int) (r : Int) (h : f81 F x1 x2 x3 x4 = some r) : f81_C x1 x2 x3 x4 r := by
  unfold f81 at h
  by_cases h1 : (decide (x3 < 0)) = true
  · rw [if_pos h1] at h
    obtain rfl := Option.some.inj h
    exact callOK cxOK cxW Try.func81 (by kernel_rfl) (f81_e0 x1 x2 x3 x4) ⟨h1, trivial⟩
  · rw [if_neg h1] at h
    have h1 := Bool.eq_false_iff.2 h1
    obtain ⟨x5, h2, h⟩ := bind_some h
    try dsimp only at h
    obtain ⟨x6, h3, h⟩ := bind_some h
    try dsimp only at h
    obtain rfl := Option.some.inj h
    exact callOK cxOK cxW Try.func81 (by kernel_rfl) (f81_e1 x1 x2 x3 x4 x5 x6) ⟨h1, ⟨(at?_spec h2).1, x5, (at?_spec h2).2, rfl⟩, ⟨(at?_spec h3).1, x6, (at?_spec h3).2, rfl⟩, trivial⟩

theorem f29_p2_ok (F : Nat) (x1 : List (List Int)) (x3 : List Int) : ∀ (k : Nat) (x11 : Int) (x10 : List Int) (r : (List Int)), f29_p2 F x1 x3 k x11 x10 = some r → f29_p2_P x1 x3 x11 x10 r
  | 0, _, _, _, h => by cases h
  | k + 1, x11, x10, r, h => by
    unfold f29_p2 at h
    by_cases h9 : (decide (x11 < ((List.length x1 : Nat) : Int))) = true
    · rw [if_pos h9] at h
      obtain ⟨x12, h10, h⟩ := bind_some h
      try dsimp only at h
      obtain ⟨x13, h11, h⟩ := bind_some h
      have ch11 := f79_ok F x1 x11 _ h11
      try dsimp only at h
      obtain ⟨x14, h12, h⟩ := bind_some h
      have ch12 := f81_ok F x1 x11 x12 x13 _ h12
      try dsimp only at h
      obtain ⟨h13, h⟩ := req_some h
      exact Lp.again (gRun_ok cxOK (f29_p2_e0 x1 x3 x10 x11 x12 x13 x14) ⟨h9, ⟨(at?_spec h10).1, x12, (at?_spec h10).2, rfl⟩, ch11, ch12, h13, rfl, trivial⟩) (f29_p2_ok F x1 x3 k (w64 (x11 + 1)) (x10 ++ ([x14] : List Int)) r h)
    · rw [if_neg h9] at h
      have h9 := Bool.eq_false_iff.2 h9
      obtain rfl := Option.some.inj h
      exact Lp.out (gRun_ok cxOK (f29_p2_e1 x1 x3 x10 x11) ⟨h9, trivial⟩) (by intro hh; cases hh)
theorem f29_ok (F : Nat) (x1 : List (List Int)) (r : (List Int) × Int) (h : f29 F x1 = some r) : f29_C x1 r := by
  unfold f29 at h
  obtain ⟨x2, h1, h⟩ := bind_some h
  have ch1 := f25_ok F x1 _ h1
  try dsimp only at h
  by_cases h2 : (x2 != 0) = true
  · rw [if_pos h2] at h
    obtain rfl := Option.some.inj h
    exact callOK cxOK cxW Try.func29 (by kernel_rfl) (f29_e0 x1 x2) ⟨ch1, h2, trivial⟩
  · rw [if_neg h2] at h
    have h2 := Bool.eq_false_iff.2 h2
    obtain ⟨rh3, h3, h⟩ := bind_some h
    have ch3 := f67_ok F x1 (-1) _ h3
    obtain ⟨x3, x4, x5⟩ := rh3
    try dsimp only at h
    obtain ⟨x15, h14, h⟩ := bind_some h
    have ch14 := f29_p2_ok F x1 x3 F 0 ([] : List Int) _ h14
    try dsimp only at h
    obtain rfl := Option.some.inj h
    exact callOK cxOK cxW Try.func29 (by kernel_rfl) (f29_e1 x1 x2 x3 x4 x5 x15) ⟨ch1, h2, ch3, ch14, (Nat.le_of_eq (Nat.zero_add _)), trivial⟩

theorem f82_p2_ok (F : Nat) (x2 : List Int) : ∀ (k : Nat) (x4 : Int) (r : f82_p2_R), f82_p2 F x2 k x4 = some r → f82_p2_P x2 x4 r
  | 0, _, _, h => by cases h
  | k + 1, x4, r, h => by
    unfold f82_p2 at h
    by_cases h3 : (decide (x4 < ((List.length x2 : Nat) : Int))) = true
    · rw [if_pos h3] at h
      obtain ⟨x5, h4, h⟩ := bind_some h
      try dsimp only at h
      obtain ⟨x6, h5, h⟩ := bind_some h
      have ch5 := f73_ok F x5 0 99 _ h5
      try dsimp only at h
      by_cases h6 : x6 = true
      · rw [if_pos h6] at h
        exact Lp.again (gRun_ok cxOK (f82_p2_e0 x2 x4 x5 x6) ⟨h3, ⟨(at?_spec h4).1, x5, (at?_spec h4).2, rfl⟩, ch5, (by rw [h6]; rfl), trivial⟩) (f82_p2_ok F x2 k (w64 (x4 + 1)) r h)
      · rw [if_neg h6] at h
        have h6 := Bool.eq_false_iff.2 h6
        obtain rfl := Option.some.inj h
        exact Lp.out (gRun_ok cxOK (f82_p2_e1 x2 x4 x5 x6) ⟨h3, ⟨(at?_spec h4).1, x5, (at?_spec h4).2, rfl⟩, ch5, (by rw [h6]; rfl), trivial⟩) (by intro hh; cases hh)
    · rw [if_neg h3] at h
      have h3 := Bool.eq_false_iff.2 h3
      obtain rfl := Option.some.inj h
      exact Lp.out (gRun_ok cxOK (f82_p2_e2 x2 x4) ⟨h3, trivial⟩) (by intro hh; cases hh)
theorem f82_ok (F : Nat) (x1 : List (List Int)) (x2 : List Int) (r : Int) (h : f82 F x1 x2 = some r) : f82_C x1 x2 r := by
  unfold f82 at h
  obtain ⟨x3, h1, h⟩ := bind_some h
  try dsimp only at h
  by_cases h2 : (((List.length x2 : Nat) : Int) != ((List.length x3 : Nat) : Int)) = true
  · rw [if_pos h2] at h
    obtain rfl := Option.some.inj h
    exact callOK cxOK cxW Try.func82 (by kernel_rfl) (f82_e0 x1 x2 x3) ⟨⟨(at?_spec h1).1, x3, (at?_spec h1).2, rfl⟩, h2, trivial⟩
  · rw [if_neg h2] at h
    have h2 := Bool.eq_false_iff.2 h2
    obtain ⟨rh7, h7, h⟩ := bind_some h
    have ch7 := f82_p2_ok F x2 F 0 _ h7
    cases rh7 with
    | c0 =>
      try dsimp only at h
      obtain rfl := Option.some.inj h
      exact callOK cxOK cxW Try.func82 (by kernel_rfl) (f82_e1 x1 x2 x3) ⟨⟨(at?_spec h1).1, x3, (at?_spec h1).2, rfl⟩, h2, ch7, trivial⟩
    | c1 =>
      try dsimp only at h
      obtain rfl := Option.some.inj h
      exact callOK cxOK cxW Try.func82 (by kernel_rfl) (f82_e2 x1 x2 x3) ⟨⟨(at?_spec h1).1, x3, (at?_spec h1).2, rfl⟩, h2, ch7, trivial⟩

theorem f31_p0_ok (F : Nat) (x1 : List (List Int)) (x2 : Int) (x3 : List Int) (x4 : Int) (x5 : Bool) (r : Int) (h : f31_p0 F x1 x2 x3 x4 x5 = some r) : f31_p0_P x1 x2 x3 x4 x5 r := by
  unfold f31_p0 at h
  by_cases h4 : x5 = true
  · rw [if_pos h4] at h
    obtain rfl := Option.some.inj h
    exact gRun_ok cxOK (f31_p0_e0 x1 x2 x3 x4 x5) ⟨(by rw [h4]; rfl), trivial⟩
  · rw [if_neg h4] at h
    have h4 := Bool.eq_false_iff.2 h4
    obtain rfl := Option.some.inj h
    exact gRun_ok cxOK (f31_p0_e1 x1 x2 x3 x4 x5) ⟨(by rw [h4]; rfl), trivial⟩
theorem f31_p1_ok (F : Nat) (x1 : List (List Int)) (x2 : Int) (x3 : List Int) (x6 : Int) (r : Int) (h : f31_p1 F x1 x2 x3 x6 = some r) : f31_p1_P x1 x2 x3 x6 r := by
  unfold f31_p1 at h
  by_cases h6 : (x6 == 0) = true
  · rw [if_pos h6] at h
    obtain ⟨x7, h7, h⟩ := bind_some h
    have ch7 := f82_ok F x1 x3 _ h7
    try dsimp only at h
    obtain rfl := Option.some.inj h
    exact gRun_ok cxOK (f31_p1_e0 x1 x2 x3 x6 x7) ⟨h6, ch7, trivial⟩
  · rw [if_neg h6] at h
    have h6 := Bool.eq_false_iff.2 h6
    obtain rfl := Option.some.inj h
    exact gRun_ok cxOK (f31_p1_e1 x1 x2 x3 x6) ⟨h6, trivial⟩
theorem f31_ok (F : Nat) (x1 : List (List Int)) (x2 : Int) (x3 : List Int) (r : Int × Int × Int × Int) (h : f31 F x1 x2 x3 = some r) : f31_C x1 x2 x3 r := by
  unfold f31 at h
  obtain ⟨x4, h1, h⟩ := bind_some h
  have ch1 := f25_ok F x1 _ h1
  try dsimp only at h
  by_cases h2 : (x4 == 0) = true
  · rw [if_pos h2] at h
    obtain ⟨x5, h3, h⟩ := bind_some h
    have ch3 := f73_ok F x2 0 (w64 (((List.length x1 : Nat) : Int) - 1)) _ h3
    try dsimp only at h
    obtain ⟨x6, h5, h⟩ := bind_some h
    have ch5 := f31_p0_ok F x1 x2 x3 x4 x5 _ h5
    try dsimp only at h
    obtain ⟨x8, h8, h⟩ := bind_some h
    have ch8 := f31_p1_ok F x1 x2 x3 x6 _ h8
    try dsimp only at h
    by_cases h9 : (x8 != 0) = true
    · rw [if_pos h9] at h
      obtain rfl := Option.some.inj h
      exact callOK cxOK cxW Try.func31 (by kernel_rfl) (f31_e0 x1 x2 x3 x4 x5 x6 x8) ⟨ch1, h2, h2, h2, h2, h2, ch3, h2, h2, ch5, ch8, h9, trivial⟩
    · rw [if_neg h9] at h
      have h9 := Bool.eq_false_iff.2 h9
      obtain ⟨h10, h⟩ := req_some h
      obtain ⟨h11, h⟩ := req_some h
      obtain ⟨h12, h⟩ := req_some h
      obtain ⟨h13, h⟩ := req_some h
      obtain ⟨rh14, h14, h⟩ := bind_some h
      have ch14 := f67_ok F (List.drop 0 (List.take (0 + (List.length (([] : List (List Int)) ++ x1))) (List.set (([] : List (List Int)) ++ x1) (0 + (Int.toNat x2)) x3))) (-1) _ h14
      obtain ⟨x9, x10, x11⟩ := rh14
      try dsimp only at h
      obtain ⟨x12, h15, h⟩ := bind_some h
      have ch15 := f79_ok F (List.drop 0 (List.take (0 + (List.length (([] : List (List Int)) ++ x1))) (List.set (([] : List (List Int)) ++ x1) (0 + (Int.toNat x2)) x3))) x2 _ h15
      try dsimp only at h
      obtain ⟨x13, h16, h⟩ := bind_some h
      try dsimp only at h
      obtain ⟨x14, h17, h⟩ := bind_some h
      have ch17 := f81_ok F x1 x2 x13 x12 _ h17
      try dsimp only at h
      obtain rfl := Option.some.inj h
      exact callOK cxOK cxW Try.func31 (by kernel_rfl) (f31_e1 x1 x2 x3 x4 x5 x6 x8 x9 x10 x11 x12 x13 x14) ⟨ch1, h2, h2, h2, h2, h2, ch3, h2, h2, ch5, ch8, h9, h10, (.inl rfl), h11, h12, h13, ch14, ch15, ⟨(at?_spec h16).1, x13, (at?_spec h16).2, rfl⟩, ⟨(at?_spec h16).1, x13, (at?_spec h16).2, rfl⟩, ch17, trivial⟩
  · rw [if_neg h2] at h
    have h2 := Bool.eq_false_iff.2 h2
    obtain rfl := Option.some.inj h
    exact callOK cxOK cxW Try.func31 (by kernel_rfl) (f31_e2 x1 x2 x3 x4) ⟨ch1, h2, h2, h2, h2, h2, h2, h2, rfl, h2, (by rw [bne, h2]; rfl), trivial⟩

theorem f4_ok (F : Nat) (x1 : List (List Int)) (x2 : Int) (x3 : List Int) (r : Bool) (h : f4 F x1 x2 x3 = some r) : f4_C x1 x2 x3 r := by
  unfold f4 at h
  obtain ⟨x4, h1, h⟩ := bind_some h
  have ch1 := f15_ok F x1 _ h1
  try dsimp only at h
  by_cases h2 : x4 = true
  · rw [if_pos h2] at h
    obtain ⟨x5, h3, h⟩ := bind_some h
    have ch3 := f16_ok F _ h3
    try dsimp only at h
    obtain rfl := Option.some.inj h
    exact callOK cxOK cxW Try.func4 (by kernel_rfl) (f4_e0 x1 x2 x3 x4 x5) ⟨ch1, h2, h2, h2, h2, rfl, ch3, trivial⟩
  · rw [if_neg h2] at h
    have h2 := Bool.eq_false_iff.2 h2
    by_cases h4 : (decide (((List.length x3 : Nat) : Int) > 30)) = true
    · rw [if_pos h4] at h
      obtain ⟨x6, h5, h⟩ := bind_some h
      have ch5 := f16_ok F _ h5
      try dsimp only at h
      obtain rfl := Option.some.inj h
      exact callOK cxOK cxW Try.func4 (by kernel_rfl) (f4_e1 x1 x2 x3 x4 x6) ⟨ch1, h2, h2, h2, h2, h4, ch5, trivial⟩
    · rw [if_neg h4] at h
      have h4 := Bool.eq_false_iff.2 h4
      obtain ⟨rh6, h6, h⟩ := bind_some h
      have ch6 := f26_ok F x1 _ h6
      obtain ⟨x7, x8⟩ := rh6
      try dsimp only at h
      obtain ⟨rh7, h7, h⟩ := bind_some h
      have ch7 := f27_ok F x1 _ h7
      obtain ⟨x9, x10⟩ := rh7
      try dsimp only at h
      obtain ⟨rh8, h8, h⟩ := bind_some h
      have ch8 := f28_ok F x1 _ h8
      obtain ⟨x11, x12⟩ := rh8
      try dsimp only at h
      obtain ⟨rh9, h9, h⟩ := bind_some h
      have ch9 := f29_ok F x1 _ h9
      obtain ⟨x13, x14⟩ := rh9
      try dsimp only at h
      obtain ⟨rh10, h10, h⟩ := bind_some h
      have ch10 := f30_ok F x1 x2 x3 _ h10
      obtain ⟨x15, x16, x17, x18⟩ := rh10
      try dsimp only at h
      obtain ⟨rh11, h11, h⟩ := bind_some h
      have ch11 := f31_ok F x1 x2 x3 _ h11
      obtain ⟨x19, x20, x21, x22⟩ := rh11
      try dsimp only at h
      obtain ⟨x23, h12, h⟩ := bind_some h
      have ch12 := f23_ok F x7 x9 _ h12
      try dsimp only at h
      by_cases h13 : x23 = true
      · rw [if_pos h13] at h
        by_cases h14 : (x8 == x10) = true
        · rw [if_pos h14] at h
          obtain ⟨x24, h15, h⟩ := bind_some h
          have ch15 := f23_ok F x11 x13 _ h15
          try dsimp only at h
          by_cases h16 : x24 = true
          · rw [if_pos h16] at h
            by_cases h17 : (x12 == x14) = true
            · rw [if_pos h17] at h
              by_cases h18 : (x15 == x19) = true
              · rw [if_pos h18] at h
                by_cases h19 : (x16 == x20) = true
                · rw [if_pos h19] at h
                  by_cases h20 : (x17 == x21) = true
                  · rw [if_pos h20] at h
                    by_cases h21 : (x18 == x22) = true
                    · rw [if_pos h21] at h
                      obtain ⟨x25, h22, h⟩ := bind_some h
                      have ch22 := f16_ok F _ h22
                      try dsimp only at h
                      obtain rfl := Option.some.inj h
                      exact callOK cxOK cxW Try.func4 (by kernel_rfl) (f4_e2 x1 x2 x3 x4 x7 x8 x9 x10 x11 x12 x13 x14 x15 x16 x17 x18 x19 x20 x21 x22 x23 x24 x25) ⟨ch1, h2, h2, h2, h2, h4, ch6, ch7, ch8, ch9, ch10, ch11, ch12, h13, h13, h13, h13, h14, h14, h14, ch15, h14, h16, h16, h16, h16, h17, h17, h17, h17, h18, h18, h18, h18, h19, h19, h19, h19, h20, h20, h20, h20, h21, ch22, h21, trivial⟩
                    · rw [if_neg h21] at h
                      have h21 := Bool.eq_false_iff.2 h21
                      cases h
                  · rw [if_neg h20] at h
                    have h20 := Bool.eq_false_iff.2 h20
                    cases h
                · rw [if_neg h19] at h
                  have h19 := Bool.eq_false_iff.2 h19
                  cases h
              · rw [if_neg h18] at h
                have h18 := Bool.eq_false_iff.2 h18
                cases h
            · rw [if_neg h17] at h
              have h17 := Bool.eq_false_iff.2 h17
              cases h
          · rw [if_neg h16] at h
            have h16 := Bool.eq_false_iff.2 h16
            cases h
        · rw [if_neg h14] at h
          have h14 := Bool.eq_false_iff.2 h14
          cases h
      · rw [if_neg h13] at h
        have h13 := Bool.eq_false_iff.2 h13
        cases h

end Go.Gh.Sale
