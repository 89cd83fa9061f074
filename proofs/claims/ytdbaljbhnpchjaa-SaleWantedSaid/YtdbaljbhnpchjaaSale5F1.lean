/- Sale5F1: printed by wip/tool/gx.py -/
import Derived.Test.YtdbaljbhnpchjaaSale5F0
namespace Go.Gh.Sale
set_option linter.unusedVariables false
set_option linter.unusedSimpArgs false
open Go.Proofs

theorem f82_p2_ok (F : Nat) (x2 : List Int) : ∀ (k : Nat) (x4 : Int) (r : f82_p2_R), f82_p2 F x2 k x4 = some r → f82_p2_P x2 x4 r
  | 0, _, _, h => by cases h
  | k + 1, x4, r, h => by
    unfold f82_p2 at h
    by_cases h3 : (decide (x4 < ((List.length x2 : Nat) : Int))) = true
    · rw [if_pos h3] at h
      obtain ⟨x5, h4, h⟩ := bind_some h
      try dsimp only at h
      obtain ⟨x6, h5, h⟩ := bind_some h
      have ch5 := f73_ok F x5 0 99 _ h5
      try dsimp only at h
      by_cases h6 : x6 = true
      · rw [if_pos h6] at h
        exact Lp.again (gRun_ok cxOK (f82_p2_e0 x2 x4 x5 x6) ⟨h3, ⟨(at?_spec h4).1, x5, (at?_spec h4).2, rfl⟩, ch5, (by rw [h6]; rfl), trivial⟩) (f82_p2_ok F x2 k (w64 (x4 + 1)) r h)
      · rw [if_neg h6] at h
        have h6 := Bool.eq_false_iff.2 h6
        obtain rfl := Option.some.inj h
        exact Lp.out (gRun_ok cxOK (f82_p2_e1 x2 x4 x5 x6) ⟨h3, ⟨(at?_spec h4).1, x5, (at?_spec h4).2, rfl⟩, ch5, (by rw [h6]; rfl), trivial⟩) (by intro hh; cases hh)
    · rw [if_neg h3] at h
      have h3 := Bool.eq_false_iff.2 h3
      obtain rfl := Option.some.inj h
      exact Lp.out (gRun_ok cxOK (f82_p2_e2 x2 x4) ⟨h3, trivial⟩) (by intro hh; cases hh)
theorem f82_ok (F : Nat) (x1 : List (List Int)) (x2 : List Int) (r : Int) (h : f82 F x1 x2 = some r) : f82_C x1 x2 r := by
  unfold f82 at h
  obtain ⟨x3, h1, h⟩ := bind_some h
  try dsimp only at h
  by_cases h2 : (((List.length x2 : Nat) : Int) != ((List.length x3 : Nat) : Int)) = true
  · rw [if_pos h2] at h
    obtain rfl := Option.some.inj h
    exact callOK cxOK cxW Try.func82 (by kernel_rfl) (f82_e0 x1 x2 x3) ⟨⟨(at?_spec h1).1, x3, (at?_spec h1).2, rfl⟩, h2, trivial⟩
  · rw [if_neg h2] at h
    have h2 := Bool.eq_false_iff.2 h2
    obtain ⟨rh7, h7, h⟩ := bind_some h
    have ch7 := f82_p2_ok F x2 F 0 _ h7
    cases rh7 with
    | c0 =>
      try dsimp only at h
      obtain rfl := Option.some.inj h
      exact callOK cxOK cxW Try.func82 (by kernel_rfl) (f82_e1 x1 x2 x3) ⟨⟨(at?_spec h1).1, x3, (at?_spec h1).2, rfl⟩, h2, ch7, trivial⟩
    | c1 =>
      try dsimp only at h
      obtain rfl := Option.some.inj h
      exact callOK cxOK cxW Try.func82 (by kernel_rfl) (f82_e2 x1 x2 x3) ⟨⟨(at?_spec h1).1, x3, (at?_spec h1).2, rfl⟩, h2, ch7, trivial⟩

theorem f85_p0_ok (F : Nat) (x1 : List (List Int)) (x2 : List Int) (x3 : Int) (r : Int) (h : f85_p0 F x1 x2 x3 = some r) : f85_p0_P x1 x2 x3 r := by
  unfold f85_p0 at h
  by_cases h2 : (x3 == 0) = true
  · rw [if_pos h2] at h
    obtain ⟨x4, h3, h⟩ := bind_some h
    have ch3 := f82_ok F x1 x2 _ h3
    try dsimp only at h
    obtain rfl := Option.some.inj h
    exact gRun_ok cxOK (f85_p0_e0 x1 x2 x3 x4) ⟨h2, ch3, trivial⟩
  · rw [if_neg h2] at h
    have h2 := Bool.eq_false_iff.2 h2
    obtain rfl := Option.some.inj h
    exact gRun_ok cxOK (f85_p0_e1 x1 x2 x3) ⟨h2, trivial⟩
theorem f85_ok (F : Nat) (x1 : List (List Int)) (x2 : List Int) (r : Int) (h : f85 F x1 x2 = some r) : f85_C x1 x2 r := by
  unfold f85 at h
  obtain ⟨x3, h1, h⟩ := bind_some h
  have ch1 := f25_ok F x1 _ h1
  try dsimp only at h
  obtain ⟨x5, h4, h⟩ := bind_some h
  have ch4 := f85_p0_ok F x1 x2 x3 _ h4
  try dsimp only at h
  obtain rfl := Option.some.inj h
  exact callOK cxOK cxW Try.func85 (by kernel_rfl) (f85_e0 x1 x2 x3 x5) ⟨ch1, ch4, trivial⟩

theorem f86_p1_ok (F : Nat) (x1 : List (List Int)) (x2 : List Int) (x3 : Int) : ∀ (k : Nat) (x4 x5 : Int) (r : Int), f86_p1 F x1 x2 x3 k x4 x5 = some r → f86_p1_P x1 x2 x3 x4 x5 r
  | 0, _, _, _, h => by cases h
  | k + 1, x4, x5, r, h => by
    unfold f86_p1 at h
    by_cases h1 : (decide (x5 < ((List.length x2 : Nat) : Int))) = true
    · rw [if_pos h1] at h
      obtain ⟨x6, h2, h⟩ := bind_some h
      try dsimp only at h
      obtain ⟨x7, h3, h⟩ := bind_some h
      try dsimp only at h
      obtain ⟨x8, h4, h⟩ := bind_some h
      try dsimp only at h
      exact Lp.again (gRun_ok cxOK (f86_p1_e0 x1 x2 x3 x4 x5 x6 x7 x8) ⟨h1, ⟨(at?_spec h2).1, x6, (at?_spec h2).2, rfl⟩, ⟨(at?_spec h3).1, x7, (at?_spec h3).2, rfl⟩, ⟨(at?_spec h4).1, x8, (at?_spec h4).2, rfl⟩, trivial⟩) (f86_p1_ok F x1 x2 x3 k (if (w64 (x7 - x8)) > x4 then (w64 (x7 - x8)) else x4) (w64 (x5 + 1)) r h)
    · rw [if_neg h1] at h
      have h1 := Bool.eq_false_iff.2 h1
      obtain rfl := Option.some.inj h
      exact Lp.out (gRun_ok cxOK (f86_p1_e1 x1 x2 x3 x4 x5) ⟨h1, trivial⟩) (by intro hh; cases hh)
theorem f86_p4_ok (F : Nat) (x1 : List (List Int)) (x2 : List Int) (x3 x9 : Int) (r : f86_p4_R) (h : f86_p4 F x1 x2 x3 x9 = some r) : f86_p4_P x1 x2 x3 x9 r := by
  unfold f86_p4 at h
  by_cases h6 : (x9 == 0) = true
  · rw [if_pos h6] at h
    obtain ⟨h7, h⟩ := req_some h
    obtain rfl := Option.some.inj h
    exact gRun_ok cxOK (f86_p4_e0 x1 x2 x3 x9) ⟨h6, h7, trivial⟩
  · rw [if_neg h6] at h
    have h6 := Bool.eq_false_iff.2 h6
    obtain rfl := Option.some.inj h
    exact gRun_ok cxOK (f86_p4_e1 x1 x2 x3 x9) ⟨h6, trivial⟩
theorem f86_p9_ok (F : Nat) (x1 : List (List Int)) (x2 : List Int) (x3 x9 : Int) (x10 : List Int) (x11 x13 x14 : Int) (r : (List Int)) (h : f86_p9 F x1 x2 x3 x9 x10 x11 x13 x14 = some r) : f86_p9_P x1 x2 x3 x9 x10 x11 x13 x14 r := by
  unfold f86_p9 at h
  by_cases h13 : ((w64 (x13 - x14)) == x9) = true
  · rw [if_pos h13] at h
    obtain ⟨h14, h⟩ := req_some h
    obtain rfl := Option.some.inj h
    exact gRun_ok cxOK (f86_p9_e0 x1 x2 x3 x9 x10 x11 x13 x14) ⟨h13, h14, rfl, trivial⟩
  · rw [if_neg h13] at h
    have h13 := Bool.eq_false_iff.2 h13
    obtain rfl := Option.some.inj h
    exact gRun_ok cxOK (f86_p9_e1 x1 x2 x3 x9 x10 x11 x13 x14) ⟨h13, trivial⟩
theorem f86_p6_ok (F : Nat) (x1 : List (List Int)) (x2 : List Int) (x3 x9 : Int) : ∀ (k : Nat) (x11 : Int) (x10 : List Int) (r : (List Int)), f86_p6 F x1 x2 x3 x9 k x11 x10 = some r → f86_p6_P x1 x2 x3 x9 x11 x10 r
  | 0, _, _, _, h => by cases h
  | k + 1, x11, x10, r, h => by
    unfold f86_p6 at h
    by_cases h9 : (decide (x11 < ((List.length x2 : Nat) : Int))) = true
    · rw [if_pos h9] at h
      obtain ⟨x12, h10, h⟩ := bind_some h
      try dsimp only at h
      obtain ⟨x13, h11, h⟩ := bind_some h
      try dsimp only at h
      obtain ⟨x14, h12, h⟩ := bind_some h
      try dsimp only at h
      obtain ⟨x15, h15, h⟩ := bind_some h
      have ch15 := f86_p9_ok F x1 x2 x3 x9 x10 x11 x13 x14 _ h15
      try dsimp only at h
      exact Lp.again (gRun_ok cxOK (f86_p6_e0 x1 x2 x3 x9 x10 x11 x12 x13 x14 x15) ⟨h9, ⟨(at?_spec h10).1, x12, (at?_spec h10).2, rfl⟩, ⟨(at?_spec h11).1, x13, (at?_spec h11).2, rfl⟩, ⟨(at?_spec h12).1, x14, (at?_spec h12).2, rfl⟩, ch15, trivial⟩) (f86_p6_ok F x1 x2 x3 x9 k (w64 (x11 + 1)) x15 r h)
    · rw [if_neg h9] at h
      have h9 := Bool.eq_false_iff.2 h9
      obtain rfl := Option.some.inj h
      exact Lp.out (gRun_ok cxOK (f86_p6_e1 x1 x2 x3 x9 x10 x11) ⟨h9, trivial⟩) (by intro hh; cases hh)
theorem f86_p9_2_ok (F : Nat) (x1 : List (List Int)) (x2 : List Int) (x3 x9 : Int) (x21 : List Int) (x22 x24 x25 : Int) (r : (List Int)) (h : f86_p9_2 F x1 x2 x3 x9 x21 x22 x24 x25 = some r) : f86_p9_2_P x1 x2 x3 x9 x21 x22 x24 x25 r := by
  unfold f86_p9_2 at h
  by_cases h28 : ((w64 (x24 - x25)) == x9) = true
  · rw [if_pos h28] at h
    obtain ⟨h29, h⟩ := req_some h
    obtain rfl := Option.some.inj h
    exact gRun_ok cxOK (f86_p9_2_e0 x1 x2 x3 x9 x21 x22 x24 x25) ⟨h28, h29, rfl, trivial⟩
  · rw [if_neg h28] at h
    have h28 := Bool.eq_false_iff.2 h28
    obtain rfl := Option.some.inj h
    exact gRun_ok cxOK (f86_p9_2_e1 x1 x2 x3 x9 x21 x22 x24 x25) ⟨h28, trivial⟩
theorem f86_p6_1_ok (F : Nat) (x1 : List (List Int)) (x2 : List Int) (x3 x9 : Int) : ∀ (k : Nat) (x22 : Int) (x21 : List Int) (r : (List Int)), f86_p6_1 F x1 x2 x3 x9 k x22 x21 = some r → f86_p6_1_P x1 x2 x3 x9 x22 x21 r
  | 0, _, _, _, h => by cases h
  | k + 1, x22, x21, r, h => by
    unfold f86_p6_1 at h
    by_cases h24 : (decide (x22 < ((List.length x2 : Nat) : Int))) = true
    · rw [if_pos h24] at h
      obtain ⟨x23, h25, h⟩ := bind_some h
      try dsimp only at h
      obtain ⟨x24, h26, h⟩ := bind_some h
      try dsimp only at h
      obtain ⟨x25, h27, h⟩ := bind_some h
      try dsimp only at h
      obtain ⟨x26, h30, h⟩ := bind_some h
      have ch30 := f86_p9_2_ok F x1 x2 x3 x9 x21 x22 x24 x25 _ h30
      try dsimp only at h
      exact Lp.again (gRun_ok cxOK (f86_p6_1_e0 x1 x2 x3 x9 x21 x22 x23 x24 x25 x26) ⟨h24, ⟨(at?_spec h25).1, x23, (at?_spec h25).2, rfl⟩, ⟨(at?_spec h26).1, x24, (at?_spec h26).2, rfl⟩, ⟨(at?_spec h27).1, x25, (at?_spec h27).2, rfl⟩, ch30, trivial⟩) (f86_p6_1_ok F x1 x2 x3 x9 k (w64 (x22 + 1)) x26 r h)
    · rw [if_neg h24] at h
      have h24 := Bool.eq_false_iff.2 h24
      obtain rfl := Option.some.inj h
      exact Lp.out (gRun_ok cxOK (f86_p6_1_e1 x1 x2 x3 x9 x21 x22) ⟨h24, trivial⟩) (by intro hh; cases hh)
theorem f86_ok (F : Nat) (x1 : List (List Int)) (x2 : List Int) (x3 : Int) (r : (List Int)) (h : f86 F x1 x2 x3 = some r) : f86_C x1 x2 x3 r := by
  unfold f86 at h
  obtain ⟨x9, h5, h⟩ := bind_some h
  have ch5 := f86_p1_ok F x1 x2 x3 F 0 0 _ h5
  try dsimp only at h
  obtain ⟨rh8, h8, h⟩ := bind_some h
  have ch8 := f86_p4_ok F x1 x2 x3 x9 _ h8
  cases rh8 with
  | c0 =>
    try dsimp only at h
    obtain ⟨x16, h16, h⟩ := bind_some h
    have ch16 := f86_p6_ok F x1 x2 x3 x9 F 0 ([(-1)] : List Int) _ h16
    try dsimp only at h
    obtain rfl := Option.some.inj h
    exact callOK cxOK cxW Try.func86 (by kernel_rfl) (f86_e0 x1 x2 x3 x9 x16) ⟨ch5, ch8, ch16, (Nat.le_of_eq (Nat.zero_add _)), trivial⟩
  | c1 =>
    try dsimp only at h
    obtain ⟨x27, h31, h⟩ := bind_some h
    have ch31 := f86_p6_1_ok F x1 x2 x3 x9 F 0 ([] : List Int) _ h31
    try dsimp only at h
    obtain rfl := Option.some.inj h
    exact callOK cxOK cxW Try.func86 (by kernel_rfl) (f86_e1 x1 x2 x3 x9 x27) ⟨ch5, ch8, ch31, (Nat.le_of_eq (Nat.zero_add _)), trivial⟩

theorem f33_p2_ok (F : Nat) (x1 : List (List Int)) (x2 : List Int) : ∀ (k : Nat) (x7 : Int) (x6 : List (List Int)) (r : (List (List Int))), f33_p2 F x1 x2 k x7 x6 = some r → f33_p2_P x1 x2 x7 x6 r
  | 0, _, _, _, h => by cases h
  | k + 1, x7, x6, r, h => by
    unfold f33_p2 at h
    by_cases h6 : (decide (x7 < ((List.length x1 : Nat) : Int))) = true
    · rw [if_pos h6] at h
      obtain ⟨x8, h7, h⟩ := bind_some h
      have ch7 := f86_ok F x1 x2 x7 _ h7
      try dsimp only at h
      obtain ⟨h8, h⟩ := req_some h
      exact Lp.again (gRun_ok cxOK (f33_p2_e0 x1 x2 x6 x7 x8) ⟨h6, ch7, h8, rfl, trivial⟩) (f33_p2_ok F x1 x2 k (w64 (x7 + 1)) (x6 ++ ([x8] : List (List Int))) r h)
    · rw [if_neg h6] at h
      have h6 := Bool.eq_false_iff.2 h6
      obtain rfl := Option.some.inj h
      exact Lp.out (gRun_ok cxOK (f33_p2_e1 x1 x2 x6 x7) ⟨h6, trivial⟩) (by intro hh; cases hh)
theorem f33_ok (F : Nat) (x1 : List (List Int)) (x2 : List Int) (r : (List (List Int)) × Int) (h : f33 F x1 x2 = some r) : f33_C x1 x2 r := by
  unfold f33 at h
  obtain ⟨x3, h1, h⟩ := bind_some h
  have ch1 := f85_ok F x1 x2 _ h1
  try dsimp only at h
  by_cases h2 : (x3 != 0) = true
  · rw [if_pos h2] at h
    obtain rfl := Option.some.inj h
    exact callOK cxOK cxW Try.func33 (by kernel_rfl) (f33_e0 x1 x2 x3) ⟨ch1, h2, trivial⟩
  · rw [if_neg h2] at h
    have h2 := Bool.eq_false_iff.2 h2
    obtain ⟨x9, h9, h⟩ := bind_some h
    have ch9 := f33_p2_ok F x1 x2 F 0 ([] : List (List Int)) _ h9
    try dsimp only at h
    obtain rfl := Option.some.inj h
    exact callOK cxOK cxW Try.func33 (by kernel_rfl) (f33_e1 x1 x2 x3 x9) ⟨ch1, h2, ch9, (Nat.le_of_eq (Nat.zero_add _)), trivial⟩

theorem f90_p8_3_ok (F : Nat) (x1 : List (List Int)) (x2 x3 x29 : List Int) (x28 x31 : Int) (x35 : Bool) (r : (List Int)) (h : f90_p8_3 F x1 x2 x3 x29 x28 x31 x35 = some r) : f90_p8_3_P x1 x2 x3 x29 x28 x31 x35 r := by
  unfold f90_p8_3 at h
  by_cases h38 : x35 = true
  · rw [if_pos h38] at h
    obtain rfl := Option.some.inj h
    exact gRun_ok cxOK (f90_p8_3_e0 x1 x2 x3 x28 x29 x31 x35) ⟨(by rw [h38]; rfl), trivial⟩
  · rw [if_neg h38] at h
    have h38 := Bool.eq_false_iff.2 h38
    obtain ⟨h39, h⟩ := req_some h
    obtain rfl := Option.some.inj h
    exact gRun_ok cxOK (f90_p8_3_e1 x1 x2 x3 x28 x29 x31 x35) ⟨(by rw [h38]; rfl), h39, rfl, trivial⟩
theorem f90_p8_4_ok (F : Nat) (x1 : List (List Int)) (x2 x3 x29 : List Int) (x37 : Bool) (x28 x31 : Int) (x39 : Bool) (r : (List Int)) (h : f90_p8_4 F x1 x2 x3 x29 x37 x28 x31 x39 = some r) : f90_p8_4_P x1 x2 x3 x29 x37 x28 x31 x39 r := by
  unfold f90_p8_4 at h
  by_cases h45 : x39 = true
  · rw [if_pos h45] at h
    obtain rfl := Option.some.inj h
    exact gRun_ok cxOK (f90_p8_4_e0 x1 x2 x3 x28 x29 x31 x37 x39) ⟨(by rw [h45]; rfl), trivial⟩
  · rw [if_neg h45] at h
    have h45 := Bool.eq_false_iff.2 h45
    obtain ⟨h46, h⟩ := req_some h
    obtain rfl := Option.some.inj h
    exact gRun_ok cxOK (f90_p8_4_e1 x1 x2 x3 x28 x29 x31 x37 x39) ⟨(by rw [h45]; rfl), h46, rfl, trivial⟩
theorem f90_p5_1_ok (F : Nat) (x1 : List (List Int)) (x2 x3 : List Int) (x28 : Int) : ∀ (k : Nat) (x30 : Bool) (x31 : Int) (x29 : List Int) (r : Bool × (List Int)), f90_p5_1 F x1 x2 x3 x28 k x30 x31 x29 = some r → f90_p5_1_P x1 x2 x3 x28 x30 x31 x29 r
  | 0, _, _, _, _, h => by cases h
  | k + 1, x30, x31, x29, r, h => by
    unfold f90_p5_1 at h
    by_cases h31 : (decide (x31 < ((List.length x3 : Nat) : Int))) = true
    · rw [if_pos h31] at h
      obtain ⟨x32, h32, h⟩ := bind_some h
      try dsimp only at h
      obtain ⟨x33, h33, h⟩ := bind_some h
      have ch33 := f86_ok F x1 x2 x32 _ h33
      try dsimp only at h
      by_cases h34 : x30 = true
      · rw [if_pos h34] at h
        obtain ⟨x34, h35, h⟩ := bind_some h
        have ch35 := f74_ok F x33 x28 _ h35
        try dsimp only at h
        by_cases h36 : x34 = true
        · rw [if_pos h36] at h
          obtain ⟨x35, h37, h⟩ := bind_some h
          have ch37 := f74_ok F (List.drop 0 (List.take (0 + (List.length x29)) x29)) x28 _ h37
          try dsimp only at h
          obtain ⟨x36, h40, h⟩ := bind_some h
          have ch40 := f90_p8_3_ok F x1 x2 x3 x29 x28 x31 x35 _ h40
          try dsimp only at h
          exact Lp.again (gRun_ok cxOK (f90_p5_1_e0 x1 x2 x3 x28 x29 x30 x31 x32 x33 x34 x35 x36) ⟨h31, ⟨(at?_spec h32).1, x32, (at?_spec h32).2, rfl⟩, ch33, h34, h34, h34, ch35, h36, h36, h36, ch37, (Nat.le_of_eq (Nat.zero_add _)), h36, h36, ch40, trivial⟩) (f90_p5_1_ok F x1 x2 x3 x28 k true (w64 (x31 + 1)) x36 r h)
        · rw [if_neg h36] at h
          have h36 := Bool.eq_false_iff.2 h36
          exact Lp.again (gRun_ok cxOK (f90_p5_1_e1 x1 x2 x3 x28 x29 x30 x31 x32 x33 x34) ⟨h31, ⟨(at?_spec h32).1, x32, (at?_spec h32).2, rfl⟩, ch33, h34, h34, h34, ch35, h36, h36, h36, h36, h36, rfl, trivial⟩) (f90_p5_1_ok F x1 x2 x3 x28 k true (w64 (x31 + 1)) x29 r h)
      · rw [if_neg h34] at h
        have h34 := Bool.eq_false_iff.2 h34
        obtain ⟨x37, h41, h⟩ := bind_some h
        have ch41 := f74_ok F x33 (-1) _ h41
        try dsimp only at h
        obtain ⟨x38, h42, h⟩ := bind_some h
        have ch42 := f74_ok F x33 x28 _ h42
        try dsimp only at h
        by_cases h43 : x38 = true
        · rw [if_pos h43] at h
          obtain ⟨x39, h44, h⟩ := bind_some h
          have ch44 := f74_ok F (List.drop 0 (List.take (0 + (List.length x29)) x29)) x28 _ h44
          try dsimp only at h
          obtain ⟨x40, h47, h⟩ := bind_some h
          have ch47 := f90_p8_4_ok F x1 x2 x3 x29 x37 x28 x31 x39 _ h47
          try dsimp only at h
          exact Lp.again (gRun_ok cxOK (f90_p5_1_e2 x1 x2 x3 x28 x29 x30 x31 x32 x33 x37 x38 x39 x40) ⟨h31, ⟨(at?_spec h32).1, x32, (at?_spec h32).2, rfl⟩, ch33, h34, h34, ch41, h34, ch42, h43, h43, h43, ch44, (Nat.le_of_eq (Nat.zero_add _)), h43, h43, ch47, trivial⟩) (f90_p5_1_ok F x1 x2 x3 x28 k x37 (w64 (x31 + 1)) x40 r h)
        · rw [if_neg h43] at h
          have h43 := Bool.eq_false_iff.2 h43
          exact Lp.again (gRun_ok cxOK (f90_p5_1_e3 x1 x2 x3 x28 x29 x30 x31 x32 x33 x37 x38) ⟨h31, ⟨(at?_spec h32).1, x32, (at?_spec h32).2, rfl⟩, ch33, h34, h34, ch41, h34, ch42, h43, h43, h43, h43, h43, rfl, trivial⟩) (f90_p5_1_ok F x1 x2 x3 x28 k x37 (w64 (x31 + 1)) x29 r h)
    · rw [if_neg h31] at h
      have h31 := Bool.eq_false_iff.2 h31
      obtain rfl := Option.some.inj h
      exact Lp.out (gRun_ok cxOK (f90_p5_1_e4 x1 x2 x3 x28 x29 x30 x31) ⟨h31, trivial⟩) (by intro hh; cases hh)
theorem f90_p1_ok (F : Nat) (x1 : List (List Int)) (x2 x3 : List Int) : ∀ (k : Nat) (x27 : Bool) (x28 : Int) (x26 : List Int) (r : Bool × (List Int)), f90_p1 F x1 x2 x3 k x27 x28 x26 = some r → f90_p1_P x1 x2 x3 x27 x28 x26 r
  | 0, _, _, _, _, h => by cases h
  | k + 1, x27, x28, x26, r, h => by
    unfold f90_p1 at h
    by_cases h30 : (decide (x28 < ((List.length x2 : Nat) : Int))) = true
    · rw [if_pos h30] at h
      obtain ⟨rh48, h48, h⟩ := bind_some h
      have ch48 := f90_p5_1_ok F x1 x2 x3 x28 F x27 0 x26 _ h48
      obtain ⟨x41, x42⟩ := rh48
      try dsimp only at h
      exact Lp.again (gRun_ok cxOK (f90_p1_e0 x1 x2 x3 x26 x27 x28 x41 x42) ⟨h30, ch48, trivial⟩) (f90_p1_ok F x1 x2 x3 k x41 (w64 (x28 + 1)) x42 r h)
    · rw [if_neg h30] at h
      have h30 := Bool.eq_false_iff.2 h30
      obtain rfl := Option.some.inj h
      exact Lp.out (gRun_ok cxOK (f90_p1_e1 x1 x2 x3 x26 x27 x28) ⟨h30, trivial⟩) (by intro hh; cases hh)
theorem f90_ok (F : Nat) (x1 : List (List Int)) (x2 x3 : List Int) (r : (List Int) × Bool) (h : f90 F x1 x2 x3 = some r) : f90_C x1 x2 x3 r := by
  unfold f90 at h
  obtain ⟨rh49, h49, h⟩ := bind_some h
  have ch49 := f90_p1_ok F x1 x2 x3 F false 0 ([] : List Int) _ h49
  obtain ⟨x43, x44⟩ := rh49
  try dsimp only at h
  obtain rfl := Option.some.inj h
  exact callOK cxOK cxW Try.func90 (by kernel_rfl) (f90_e0 x1 x2 x3 x43 x44) ⟨ch49, (Nat.le_of_eq (Nat.zero_add _)), trivial⟩

theorem f103_p2_ok (F : Nat) (x1 : List (List Int)) (x2 x3 : List Int) (x4 : Int) (r : Int) (h : f103_p2 F x1 x2 x3 x4 = some r) : f103_p2_P x1 x2 x3 x4 r := by
  unfold f103_p2 at h
  by_cases h5 : (decide (((List.length x3 : Nat) : Int) > 0)) = true
  · rw [if_pos h5] at h
    obtain ⟨x7, h6, h⟩ := bind_some h
    try dsimp only at h
    obtain rfl := Option.some.inj h
    exact gRun_ok cxOK (f103_p2_e0 x1 x2 x3 x4 x7) ⟨h5, ⟨(at?_spec h6).1, x7, (at?_spec h6).2, rfl⟩, trivial⟩
  · rw [if_neg h5] at h
    have h5 := Bool.eq_false_iff.2 h5
    obtain rfl := Option.some.inj h
    exact gRun_ok cxOK (f103_p2_e1 x1 x2 x3 x4) ⟨h5, trivial⟩
theorem f103_p4_ok (F : Nat) (rec : (List (List Int)) → (List Int) → (List Int) → Int → Option f103_R) (hrec : ∀ (x1 : List (List Int)) (x2 x3 : List Int) (x4 : Int) (r : f103_R), rec x1 x2 x3 x4 = some r → f103_C x1 x2 x3 x4 r) (x1 : List (List Int)) (x2 x3 : List Int) (x4 : Int) : ∀ (k : Nat) (x9 : Int) (r : f103_p4_R), f103_p4 F rec x1 x2 x3 x4 k x9 = some r → f103_p4_P x1 x2 x3 x4 x9 r
  | 0, _, _, h => by cases h
  | k + 1, x9, r, h => by
    unfold f103_p4 at h
    by_cases h8 : (decide (x9 < ((List.length x1 : Nat) : Int))) = true
    · rw [if_pos h8] at h
      obtain ⟨h11, h⟩ := req_some h
      obtain ⟨h12, h⟩ := req_some h
      obtain ⟨rh13, h13, h⟩ := bind_some h
      have ch13 := hrec x1 x2 (List.drop 0 (List.take (0 + (List.length ((([] : List Int) ++ x3) ++ ([x9] : List Int)))) ((([] : List Int) ++ x3) ++ ([x9] : List Int)))) (w64 (x4 - 1)) _ h13
      cases rh13 with
      | c0 =>
        try dsimp only at h
        exact Lp.again (gRun_ok cxOK (f103_p4_e0 x1 x2 x3 x4 x9) ⟨h8, h11, (.inl rfl), h12, rfl, (Nat.le_of_eq (Nat.zero_add _)), ch13, rfl, trivial⟩) (f103_p4_ok F rec hrec x1 x2 x3 x4 k (w64 (x9 + 1)) r h)
      | c1 x10 =>
        try dsimp only at h
        obtain ⟨h14, h⟩ := req_some h
        obtain rfl := Option.some.inj h
        exact Lp.out (gRun_ok cxOK (f103_p4_e1 x1 x2 x3 x4 x9 x10) ⟨h8, h11, (.inl rfl), h12, rfl, (Nat.le_of_eq (Nat.zero_add _)), ch13, h14, rfl, trivial⟩) (by intro hh; cases hh)
    · rw [if_neg h8] at h
      have h8 := Bool.eq_false_iff.2 h8
      obtain rfl := Option.some.inj h
      exact Lp.out (gRun_ok cxOK (f103_p4_e2 x1 x2 x3 x4 x9) ⟨h8, trivial⟩) (by intro hh; cases hh)
theorem f103_b_ok (F : Nat) (rec : (List (List Int)) → (List Int) → (List Int) → Int → Option f103_R) (hrec : ∀ (x1 : List (List Int)) (x2 x3 : List Int) (x4 : Int) (r : f103_R), rec x1 x2 x3 x4 = some r → f103_C x1 x2 x3 x4 r) (x1 : List (List Int)) (x2 x3 : List Int) (x4 : Int) (r : f103_R) (h : f103_b F rec x1 x2 x3 x4 = some r) : f103_C x1 x2 x3 x4 r := by
  unfold f103_b at h
  by_cases h1 : (x4 == 0) = true
  · rw [if_pos h1] at h
    obtain ⟨rh2, h2, h⟩ := bind_some h
    have ch2 := f90_ok F x1 x2 x3 _ h2
    obtain ⟨x5, x6⟩ := rh2
    try dsimp only at h
    by_cases h3 : x6 = true
    · rw [if_pos h3] at h
      obtain rfl := Option.some.inj h
      exact callOK cxOK cxW Try.func103 (by kernel_rfl) (f103_e0 x1 x2 x3 x4 x5 x6) ⟨h1, ch2, (by rw [h3]; rfl), (by rw [h3]; rfl), (by rw [h3]; rfl), (by rw [h3]; rfl), (by rw [h3]; rfl), (by rw [h3]; rfl), rfl, trivial⟩
    · rw [if_neg h3] at h
      have h3 := Bool.eq_false_iff.2 h3
      by_cases h4 : (decide (((List.length x5 : Nat) : Int) < ((List.length x3 : Nat) : Int))) = true
      · rw [if_pos h4] at h
        obtain rfl := Option.some.inj h
        exact callOK cxOK cxW Try.func103 (by kernel_rfl) (f103_e1 x1 x2 x3 x4 x5 x6) ⟨h1, ch2, (by rw [h3]; rfl), (by rw [h3]; rfl), (by rw [h3]; rfl), (by rw [h3]; rfl), (by rw [h3]; rfl), (by rw [h3]; rfl), h4, trivial⟩
      · rw [if_neg h4] at h
        have h4 := Bool.eq_false_iff.2 h4
        obtain rfl := Option.some.inj h
        exact callOK cxOK cxW Try.func103 (by kernel_rfl) (f103_e2 x1 x2 x3 x4 x5 x6) ⟨h1, ch2, (by rw [h3]; rfl), (by rw [h3]; rfl), (by rw [h3]; rfl), (by rw [h3]; rfl), (by rw [h3]; rfl), (by rw [h3]; rfl), h4, trivial⟩
  · rw [if_neg h1] at h
    have h1 := Bool.eq_false_iff.2 h1
    obtain ⟨x8, h7, h⟩ := bind_some h
    have ch7 := f103_p2_ok F x1 x2 x3 x4 _ h7
    try dsimp only at h
    obtain ⟨rh15, h15, h⟩ := bind_some h
    have ch15 := f103_p4_ok F rec hrec x1 x2 x3 x4 F x8 _ h15
    cases rh15 with
    | c0 x11 =>
      try dsimp only at h
      obtain rfl := Option.some.inj h
      exact callOK cxOK cxW Try.func103 (by kernel_rfl) (f103_e3 x1 x2 x3 x4 x8 x11) ⟨h1, ch7, ch15, trivial⟩
    | c1 =>
      try dsimp only at h
      obtain rfl := Option.some.inj h
      exact callOK cxOK cxW Try.func103 (by kernel_rfl) (f103_e4 x1 x2 x3 x4 x8) ⟨h1, ch7, ch15, trivial⟩
theorem f103_ok (F : Nat) : ∀ (k : Nat) (x1 : List (List Int)) (x2 x3 : List Int) (x4 : Int) (r : f103_R), f103 F k x1 x2 x3 x4 = some r → f103_C x1 x2 x3 x4 r
  | 0, _, _, _, _, _, h => by cases h
  | k + 1, x1, x2, x3, x4, r, h => f103_b_ok F (f103 F k) (f103_ok F k) x1 x2 x3 x4 r h

theorem f87_p1_ok (F : Nat) (x1 : List (List Int)) (x2 : List Int) : ∀ (k : Nat) (x3 : Int) (r : f87_p1_R), f87_p1 F x1 x2 k x3 = some r → f87_p1_P x1 x2 x3 r
  | 0, _, _, h => by cases h
  | k + 1, x3, r, h => by
    unfold f87_p1 at h
    by_cases h1 : (decide (x3 ≤ ((List.length x1 : Nat) : Int))) = true
    · rw [if_pos h1] at h
      by_cases h2 : (decide (((List.length x2 : Nat) : Int) > 0)) = true
      · rw [if_pos h2] at h
        obtain ⟨rh3, h3, h⟩ := bind_some h
        have ch3 := f103_ok F F x1 x2 ([] : List Int) x3 _ h3
        cases rh3 with
        | c0 =>
          try dsimp only at h
          exact Lp.again (gRun_ok cxOK (f87_p1_e0 x1 x2 x3) ⟨h1, h1, h1, h1, h2, ch3, rfl, trivial⟩) (f87_p1_ok F x1 x2 k (w64 (x3 + 1)) r h)
        | c1 x4 =>
          try dsimp only at h
          obtain ⟨h4, h⟩ := req_some h
          obtain rfl := Option.some.inj h
          exact Lp.out (gRun_ok cxOK (f87_p1_e1 x1 x2 x3 x4) ⟨h1, h1, h1, h1, h2, ch3, h4, rfl, trivial⟩) (by intro hh; cases hh)
      · rw [if_neg h2] at h
        have h2 := Bool.eq_false_iff.2 h2
        obtain rfl := Option.some.inj h
        exact Lp.out (gRun_ok cxOK (f87_p1_e2 x1 x2 x3) ⟨h1, h1, h1, h1, h2, trivial⟩) (by intro hh; cases hh)
    · rw [if_neg h1] at h
      have h1 := Bool.eq_false_iff.2 h1
      obtain rfl := Option.some.inj h
      exact Lp.out (gRun_ok cxOK (f87_p1_e3 x1 x2 x3) ⟨h1, h1, h1, h1, rfl, trivial⟩) (by intro hh; cases hh)
theorem f87_ok (F : Nat) (x1 : List (List Int)) (x2 : List Int) (r : f87_R) (h : f87 F x1 x2 = some r) : f87_C x1 x2 r := by
  unfold f87 at h
  obtain ⟨rh5, h5, h⟩ := bind_some h
  have ch5 := f87_p1_ok F x1 x2 F 1 _ h5
  cases rh5 with
  | c0 x5 =>
    try dsimp only at h
    obtain rfl := Option.some.inj h
    exact callOK cxOK cxW Try.func87 (by kernel_rfl) (f87_e0 x1 x2 x5) ⟨ch5, trivial⟩
  | c1 =>
    try dsimp only at h
    obtain rfl := Option.some.inj h
    exact callOK cxOK cxW Try.func87 (by kernel_rfl) (f87_e1 x1 x2) ⟨ch5, trivial⟩

theorem f35_ok (F : Nat) (x1 : List (List Int)) (x2 : List Int) (r : (List Int) × Int) (h : f35 F x1 x2 = some r) : f35_C x1 x2 r := by
  unfold f35 at h
  obtain ⟨x3, h1, h⟩ := bind_some h
  have ch1 := f85_ok F x1 x2 _ h1
  try dsimp only at h
  by_cases h2 : (x3 != 0) = true
  · rw [if_pos h2] at h
    obtain rfl := Option.some.inj h
    exact callOK cxOK cxW Try.func35 (by kernel_rfl) (f35_e0 x1 x2 x3) ⟨ch1, h2, trivial⟩
  · rw [if_neg h2] at h
    have h2 := Bool.eq_false_iff.2 h2
    obtain ⟨rh3, h3, h⟩ := bind_some h
    have ch3 := f87_ok F x1 x2 _ h3
    cases rh3 with
    | c0 x4 =>
      try dsimp only at h
      obtain ⟨h4, h⟩ := req_some h
      obtain rfl := Option.some.inj h
      exact callOK cxOK cxW Try.func35 (by kernel_rfl) (f35_e1 x1 x2 x3 x4) ⟨ch1, h2, ch3, h4, rfl, trivial⟩
    | c1 =>
      try dsimp only at h
      obtain rfl := Option.some.inj h
      exact callOK cxOK cxW Try.func35 (by kernel_rfl) (f35_e2 x1 x2 x3) ⟨ch1, h2, ch3, rfl, trivial⟩

theorem f38_p0_ok (F : Nat) (x1 : List (List Int)) (x2 x3 : List Int) (x4 : Int) (r : Int) (h : f38_p0 F x1 x2 x3 x4 = some r) : f38_p0_P x1 x2 x3 x4 r := by
  unfold f38_p0 at h
  by_cases h2 : (x4 == 0) = true
  · rw [if_pos h2] at h
    obtain ⟨rh3, h3, h⟩ := bind_some h
    have ch3 := f22_ok F x1 x3 _ h3
    obtain ⟨x5, x6⟩ := rh3
    try dsimp only at h
    obtain rfl := Option.some.inj h
    exact gRun_ok cxOK (f38_p0_e0 x1 x2 x3 x4 x5 x6) ⟨h2, ch3, trivial⟩
  · rw [if_neg h2] at h
    have h2 := Bool.eq_false_iff.2 h2
    obtain rfl := Option.some.inj h
    exact gRun_ok cxOK (f38_p0_e1 x1 x2 x3 x4) ⟨h2, trivial⟩
theorem f38_p3_ok (F : Nat) (x1 : List (List Int)) (x2 x3 : List Int) : ∀ (k : Nat) (x8 : Int) (r : f38_p3_R), f38_p3 F x1 x2 x3 k x8 = some r → f38_p3_P x1 x2 x3 x8 r
  | 0, _, _, h => by cases h
  | k + 1, x8, r, h => by
    unfold f38_p3 at h
    by_cases h6 : (decide (x8 < ((List.length x1 : Nat) : Int))) = true
    · rw [if_pos h6] at h
      obtain ⟨x9, h7, h⟩ := bind_some h
      have ch7 := f86_ok F x1 x2 x8 _ h7
      try dsimp only at h
      obtain ⟨x10, h8, h⟩ := bind_some h
      try dsimp only at h
      obtain ⟨x11, h9, h⟩ := bind_some h
      have ch9 := f74_ok F x9 x10 _ h9
      try dsimp only at h
      by_cases h10 : x11 = true
      · rw [if_pos h10] at h
        exact Lp.again (gRun_ok cxOK (f38_p3_e0 x1 x2 x3 x8 x9 x10 x11) ⟨h6, ch7, ⟨(at?_spec h8).1, x10, (at?_spec h8).2, rfl⟩, ch9, (by rw [h10]; rfl), trivial⟩) (f38_p3_ok F x1 x2 x3 k (w64 (x8 + 1)) r h)
      · rw [if_neg h10] at h
        have h10 := Bool.eq_false_iff.2 h10
        obtain rfl := Option.some.inj h
        exact Lp.out (gRun_ok cxOK (f38_p3_e1 x1 x2 x3 x8 x9 x10 x11) ⟨h6, ch7, ⟨(at?_spec h8).1, x10, (at?_spec h8).2, rfl⟩, ch9, (by rw [h10]; rfl), trivial⟩) (by intro hh; cases hh)
    · rw [if_neg h6] at h
      have h6 := Bool.eq_false_iff.2 h6
      obtain rfl := Option.some.inj h
      exact Lp.out (gRun_ok cxOK (f38_p3_e2 x1 x2 x3 x8) ⟨h6, trivial⟩) (by intro hh; cases hh)
theorem f38_p8_ok (F : Nat) (x2 x3 : List Int) : ∀ (k : Nat) (x12 : Int) (r : f38_p8_R), f38_p8 F x2 x3 k x12 = some r → f38_p8_P x2 x3 x12 r
  | 0, _, _, h => by cases h
  | k + 1, x12, r, h => by
    unfold f38_p8 at h
    by_cases h12 : (decide (x12 < ((List.length x2 : Nat) : Int))) = true
    · rw [if_pos h12] at h
      obtain ⟨x13, h13, h⟩ := bind_some h
      have ch13 := f74_ok F x3 x12 _ h13
      try dsimp only at h
      by_cases h14 : x13 = true
      · rw [if_pos h14] at h
        exact Lp.again (gRun_ok cxOK (f38_p8_e0 x2 x3 x12 x13) ⟨h12, ch13, (by rw [h14]; rfl), (by rw [h14]; rfl), (by rw [h14]; rfl), (by rw [h14]; rfl), (by rw [h14]; rfl), (by rw [h14]; rfl), rfl, trivial⟩) (f38_p8_ok F x2 x3 k (w64 (x12 + 1)) r h)
      · rw [if_neg h14] at h
        have h14 := Bool.eq_false_iff.2 h14
        obtain ⟨x14, h15, h⟩ := bind_some h
        try dsimp only at h
        by_cases h16 : (decide (x14 > 0)) = true
        · rw [if_pos h16] at h
          obtain rfl := Option.some.inj h
          exact Lp.out (gRun_ok cxOK (f38_p8_e1 x2 x3 x12 x13 x14) ⟨h12, ch13, (by rw [h14]; rfl), (by rw [h14]; rfl), (by rw [h14]; rfl), ⟨(at?_spec h15).1, x14, (at?_spec h15).2, rfl⟩, (by rw [h14]; rfl), (by rw [h14]; rfl), (by rw [h14]; rfl), h16, trivial⟩) (by intro hh; cases hh)
        · rw [if_neg h16] at h
          have h16 := Bool.eq_false_iff.2 h16
          exact Lp.again (gRun_ok cxOK (f38_p8_e2 x2 x3 x12 x13 x14) ⟨h12, ch13, (by rw [h14]; rfl), (by rw [h14]; rfl), (by rw [h14]; rfl), ⟨(at?_spec h15).1, x14, (at?_spec h15).2, rfl⟩, (by rw [h14]; rfl), (by rw [h14]; rfl), (by rw [h14]; rfl), h16, trivial⟩) (f38_p8_ok F x2 x3 k (w64 (x12 + 1)) r h)
    · rw [if_neg h12] at h
      have h12 := Bool.eq_false_iff.2 h12
      obtain rfl := Option.some.inj h
      exact Lp.out (gRun_ok cxOK (f38_p8_e3 x2 x3 x12) ⟨h12, trivial⟩) (by intro hh; cases hh)
theorem f38_ok (F : Nat) (x1 : List (List Int)) (x2 x3 : List Int) (r : Int) (h : f38 F x1 x2 x3 = some r) : f38_C x1 x2 x3 r := by
  unfold f38 at h
  obtain ⟨x4, h1, h⟩ := bind_some h
  have ch1 := f85_ok F x1 x2 _ h1
  try dsimp only at h
  obtain ⟨x7, h4, h⟩ := bind_some h
  have ch4 := f38_p0_ok F x1 x2 x3 x4 _ h4
  try dsimp only at h
  by_cases h5 : (x7 != 0) = true
  · rw [if_pos h5] at h
    obtain rfl := Option.some.inj h
    exact callOK cxOK cxW Try.func38 (by kernel_rfl) (f38_e0 x1 x2 x3 x4 x7) ⟨ch1, ch4, h5, trivial⟩
  · rw [if_neg h5] at h
    have h5 := Bool.eq_false_iff.2 h5
    obtain ⟨rh11, h11, h⟩ := bind_some h
    have ch11 := f38_p3_ok F x1 x2 x3 F 0 _ h11
    cases rh11 with
    | c0 =>
      try dsimp only at h
      obtain rfl := Option.some.inj h
      exact callOK cxOK cxW Try.func38 (by kernel_rfl) (f38_e1 x1 x2 x3 x4 x7) ⟨ch1, ch4, h5, ch11, trivial⟩
    | c1 =>
      try dsimp only at h
      obtain ⟨rh17, h17, h⟩ := bind_some h
      have ch17 := f38_p8_ok F x2 x3 F 0 _ h17
      cases rh17 with
      | c0 =>
        try dsimp only at h
        obtain rfl := Option.some.inj h
        exact callOK cxOK cxW Try.func38 (by kernel_rfl) (f38_e2 x1 x2 x3 x4 x7) ⟨ch1, ch4, h5, ch11, ch17, trivial⟩
      | c1 =>
        try dsimp only at h
        obtain rfl := Option.some.inj h
        exact callOK cxOK cxW Try.func38 (by kernel_rfl) (f38_e3 x1 x2 x3 x4 x7) ⟨ch1, ch4, h5, ch11, ch17, trivial⟩

theorem f5_ok (F : Nat) (x1 : List (List Int)) (x2 x3 : List Int) (r : Bool) (h : f5 F x1 x2 x3 = some r) : f5_C x1 x2 x3 r := by
  unfold f5 at h
  obtain ⟨x4, h1, h⟩ := bind_some h
  have ch1 := f15_ok F x1 _ h1
  try dsimp only at h
  by_cases h2 : x4 = true
  · rw [if_pos h2] at h
    obtain ⟨x5, h3, h⟩ := bind_some h
    have ch3 := f16_ok F _ h3
    try dsimp only at h
    obtain rfl := Option.some.inj h
    exact callOK cxOK cxW Try.func5 (by kernel_rfl) (f5_e0 x1 x2 x3 x4 x5) ⟨ch1, h2, h2, h2, h2, rfl, rfl, rfl, rfl, rfl, ch3, trivial⟩
  · rw [if_neg h2] at h
    have h2 := Bool.eq_false_iff.2 h2
    by_cases h4 : (decide (((List.length x2 : Nat) : Int) > 30)) = true
    · rw [if_pos h4] at h
      obtain ⟨x6, h5, h⟩ := bind_some h
      have ch5 := f16_ok F _ h5
      try dsimp only at h
      obtain rfl := Option.some.inj h
      exact callOK cxOK cxW Try.func5 (by kernel_rfl) (f5_e1 x1 x2 x3 x4 x6) ⟨ch1, h2, h2, h2, h2, h4, h4, h4, h4, rfl, ch5, trivial⟩
    · rw [if_neg h4] at h
      have h4 := Bool.eq_false_iff.2 h4
      by_cases h6 : (decide (((List.length x3 : Nat) : Int) > 30)) = true
      · rw [if_pos h6] at h
        obtain ⟨x7, h7, h⟩ := bind_some h
        have ch7 := f16_ok F _ h7
        try dsimp only at h
        obtain rfl := Option.some.inj h
        exact callOK cxOK cxW Try.func5 (by kernel_rfl) (f5_e2 x1 x2 x3 x4 x7) ⟨ch1, h2, h2, h2, h2, h4, h4, h4, h4, h6, ch7, trivial⟩
      · rw [if_neg h6] at h
        have h6 := Bool.eq_false_iff.2 h6
        obtain ⟨rh8, h8, h⟩ := bind_some h
        have ch8 := f32_ok F x1 x2 _ h8
        obtain ⟨x8, x9⟩ := rh8
        try dsimp only at h
        obtain ⟨rh9, h9, h⟩ := bind_some h
        have ch9 := f33_ok F x1 x2 _ h9
        obtain ⟨x10, x11⟩ := rh9
        try dsimp only at h
        obtain ⟨rh10, h10, h⟩ := bind_some h
        have ch10 := f34_ok F x1 x2 _ h10
        obtain ⟨x12, x13⟩ := rh10
        try dsimp only at h
        obtain ⟨rh11, h11, h⟩ := bind_some h
        have ch11 := f35_ok F x1 x2 _ h11
        obtain ⟨x14, x15⟩ := rh11
        try dsimp only at h
        obtain ⟨x16, h12, h⟩ := bind_some h
        have ch12 := f36_ok F x8 x10 _ h12
        try dsimp only at h
        by_cases h13 : x16 = true
        · rw [if_pos h13] at h
          by_cases h14 : (x9 == x11) = true
          · rw [if_pos h14] at h
            obtain ⟨x17, h15, h⟩ := bind_some h
            have ch15 := f23_ok F x12 x14 _ h15
            try dsimp only at h
            by_cases h16 : x17 = true
            · rw [if_pos h16] at h
              by_cases h17 : (x13 == x15) = true
              · rw [if_pos h17] at h
                obtain ⟨x18, h18, h⟩ := bind_some h
                have ch18 := f37_ok F x1 x2 x3 _ h18
                try dsimp only at h
                obtain ⟨x19, h19, h⟩ := bind_some h
                have ch19 := f38_ok F x1 x2 x3 _ h19
                try dsimp only at h
                by_cases h20 : (x18 == x19) = true
                · rw [if_pos h20] at h
                  obtain ⟨x20, h21, h⟩ := bind_some h
                  have ch21 := f16_ok F _ h21
                  try dsimp only at h
                  obtain rfl := Option.some.inj h
                  exact callOK cxOK cxW Try.func5 (by kernel_rfl) (f5_e3 x1 x2 x3 x4 x8 x9 x10 x11 x12 x13 x14 x15 x16 x17 x18 x19 x20) ⟨ch1, h2, h2, h2, h2, h4, h4, h4, h4, h6, ch8, ch9, ch10, ch11, ch12, h13, h13, h13, h13, h14, h14, h14, ch15, h14, h16, h16, h16, h16, h17, h17, h17, h17, ch18, h17, h17, h17, h17, ch19, h17, h17, h20, ch21, h20, trivial⟩
                · rw [if_neg h20] at h
                  have h20 := Bool.eq_false_iff.2 h20
                  cases h
              · rw [if_neg h17] at h
                have h17 := Bool.eq_false_iff.2 h17
                cases h
            · rw [if_neg h16] at h
              have h16 := Bool.eq_false_iff.2 h16
              cases h
          · rw [if_neg h14] at h
            have h14 := Bool.eq_false_iff.2 h14
            cases h
        · rw [if_neg h13] at h
          have h13 := Bool.eq_false_iff.2 h13
          cases h

end Go.Gh.Sale
