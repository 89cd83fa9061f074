/- Sale3F1: printed by wip/tool/gx.py -/
import Derived.Test.YtdbaljbhnpchjaaSale3F0
namespace Go.Gh.Sale
set_option linter.unusedVariables false
set_option linter.unusedSimpArgs false
open Go.Proofs

theorem f20_ok (F : Nat) (x1 : List (List Int)) (r : Int × Int) (h : f20 F x1 = some r) : f20_C x1 r := by
  unfold f20 at h
  obtain ⟨x2, h1, h⟩ := bind_some h
  have ch1 := f25_ok F x1 _ h1
  try dsimp only at h
  by_cases h2 : (x2 != 0) = true
  · rw [if_pos h2] at h
    obtain rfl := Option.some.inj h
    exact callOK cxOK cxW Try.func20 (by kernel_rfl) (f20_e0 x1 x2) ⟨ch1, h2, trivial⟩
  · rw [if_neg h2] at h
    have h2 := Bool.eq_false_iff.2 h2
    obtain ⟨rh3, h3, h⟩ := bind_some h
    have ch3 := f67_ok F x1 (-1) _ h3
    obtain ⟨x3, x4, x5⟩ := rh3
    try dsimp only at h
    obtain rfl := Option.some.inj h
    exact callOK cxOK cxW Try.func20 (by kernel_rfl) (f20_e1 x1 x2 x3 x4 x5) ⟨ch1, h2, ch3, trivial⟩

theorem f22_p0_ok (F : Nat) (x1 : List (List Int)) (x2 : List Int) (x3 : Int) (r : Int) (h : f22_p0 F x1 x2 x3 = some r) : f22_p0_P x1 x2 x3 r := by
  unfold f22_p0 at h
  by_cases h3 : (((List.length x2 : Nat) : Int) != ((List.length x1 : Nat) : Int)) = true
  · rw [if_pos h3] at h
    obtain rfl := Option.some.inj h
    exact gRun_ok cxOK (f22_p0_e0 x1 x2 x3) ⟨h3, trivial⟩
  · rw [if_neg h3] at h
    have h3 := Bool.eq_false_iff.2 h3
    obtain rfl := Option.some.inj h
    exact gRun_ok cxOK (f22_p0_e1 x1 x2 x3) ⟨h3, trivial⟩
theorem f22_p6_ok (F : Nat) (x1 : List (List Int)) (x2 : List Int) (x5 x6 : Int) (x11 : Bool) (r : Int) (h : f22_p6 F x1 x2 x5 x6 x11 = some r) : f22_p6_P x1 x2 x5 x6 x11 r := by
  unfold f22_p6 at h
  by_cases h15 : x11 = true
  · rw [if_pos h15] at h
    obtain rfl := Option.some.inj h
    exact gRun_ok cxOK (f22_p6_e0 x1 x2 x5 x6 x11) ⟨h15, trivial⟩
  · rw [if_neg h15] at h
    have h15 := Bool.eq_false_iff.2 h15
    obtain rfl := Option.some.inj h
    exact gRun_ok cxOK (f22_p6_e1 x1 x2 x5 x6 x11) ⟨h15, trivial⟩
theorem f22_p5_ok (F : Nat) (x1 : List (List Int)) (x2 : List Int) (x5 x6 : Int) (x9 : Bool) (r : Int) (h : f22_p5 F x1 x2 x5 x6 x9 = some r) : f22_p5_P x1 x2 x5 x6 x9 r := by
  unfold f22_p5 at h
  by_cases h10 : x9 = true
  · rw [if_pos h10] at h
    obtain ⟨x10, h11, h⟩ := bind_some h
    try dsimp only at h
    by_cases h12 : (decide (x10 ≥ 0)) = true
    · rw [if_pos h12] at h
      obtain ⟨h13, h⟩ := req_some h
      obtain ⟨x11, h14, h⟩ := bind_some h
      have ch14 := f74_ok F (List.drop 0 (List.take (Int.toNat x6) x2)) x10 _ h14
      try dsimp only at h
      obtain ⟨x12, h16, h⟩ := bind_some h
      have ch16 := f22_p6_ok F x1 x2 x5 x6 x11 _ h16
      try dsimp only at h
      obtain rfl := Option.some.inj h
      exact gRun_ok cxOK (f22_p5_e0 x1 x2 x5 x6 x9 x10 x11 x12) ⟨(by rw [h10]; rfl), ⟨(at?_spec h11).1, x10, (at?_spec h11).2, rfl⟩, h12, h12, h12, h13, h12, h12, h12, ⟨(at?_spec h11).1, x10, (at?_spec h11).2, rfl⟩, h12, h12, ch14, h12, ch16, trivial⟩
    · rw [if_neg h12] at h
      have h12 := Bool.eq_false_iff.2 h12
      obtain rfl := Option.some.inj h
      exact gRun_ok cxOK (f22_p5_e1 x1 x2 x5 x6 x9 x10) ⟨(by rw [h10]; rfl), ⟨(at?_spec h11).1, x10, (at?_spec h11).2, rfl⟩, h12, h12, h12, h12, h12, h12, h12, h12, h12, rfl, trivial⟩
  · rw [if_neg h10] at h
    have h10 := Bool.eq_false_iff.2 h10
    obtain rfl := Option.some.inj h
    exact gRun_ok cxOK (f22_p5_e2 x1 x2 x5 x6 x9) ⟨(by rw [h10]; rfl), trivial⟩
theorem f22_p2_ok (F : Nat) (x1 : List (List Int)) (x2 : List Int) : ∀ (k : Nat) (x5 x6 : Int) (r : Int), f22_p2 F x1 x2 k x5 x6 = some r → f22_p2_P x1 x2 x5 x6 r
  | 0, _, _, _, h => by cases h
  | k + 1, x5, x6, r, h => by
    unfold f22_p2 at h
    by_cases h5 : (decide (x6 < ((List.length x2 : Nat) : Int))) = true
    · rw [if_pos h5] at h
      by_cases h6 : (x5 == 0) = true
      · rw [if_pos h6] at h
        obtain ⟨x7, h7, h⟩ := bind_some h
        try dsimp only at h
        obtain ⟨x8, h8, h⟩ := bind_some h
        try dsimp only at h
        obtain ⟨x9, h9, h⟩ := bind_some h
        have ch9 := f73_ok F x7 (-1) (w64 (((List.length x8 : Nat) : Int) - 1)) _ h9
        try dsimp only at h
        obtain ⟨x13, h17, h⟩ := bind_some h
        have ch17 := f22_p5_ok F x1 x2 x5 x6 x9 _ h17
        try dsimp only at h
        exact Lp.again (gRun_ok cxOK (f22_p2_e0 x1 x2 x5 x6 x7 x8 x9 x13) ⟨h5, h5, h5, h6, ⟨(at?_spec h7).1, x7, (at?_spec h7).2, rfl⟩, ⟨(at?_spec h8).1, x8, (at?_spec h8).2, rfl⟩, ch9, ch17, trivial⟩) (f22_p2_ok F x1 x2 k x13 (w64 (x6 + 1)) r h)
      · rw [if_neg h6] at h
        have h6 := Bool.eq_false_iff.2 h6
        obtain rfl := Option.some.inj h
        exact Lp.out (gRun_ok cxOK (f22_p2_e1 x1 x2 x5 x6) ⟨h5, h5, h5, h6, trivial⟩) (by intro hh; cases hh)
    · rw [if_neg h5] at h
      have h5 := Bool.eq_false_iff.2 h5
      obtain rfl := Option.some.inj h
      exact Lp.out (gRun_ok cxOK (f22_p2_e2 x1 x2 x5 x6) ⟨h5, h5, h5, rfl, trivial⟩) (by intro hh; cases hh)
theorem f22_p6_1_ok (F : Nat) (x1 : List (List Int)) (x2 : List Int) (x16 x17 : Int) (x22 : Bool) (r : Int) (h : f22_p6_1 F x1 x2 x16 x17 x22 = some r) : f22_p6_1_P x1 x2 x16 x17 x22 r := by
  unfold f22_p6_1 at h
  by_cases h31 : x22 = true
  · rw [if_pos h31] at h
    obtain rfl := Option.some.inj h
    exact gRun_ok cxOK (f22_p6_1_e0 x1 x2 x16 x17 x22) ⟨h31, trivial⟩
  · rw [if_neg h31] at h
    have h31 := Bool.eq_false_iff.2 h31
    obtain rfl := Option.some.inj h
    exact gRun_ok cxOK (f22_p6_1_e1 x1 x2 x16 x17 x22) ⟨h31, trivial⟩
theorem f22_p5_1_ok (F : Nat) (x1 : List (List Int)) (x2 : List Int) (x16 x17 : Int) (x20 : Bool) (r : Int) (h : f22_p5_1 F x1 x2 x16 x17 x20 = some r) : f22_p5_1_P x1 x2 x16 x17 x20 r := by
  unfold f22_p5_1 at h
  by_cases h26 : x20 = true
  · rw [if_pos h26] at h
    obtain ⟨x21, h27, h⟩ := bind_some h
    try dsimp only at h
    by_cases h28 : (decide (x21 ≥ 0)) = true
    · rw [if_pos h28] at h
      obtain ⟨h29, h⟩ := req_some h
      obtain ⟨x22, h30, h⟩ := bind_some h
      have ch30 := f74_ok F (List.drop 0 (List.take (Int.toNat x17) x2)) x21 _ h30
      try dsimp only at h
      obtain ⟨x23, h32, h⟩ := bind_some h
      have ch32 := f22_p6_1_ok F x1 x2 x16 x17 x22 _ h32
      try dsimp only at h
      obtain rfl := Option.some.inj h
      exact gRun_ok cxOK (f22_p5_1_e0 x1 x2 x16 x17 x20 x21 x22 x23) ⟨(by rw [h26]; rfl), ⟨(at?_spec h27).1, x21, (at?_spec h27).2, rfl⟩, h28, h28, h28, h29, h28, h28, h28, ⟨(at?_spec h27).1, x21, (at?_spec h27).2, rfl⟩, h28, h28, ch30, h28, ch32, trivial⟩
    · rw [if_neg h28] at h
      have h28 := Bool.eq_false_iff.2 h28
      obtain rfl := Option.some.inj h
      exact gRun_ok cxOK (f22_p5_1_e1 x1 x2 x16 x17 x20 x21) ⟨(by rw [h26]; rfl), ⟨(at?_spec h27).1, x21, (at?_spec h27).2, rfl⟩, h28, h28, h28, h28, h28, h28, h28, h28, h28, rfl, trivial⟩
  · rw [if_neg h26] at h
    have h26 := Bool.eq_false_iff.2 h26
    obtain rfl := Option.some.inj h
    exact gRun_ok cxOK (f22_p5_1_e2 x1 x2 x16 x17 x20) ⟨(by rw [h26]; rfl), trivial⟩
theorem f22_p2_1_ok (F : Nat) (x1 : List (List Int)) (x2 : List Int) : ∀ (k : Nat) (x16 x17 : Int) (r : Int), f22_p2_1 F x1 x2 k x16 x17 = some r → f22_p2_1_P x1 x2 x16 x17 r
  | 0, _, _, _, h => by cases h
  | k + 1, x16, x17, r, h => by
    unfold f22_p2_1 at h
    by_cases h21 : (decide (x17 < ((List.length x2 : Nat) : Int))) = true
    · rw [if_pos h21] at h
      by_cases h22 : (x16 == 0) = true
      · rw [if_pos h22] at h
        obtain ⟨x18, h23, h⟩ := bind_some h
        try dsimp only at h
        obtain ⟨x19, h24, h⟩ := bind_some h
        try dsimp only at h
        obtain ⟨x20, h25, h⟩ := bind_some h
        have ch25 := f73_ok F x18 (-1) (w64 (((List.length x19 : Nat) : Int) - 1)) _ h25
        try dsimp only at h
        obtain ⟨x24, h33, h⟩ := bind_some h
        have ch33 := f22_p5_1_ok F x1 x2 x16 x17 x20 _ h33
        try dsimp only at h
        exact Lp.again (gRun_ok cxOK (f22_p2_1_e0 x1 x2 x16 x17 x18 x19 x20 x24) ⟨h21, h21, h21, h22, ⟨(at?_spec h23).1, x18, (at?_spec h23).2, rfl⟩, ⟨(at?_spec h24).1, x19, (at?_spec h24).2, rfl⟩, ch25, ch33, trivial⟩) (f22_p2_1_ok F x1 x2 k x24 (w64 (x17 + 1)) r h)
      · rw [if_neg h22] at h
        have h22 := Bool.eq_false_iff.2 h22
        obtain rfl := Option.some.inj h
        exact Lp.out (gRun_ok cxOK (f22_p2_1_e1 x1 x2 x16 x17) ⟨h21, h21, h21, h22, trivial⟩) (by intro hh; cases hh)
    · rw [if_neg h21] at h
      have h21 := Bool.eq_false_iff.2 h21
      obtain rfl := Option.some.inj h
      exact Lp.out (gRun_ok cxOK (f22_p2_1_e2 x1 x2 x16 x17) ⟨h21, h21, h21, rfl, trivial⟩) (by intro hh; cases hh)
theorem f22_ok (F : Nat) (x1 : List (List Int)) (x2 : List Int) (r : Int × Int) (h : f22 F x1 x2 = some r) : f22_C x1 x2 r := by
  unfold f22 at h
  obtain ⟨x3, h1, h⟩ := bind_some h
  have ch1 := f25_ok F x1 _ h1
  try dsimp only at h
  by_cases h2 : (x3 == 0) = true
  · rw [if_pos h2] at h
    obtain ⟨x4, h4, h⟩ := bind_some h
    have ch4 := f22_p0_ok F x1 x2 x3 _ h4
    try dsimp only at h
    obtain ⟨x14, h18, h⟩ := bind_some h
    have ch18 := f22_p2_ok F x1 x2 F x4 0 _ h18
    try dsimp only at h
    by_cases h19 : (x14 != 0) = true
    · rw [if_pos h19] at h
      obtain rfl := Option.some.inj h
      exact callOK cxOK cxW Try.func22 (by kernel_rfl) (f22_e0 x1 x2 x3 x4 x14) ⟨ch1, h2, h2, h2, h2, h2, h2, ch4, ch18, h19, trivial⟩
    · rw [if_neg h19] at h
      have h19 := Bool.eq_false_iff.2 h19
      obtain ⟨x15, h20, h⟩ := bind_some h
      have ch20 := f75_ok F x1 x2 _ h20
      try dsimp only at h
      obtain rfl := Option.some.inj h
      exact callOK cxOK cxW Try.func22 (by kernel_rfl) (f22_e1 x1 x2 x3 x4 x14 x15) ⟨ch1, h2, h2, h2, h2, h2, h2, ch4, ch18, h19, ch20, trivial⟩
  · rw [if_neg h2] at h
    have h2 := Bool.eq_false_iff.2 h2
    obtain ⟨x25, h34, h⟩ := bind_some h
    have ch34 := f22_p2_1_ok F x1 x2 F x3 0 _ h34
    try dsimp only at h
    by_cases h35 : (x25 != 0) = true
    · rw [if_pos h35] at h
      obtain rfl := Option.some.inj h
      exact callOK cxOK cxW Try.func22 (by kernel_rfl) (f22_e2 x1 x2 x3 x25) ⟨ch1, h2, h2, h2, h2, h2, h2, rfl, ch34, h35, trivial⟩
    · rw [if_neg h35] at h
      have h35 := Bool.eq_false_iff.2 h35
      obtain ⟨x26, h36, h⟩ := bind_some h
      have ch36 := f75_ok F x1 x2 _ h36
      try dsimp only at h
      obtain rfl := Option.some.inj h
      exact callOK cxOK cxW Try.func22 (by kernel_rfl) (f22_e3 x1 x2 x3 x25 x26) ⟨ch1, h2, h2, h2, h2, h2, h2, rfl, ch34, h35, ch36, trivial⟩

theorem f3_ok (F : Nat) (x1 : List (List Int)) (x2 : List Int) (r : Bool) (h : f3 F x1 x2 = some r) : f3_C x1 x2 r := by
  unfold f3 at h
  obtain ⟨x3, h1, h⟩ := bind_some h
  have ch1 := f15_ok F x1 _ h1
  try dsimp only at h
  by_cases h2 : x3 = true
  · rw [if_pos h2] at h
    obtain ⟨x4, h3, h⟩ := bind_some h
    have ch3 := f16_ok F _ h3
    try dsimp only at h
    obtain rfl := Option.some.inj h
    exact callOK cxOK cxW Try.func3 (by kernel_rfl) (f3_e0 x1 x2 x3 x4) ⟨ch1, h2, h2, h2, h2, rfl, ch3, trivial⟩
  · rw [if_neg h2] at h
    have h2 := Bool.eq_false_iff.2 h2
    by_cases h4 : (decide (((List.length x2 : Nat) : Int) > 30)) = true
    · rw [if_pos h4] at h
      obtain ⟨x5, h5, h⟩ := bind_some h
      have ch5 := f16_ok F _ h5
      try dsimp only at h
      obtain rfl := Option.some.inj h
      exact callOK cxOK cxW Try.func3 (by kernel_rfl) (f3_e1 x1 x2 x3 x5) ⟨ch1, h2, h2, h2, h2, h4, ch5, trivial⟩
    · rw [if_neg h4] at h
      have h4 := Bool.eq_false_iff.2 h4
      obtain ⟨rh6, h6, h⟩ := bind_some h
      have ch6 := f17_ok F x1 _ h6
      obtain ⟨x6, x7⟩ := rh6
      try dsimp only at h
      obtain ⟨rh7, h7, h⟩ := bind_some h
      have ch7 := f18_ok F x1 _ h7
      obtain ⟨x8, x9⟩ := rh7
      try dsimp only at h
      obtain ⟨rh8, h8, h⟩ := bind_some h
      have ch8 := f19_ok F x1 _ h8
      obtain ⟨x10, x11⟩ := rh8
      try dsimp only at h
      obtain ⟨rh9, h9, h⟩ := bind_some h
      have ch9 := f20_ok F x1 _ h9
      obtain ⟨x12, x13⟩ := rh9
      try dsimp only at h
      obtain ⟨rh10, h10, h⟩ := bind_some h
      have ch10 := f21_ok F x1 x2 _ h10
      obtain ⟨x14, x15⟩ := rh10
      try dsimp only at h
      obtain ⟨rh11, h11, h⟩ := bind_some h
      have ch11 := f22_ok F x1 x2 _ h11
      obtain ⟨x16, x17⟩ := rh11
      try dsimp only at h
      obtain ⟨x18, h12, h⟩ := bind_some h
      have ch12 := f23_ok F x6 x8 _ h12
      try dsimp only at h
      by_cases h13 : x18 = true
      · rw [if_pos h13] at h
        by_cases h14 : (x7 == x9) = true
        · rw [if_pos h14] at h
          by_cases h15 : (x10 == x12) = true
          · rw [if_pos h15] at h
            by_cases h16 : (x11 == x13) = true
            · rw [if_pos h16] at h
              by_cases h17 : (x14 == x16) = true
              · rw [if_pos h17] at h
                by_cases h18 : (x15 == x17) = true
                · rw [if_pos h18] at h
                  obtain ⟨x19, h19, h⟩ := bind_some h
                  have ch19 := f24_ok F x1 _ h19
                  try dsimp only at h
                  obtain ⟨x20, h20, h⟩ := bind_some h
                  have ch20 := f25_ok F x1 _ h20
                  try dsimp only at h
                  by_cases h21 : (x19 == x20) = true
                  · rw [if_pos h21] at h
                    obtain ⟨x21, h22, h⟩ := bind_some h
                    have ch22 := f16_ok F _ h22
                    try dsimp only at h
                    obtain rfl := Option.some.inj h
                    exact callOK cxOK cxW Try.func3 (by kernel_rfl) (f3_e2 x1 x2 x3 x6 x7 x8 x9 x10 x11 x12 x13 x14 x15 x16 x17 x18 x19 x20 x21) ⟨ch1, h2, h2, h2, h2, h4, ch6, ch7, ch8, ch9, ch10, ch11, ch12, h13, h13, h13, h13, h14, h14, h14, h14, h15, h15, h15, h15, h16, h16, h16, h16, h17, h17, h17, h17, h18, h18, ch19, h18, h18, ch20, h18, h18, h21, ch22, h21, trivial⟩
                  · rw [if_neg h21] at h
                    have h21 := Bool.eq_false_iff.2 h21
                    cases h
                · rw [if_neg h18] at h
                  have h18 := Bool.eq_false_iff.2 h18
                  cases h
              · rw [if_neg h17] at h
                have h17 := Bool.eq_false_iff.2 h17
                cases h
            · rw [if_neg h16] at h
              have h16 := Bool.eq_false_iff.2 h16
              cases h
          · rw [if_neg h15] at h
            have h15 := Bool.eq_false_iff.2 h15
            cases h
        · rw [if_neg h14] at h
          have h14 := Bool.eq_false_iff.2 h14
          cases h
      · rw [if_neg h13] at h
        have h13 := Bool.eq_false_iff.2 h13
        cases h

end Go.Gh.Sale
