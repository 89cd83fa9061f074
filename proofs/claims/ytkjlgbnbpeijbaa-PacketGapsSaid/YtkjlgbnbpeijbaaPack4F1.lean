/- Pack4F1: printed by wip/tool/gx.py -/
import Derived.Test.YtkjlgbnbpeijbaaPack4F0
namespace Go.Gh.Pack
set_option linter.unusedVariables false
set_option linter.unusedSimpArgs false
open Go.Proofs

theorem f72_1_p8_3_ok (F : Nat) (x1 : List Int) (x2 x15 x21 : Int) (x23 : Bool) (x20 : List Bool) (r : (List Bool)) (h : f72_1_p8_3 F x1 x2 x15 x21 x23 x20 = some r) : f72_1_p8_3_P x1 x2 x15 x21 x23 x20 r := by
  unfold f72_1_p8_3 at h
  by_cases h39 : x23 = true
  · rw [if_pos h39] at h
    obtain ⟨h40, h⟩ := req_some h
    obtain ⟨h41, h⟩ := req_some h
    obtain rfl := Option.some.inj h
    exact gRun_ok cxOK (f72_1_p8_3_e0 x1 x2 x15 x20 x21 x23) ⟨h39, h40, h41, trivial⟩
  · rw [if_neg h39] at h
    have h39 := Bool.eq_false_iff.2 h39
    obtain rfl := Option.some.inj h
    exact gRun_ok cxOK (f72_1_p8_3_e1 x1 x2 x15 x20 x21 x23) ⟨h39, trivial⟩
theorem f72_1_p5_1_ok (F : Nat) (x1 : List Int) (x2 x15 : Int) : ∀ (k : Nat) (x21 : Int) (x20 : List Bool) (r : (List Bool)), f72_1_p5_1 F x1 x2 x15 k x21 x20 = some r → f72_1_p5_1_P x1 x2 x15 x21 x20 r
  | 0, _, _, _, h => by cases h
  | k + 1, x21, x20, r, h => by
    unfold f72_1_p5_1 at h
    by_cases h34 : (decide (x21 < ((List.length x1 : Nat) : Int))) = true
    · rw [if_pos h34] at h
      obtain ⟨x22, h35, h⟩ := bind_some h
      try dsimp only at h
      by_cases h36 : (decide (x22 ≤ x15)) = true
      · rw [if_pos h36] at h
        obtain ⟨h37, h⟩ := req_some h
        obtain ⟨x23, h38, h⟩ := bind_some h
        try dsimp only at h
        obtain ⟨rh42, h42, h⟩ := bind_some h
        have ch42 := f72_1_p8_3_ok F x1 x2 x15 x21 x23 x20 _ h42
        obtain ⟨x24, rfl⟩ : ∃ z, z = rh42 := ⟨_, rfl⟩
        try dsimp only at h
        exact Lp.again (gRun_ok cxOK (f72_1_p5_1_e0 x1 x2 x15 x20 x21 x22 x23 x24) ⟨h34, ⟨(at?_spec h35).1, x22, (at?_spec h35).2, rfl⟩, h36, h36, h36, h36, h36, ⟨(at?_spec h35).1, x22, (at?_spec h35).2, rfl⟩, h36, h36, h36, h37, h36, ⟨x23, h38, rfl⟩, h36, ch42, trivial⟩) (f72_1_p5_1_ok F x1 x2 x15 k (w64 (x21 + 1)) x24 r h)
      · rw [if_neg h36] at h
        have h36 := Bool.eq_false_iff.2 h36
        exact Lp.again (gRun_ok cxOK (f72_1_p5_1_e1 x1 x2 x15 x20 x21 x22) ⟨h34, ⟨(at?_spec h35).1, x22, (at?_spec h35).2, rfl⟩, h36, h36, h36, h36, h36, h36, h36, h36, h36, h36, rfl, trivial⟩) (f72_1_p5_1_ok F x1 x2 x15 k (w64 (x21 + 1)) x20 r h)
    · rw [if_neg h34] at h
      have h34 := Bool.eq_false_iff.2 h34
      obtain rfl := Option.some.inj h
      exact Lp.out (gRun_ok cxOK (f72_1_p5_1_e2 x1 x2 x15 x20 x21) ⟨h34, trivial⟩) (by intro hh; cases hh)
theorem f72_1_p1_ok (F : Nat) (x1 : List Int) (x2 : Int) : ∀ (k : Nat) (x15 : Int) (x14 : List Bool) (r : (List Bool)), f72_1_p1 F x1 x2 k x15 x14 = some r → f72_1_p1_P x1 x2 x15 x14 r
  | 0, _, _, _, h => by cases h
  | k + 1, x15, x14, r, h => by
    unfold f72_1_p1 at h
    by_cases h24 : (decide (x15 ≤ x2)) = true
    · rw [if_pos h24] at h
      obtain ⟨rh43, h43, h⟩ := bind_some h
      have ch43 := f72_1_p5_1_ok F x1 x2 x15 F 0 x14 _ h43
      obtain ⟨x25, rfl⟩ : ∃ z, z = rh43 := ⟨_, rfl⟩
      try dsimp only at h
      exact Lp.again (gRun_ok cxOK (f72_1_p1_e0 x1 x2 x14 x15 x25) ⟨h24, ch43, trivial⟩) (f72_1_p1_ok F x1 x2 k (w64 (x15 + 1)) x25 r h)
    · rw [if_neg h24] at h
      have h24 := Bool.eq_false_iff.2 h24
      obtain rfl := Option.some.inj h
      exact Lp.out (gRun_ok cxOK (f72_1_p1_e1 x1 x2 x14 x15) ⟨h24, trivial⟩) (by intro hh; cases hh)
theorem f72_1_ok (F : Nat) (x1 : List Int) (x2 : Int) (r : Nat × (List Bool)) (h : f72_1 F x1 x2 = some r) : f72_1_C x1 x2 r := by
  unfold f72_1 at h
  obtain ⟨h1, h⟩ := req_some h
  obtain ⟨h2, h⟩ := req_some h
  obtain ⟨h3, h⟩ := req_some h
  obtain ⟨rh44, h44, h⟩ := bind_some h
  have ch44 := f72_1_p1_ok F x1 x2 F 1 (List.set (List.replicate (Int.toNat (w64 (x2 + 1))) (false : Bool)) 0 true) _ h44
  obtain ⟨x26, rfl⟩ : ∃ z, z = rh44 := ⟨_, rfl⟩
  try dsimp only at h
  obtain rfl := Option.some.inj h
  exact callOK cxOK cxW Try.func72 (by kernel_rfl) (f72_1_e0 x1 x2 x26) ⟨h1, h2, h3, ch44, trivial⟩

theorem f35_p5_1_ok (F : Nat) (x1 x8 : List Int) (x9 : Int) (x13 : Bool) (r : (List Int)) (h : f35_p5_1 F x1 x8 x9 x13 = some r) : f35_p5_1_P x1 x8 x9 x13 r := by
  unfold f35_p5_1 at h
  by_cases h24 : x13 = true
  · rw [if_pos h24] at h
    obtain rfl := Option.some.inj h
    exact gRun_ok cxOK (f35_p5_1_e0 x1 x8 x9 x13) ⟨(by rw [h24]; rfl), trivial⟩
  · rw [if_neg h24] at h
    have h24 := Bool.eq_false_iff.2 h24
    obtain ⟨h25, h⟩ := req_some h
    obtain rfl := Option.some.inj h
    exact gRun_ok cxOK (f35_p5_1_e1 x1 x8 x9 x13) ⟨(by rw [h24]; rfl), h25, rfl, trivial⟩
theorem f35_p2_ok (F : Nat) (x1 : List Int) : ∀ (k : Nat) (x9 : Int) (x8 : List Int) (r : (List Int)), f35_p2 F x1 k x9 x8 = some r → f35_p2_P x1 x9 x8 r
  | 0, _, _, _, h => by cases h
  | k + 1, x9, x8, r, h => by
    unfold f35_p2 at h
    by_cases h15 : (decide (x9 < ((List.length x1 : Nat) : Int))) = true
    · rw [if_pos h15] at h
      obtain ⟨h16, h⟩ := req_some h
      obtain ⟨h17, h⟩ := req_some h
      obtain ⟨h18, h⟩ := req_some h
      obtain ⟨h19, h⟩ := req_some h
      obtain ⟨x10, h20, h⟩ := bind_some h
      try dsimp only at h
      obtain ⟨rh21, h21, h⟩ := bind_some h
      have ch21 := f72_1_ok F (List.drop 0 (List.take (0 + (List.length ((([] : List Int) ++ (List.drop 0 (List.take (Int.toNat x9) x1))) ++ (List.drop (Int.toNat (w64 (x9 + 1))) (List.take (List.length x1) x1))))) ((([] : List Int) ++ (List.drop 0 (List.take (Int.toNat x9) x1))) ++ (List.drop (Int.toNat (w64 (x9 + 1))) (List.take (List.length x1) x1))))) x10 _ h21
      obtain ⟨x11, x12⟩ := rh21
      try dsimp only at h
      obtain ⟨h22, h⟩ := req_some h
      obtain ⟨x13, h23, h⟩ := bind_some h
      try dsimp only at h
      obtain ⟨rh26, h26, h⟩ := bind_some h
      have ch26 := f35_p5_1_ok F x1 x8 x9 x13 _ h26
      obtain ⟨x14, rfl⟩ : ∃ z, z = rh26 := ⟨_, rfl⟩
      try dsimp only at h
      exact Lp.again (gRun_ok cxOK (f35_p2_e0 x1 x8 x9 x10 x11 x12 x13 x14) ⟨h15, h16, h17, (.inl rfl), h18, h19, rfl, ⟨(at?_spec h20).1, x10, (at?_spec h20).2, rfl⟩, ch21, (Nat.le_of_eq (Nat.zero_add _)), ⟨(at?_spec h20).1, x10, (at?_spec h20).2, rfl⟩, h22, ⟨x13, h23, rfl⟩, ch26, trivial⟩) (f35_p2_ok F x1 k (w64 (x9 + 1)) x14 r h)
    · rw [if_neg h15] at h
      have h15 := Bool.eq_false_iff.2 h15
      obtain rfl := Option.some.inj h
      exact Lp.out (gRun_ok cxOK (f35_p2_e1 x1 x8 x9) ⟨h15, trivial⟩) (by intro hh; cases hh)
theorem f35_ok (F : Nat) (x1 : List Int) (r : (List Int) × Int) (h : f35 F x1 = some r) : f35_C x1 r := by
  unfold f35 at h
  obtain ⟨rh1, h1, h⟩ := bind_some h
  have ch1 := f27_ok F x1 _ h1
  obtain ⟨x2, rfl⟩ : ∃ z, z = rh1 := ⟨_, rfl⟩
  try dsimp only at h
  by_cases h2 : (x2 != 0) = true
  · rw [if_pos h2] at h
    obtain rfl := Option.some.inj h
    exact callOK cxOK cxW Try.func35 (by kernel_rfl) (f35_e0 x1 x2) ⟨ch1, h2, trivial⟩
  · rw [if_neg h2] at h
    have h2 := Bool.eq_false_iff.2 h2
    obtain ⟨rh27, h27, h⟩ := bind_some h
    have ch27 := f35_p2_ok F x1 F 0 ([] : List Int) _ h27
    obtain ⟨x15, rfl⟩ : ∃ z, z = rh27 := ⟨_, rfl⟩
    try dsimp only at h
    obtain rfl := Option.some.inj h
    exact callOK cxOK cxW Try.func35 (by kernel_rfl) (f35_e1 x1 x2 x15) ⟨ch1, h2, ch27, (Nat.le_of_eq (Nat.zero_add _)), trivial⟩

theorem f4_ok (F : Nat) (x1 : List Int) (r : Bool) (h : f4 F x1 = some r) : f4_C x1 r := by
  unfold f4 at h
  obtain ⟨rh1, h1, h⟩ := bind_some h
  have ch1 := f15_ok F x1 ([] : List Int) ([] : List Int) _ h1
  obtain ⟨x2, rfl⟩ : ∃ z, z = rh1 := ⟨_, rfl⟩
  try dsimp only at h
  by_cases h2 : x2 = true
  · rw [if_pos h2] at h
    obtain ⟨rh3, h3, h⟩ := bind_some h
    have ch3 := f16_ok F _ h3
    obtain ⟨x3, rfl⟩ : ∃ z, z = rh3 := ⟨_, rfl⟩
    try dsimp only at h
    obtain rfl := Option.some.inj h
    exact callOK cxOK cxW Try.func4 (by kernel_rfl) (f4_e0 x1 x2 x3) ⟨ch1, h2, ch3, trivial⟩
  · rw [if_neg h2] at h
    have h2 := Bool.eq_false_iff.2 h2
    obtain ⟨rh4, h4, h⟩ := bind_some h
    have ch4 := f28_ok F x1 _ h4
    obtain ⟨x4, x5⟩ := rh4
    try dsimp only at h
    obtain ⟨rh5, h5, h⟩ := bind_some h
    have ch5 := f29_ok F x1 _ h5
    obtain ⟨x6, x7⟩ := rh5
    try dsimp only at h
    obtain ⟨rh6, h6, h⟩ := bind_some h
    have ch6 := f30_ok F x1 _ h6
    obtain ⟨x8, x9⟩ := rh6
    try dsimp only at h
    obtain ⟨rh7, h7, h⟩ := bind_some h
    have ch7 := f31_ok F x1 _ h7
    obtain ⟨x10, x11⟩ := rh7
    try dsimp only at h
    obtain ⟨rh8, h8, h⟩ := bind_some h
    have ch8 := f32_ok F x1 _ h8
    obtain ⟨x12, x13⟩ := rh8
    try dsimp only at h
    obtain ⟨rh9, h9, h⟩ := bind_some h
    have ch9 := f33_ok F x1 _ h9
    obtain ⟨x14, x15⟩ := rh9
    try dsimp only at h
    obtain ⟨rh10, h10, h⟩ := bind_some h
    have ch10 := f34_ok F x1 _ h10
    obtain ⟨x16, x17⟩ := rh10
    try dsimp only at h
    obtain ⟨rh11, h11, h⟩ := bind_some h
    have ch11 := f35_ok F x1 _ h11
    obtain ⟨x18, x19⟩ := rh11
    try dsimp only at h
    obtain ⟨rh12, h12, h⟩ := bind_some h
    have ch12 := f23_ok F x4 x6 _ h12
    obtain ⟨x20, rfl⟩ : ∃ z, z = rh12 := ⟨_, rfl⟩
    try dsimp only at h
    by_cases h13 : x20 = true
    · rw [if_pos h13] at h
      by_cases h14 : (x5 == x7) = true
      · rw [if_pos h14] at h
        by_cases h15 : (x8 == x10) = true
        · rw [if_pos h15] at h
          by_cases h16 : (x9 == x11) = true
          · rw [if_pos h16] at h
            by_cases h17 : (x12 == x14) = true
            · rw [if_pos h17] at h
              by_cases h18 : (x13 == x15) = true
              · rw [if_pos h18] at h
                obtain ⟨rh19, h19, h⟩ := bind_some h
                have ch19 := f23_ok F x16 x18 _ h19
                obtain ⟨x21, rfl⟩ : ∃ z, z = rh19 := ⟨_, rfl⟩
                try dsimp only at h
                by_cases h20 : x21 = true
                · rw [if_pos h20] at h
                  by_cases h21 : (x17 == x19) = true
                  · rw [if_pos h21] at h
                    obtain ⟨rh22, h22, h⟩ := bind_some h
                    have ch22 := f16_ok F _ h22
                    obtain ⟨x22, rfl⟩ : ∃ z, z = rh22 := ⟨_, rfl⟩
                    try dsimp only at h
                    obtain rfl := Option.some.inj h
                    exact callOK cxOK cxW Try.func4 (by kernel_rfl) (f4_e1 x1 x2 x4 x5 x6 x7 x8 x9 x10 x11 x12 x13 x14 x15 x16 x17 x18 x19 x20 x21 x22) ⟨ch1, h2, ch4, ch5, ch6, ch7, ch8, ch9, ch10, ch11, ch12, h13, h13, h13, h13, h14, h14, h14, h14, h15, h15, h15, h15, h16, h16, h16, h16, h17, h17, h17, h17, h18, h18, h18, ch19, h18, h20, h20, h20, h20, h21, ch22, h21, trivial⟩
                  · rw [if_neg h21] at h
                    have h21 := Bool.eq_false_iff.2 h21
                    cases h
                · rw [if_neg h20] at h
                  have h20 := Bool.eq_false_iff.2 h20
                  cases h
              · rw [if_neg h18] at h
                have h18 := Bool.eq_false_iff.2 h18
                cases h
            · rw [if_neg h17] at h
              have h17 := Bool.eq_false_iff.2 h17
              cases h
          · rw [if_neg h16] at h
            have h16 := Bool.eq_false_iff.2 h16
            cases h
        · rw [if_neg h15] at h
          have h15 := Bool.eq_false_iff.2 h15
          cases h
      · rw [if_neg h14] at h
        have h14 := Bool.eq_false_iff.2 h14
        cases h
    · rw [if_neg h13] at h
      have h13 := Bool.eq_false_iff.2 h13
      cases h

end Go.Gh.Pack
