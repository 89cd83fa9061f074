/- Bunch14F1: printed by wip/tool/gx.py -/
import Derived.Test.YtegnegeoodkpcaaBunch14F0
namespace Go.Gh.Bunch
set_option linter.unusedVariables false
set_option linter.unusedSimpArgs false
open Go.Proofs

theorem f46_p8_1_ok (F : Nat) (x14 : Int) (x1 : List Int) (x16 : Int) : ∀ (k : Nat) (x20 : Int) (x21 : List Int) (r : (List Int)), f46_p8_1 F x14 x1 x16 k x20 x21 = some r → f46_p8_1_P x14 x1 x16 x20 x21 r
  | 0, _, _, _, h => by cases h
  | k + 1, x20, x21, r, h => by
    unfold f46_p8_1 at h
    by_cases h30 : (decide (x20 < (w64 (Int.tdiv x16 2)))) = true
    · rw [if_pos h30] at h
      obtain ⟨h31, h⟩ := req_some h
      obtain ⟨x22, h32, h⟩ := bind_some h
      try dsimp only at h
      obtain ⟨h33, h⟩ := req_some h
      exact Lp.again (gRun_ok cxOK (f46_p8_1_e0 x1 x14 x16 x20 x21 x22) ⟨h30, h31, ⟨x22, h32, rfl⟩, h31, h33, trivial⟩) (f46_p8_1_ok F x14 x1 x16 k (w64 (x20 + 1)) (List.set x21 (0 + ((Int.toNat (w64 ((w64 (x14 + 1)) + x20))) * 1)) (w64 (x22 + 1))) r h)
    · rw [if_neg h30] at h
      have h30 := Bool.eq_false_iff.2 h30
      obtain rfl := Option.some.inj h
      exact Lp.out (gRun_ok cxOK (f46_p8_1_e1 x1 x14 x16 x20 x21) ⟨h30, trivial⟩) (by intro hh; cases hh)
theorem f46_p4_ok (F : Nat) (x1 : List Int) : ∀ (k : Nat) (x14 : Int) (x15 : List Int) (r : (List Int)), f46_p4 F x1 k x14 x15 = some r → f46_p4_P x1 x14 x15 r
  | 0, _, _, _, h => by cases h
  | k + 1, x14, x15, r, h => by
    unfold f46_p4 at h
    by_cases h21 : (decide (x14 < ((List.length x1 : Nat) : Int))) = true
    · rw [if_pos h21] at h
      obtain ⟨x16, h22, h⟩ := bind_some h
      try dsimp only at h
      obtain ⟨h23, h⟩ := req_some h
      obtain ⟨x17, h24, h⟩ := bind_some h
      try dsimp only at h
      obtain ⟨h25, h⟩ := req_some h
      obtain ⟨rh34, h34, h⟩ := bind_some h
      have ch34 := f46_p8_1_ok F x14 x1 x16 F 0 (List.set x15 (0 + ((Int.toNat x14) * 1)) (w64 (x17 + (w64 ((w64 (Int.tdiv x16 2)) + 1))))) _ h34
      obtain ⟨x23, rfl⟩ : ∃ z, z = rh34 := ⟨_, rfl⟩
      try dsimp only at h
      exact Lp.again (gRun_ok cxOK (f46_p4_e0 x1 x14 x15 x16 x17 x23) ⟨h21, ⟨(at?_spec h22).1, x16, (at?_spec h22).2, rfl⟩, (by decide), h23, ⟨x17, h24, rfl⟩, h23, h25, ch34, trivial⟩) (f46_p4_ok F x1 k (w64 (x14 + 1)) x23 r h)
    · rw [if_neg h21] at h
      have h21 := Bool.eq_false_iff.2 h21
      obtain rfl := Option.some.inj h
      exact Lp.out (gRun_ok cxOK (f46_p4_e1 x1 x14 x15) ⟨h21, trivial⟩) (by intro hh; cases hh)
theorem f46_p15_1_ok (F : Nat) (x27 x24 : List Int) (x28 : Int) (r : (List Int)) (h : f46_p15_1 F x27 x24 x28 = some r) : f46_p15_1_P x27 x24 x28 r := by
  unfold f46_p15_1 at h
  by_cases h43 : (decide (((x24)[(Int.toNat x28)]?.getD 0) > 0)) = true
  · rw [if_pos h43] at h
    obtain ⟨h44, h⟩ := req_some h
    obtain rfl := Option.some.inj h
    exact gRun_ok cxOK (f46_p15_1_e0 x24 x27 x28) ⟨h43, h44, rfl, trivial⟩
  · rw [if_neg h43] at h
    have h43 := Bool.eq_false_iff.2 h43
    obtain rfl := Option.some.inj h
    exact gRun_ok cxOK (f46_p15_1_e1 x24 x27 x28) ⟨h43, trivial⟩
theorem f46_p12_ok (F : Nat) (x24 : List Int) : ∀ (k : Nat) (x28 : Int) (x27 : List Int) (r : (List Int)), f46_p12 F x24 k x28 x27 = some r → f46_p12_P x24 x28 x27 r
  | 0, _, _, _, h => by cases h
  | k + 1, x28, x27, r, h => by
    unfold f46_p12 at h
    by_cases h41 : (decide (x28 < 31)) = true
    · rw [if_pos h41] at h
      obtain ⟨h42, h⟩ := req_some h
      obtain ⟨rh45, h45, h⟩ := bind_some h
      have ch45 := f46_p15_1_ok F x27 x24 x28 _ h45
      obtain ⟨x29, rfl⟩ : ∃ z, z = rh45 := ⟨_, rfl⟩
      try dsimp only at h
      exact Lp.again (gRun_ok cxOK (f46_p12_e0 x24 x27 x28 x29) ⟨h41, h42, ch45, trivial⟩) (f46_p12_ok F x24 k (w64 (x28 + 1)) x29 r h)
    · rw [if_neg h41] at h
      have h41 := Bool.eq_false_iff.2 h41
      obtain rfl := Option.some.inj h
      exact Lp.out (gRun_ok cxOK (f46_p12_e1 x24 x27 x28) ⟨h41, trivial⟩) (by intro hh; cases hh)
theorem f46_ok (F : Nat) (x1 : List Int) (r : (List Int) × Int) (h : f46 F x1 = some r) : f46_C x1 r := by
  unfold f46 at h
  obtain ⟨rh1, h1, h⟩ := bind_some h
  have ch1 := f34_ok F x1 _ h1
  obtain ⟨x2, rfl⟩ : ∃ z, z = rh1 := ⟨_, rfl⟩
  try dsimp only at h
  by_cases h2 : (x2 != 0) = true
  · rw [if_pos h2] at h
    obtain rfl := Option.some.inj h
    exact callOK cxOK cxW Try.func46 (by kernel_rfl) (f46_e0 x1 x2) ⟨ch1, h2, trivial⟩
  · rw [if_neg h2] at h
    have h2 := Bool.eq_false_iff.2 h2
    obtain ⟨rh3, h3, h⟩ := bind_some h
    have ch3 := f68_ok F x1 _ h3
    obtain ⟨x3, rfl⟩ : ∃ z, z = rh3 := ⟨_, rfl⟩
    try dsimp only at h
    by_cases h4 : x3 = true
    · rw [if_pos h4] at h
      obtain ⟨rh5, h5, h⟩ := bind_some h
      have ch5 := f63_1_ok F x1 _ h5
      obtain ⟨x4, rfl⟩ : ∃ z, z = rh5 := ⟨_, rfl⟩
      try dsimp only at h
      by_cases h6 : x4 = true
      · rw [if_pos h6] at h
        obtain rfl := Option.some.inj h
        exact callOK cxOK cxW Try.func46 (by kernel_rfl) (f46_e1 x1 x2 x3 x4) ⟨ch1, h2, ch3, (by rw [h4]; rfl), (by rw [h4]; rfl), ch5, (by rw [h4]; rfl), h6, trivial⟩
      · rw [if_neg h6] at h
        have h6 := Bool.eq_false_iff.2 h6
        obtain ⟨rh35, h35, h⟩ := bind_some h
        have ch35 := f46_p4_ok F x1 F 0 (List.replicate 31 0) _ h35
        obtain ⟨x24, rfl⟩ : ∃ z, z = rh35 := ⟨_, rfl⟩
        try dsimp only at h
        obtain ⟨rh46, h46, h⟩ := bind_some h
        have ch46 := f46_p12_ok F x24 F 0 ([] : List Int) _ h46
        obtain ⟨x30, rfl⟩ : ∃ z, z = rh46 := ⟨_, rfl⟩
        try dsimp only at h
        obtain rfl := Option.some.inj h
        exact callOK cxOK cxW Try.func46 (by kernel_rfl) (f46_e2 x1 x2 x3 x4 x24 x30) ⟨ch1, h2, ch3, (by rw [h4]; rfl), (by rw [h4]; rfl), ch5, (by rw [h4]; rfl), h6, ch35, ch46, (Nat.le_of_eq (Nat.zero_add _)), trivial⟩
    · rw [if_neg h4] at h
      have h4 := Bool.eq_false_iff.2 h4
      obtain rfl := Option.some.inj h
      exact callOK cxOK cxW Try.func46 (by kernel_rfl) (f46_e3 x1 x2 x3) ⟨ch1, h2, ch3, (by rw [h4]; rfl), (by rw [h4]; rfl), (by rw [h4]; rfl), rfl, trivial⟩

theorem f19_ok (F : Nat) (r : Bool) (h : f19 F = some r) : f19_C r := by
  unfold f19 at h
  obtain ⟨rh1, h1, h⟩ := bind_some h
  have ch1 := f52_ok F ([4, 2, 1] : List Int) _ h1
  obtain ⟨x1, rfl⟩ : ∃ z, z = rh1 := ⟨_, rfl⟩
  try dsimp only at h
  obtain ⟨rh2, h2, h⟩ := bind_some h
  have ch2 := f25_ok F x1 _ h2
  obtain ⟨x2, x3⟩ := rh2
  try dsimp only at h
  obtain ⟨rh3, h3, h⟩ := bind_some h
  have ch3 := f15_ok F 5 _ h3
  obtain ⟨x4, x5⟩ := rh3
  try dsimp only at h
  obtain ⟨rh4, h4, h⟩ := bind_some h
  have ch4 := f17_ok F 5 2 _ h4
  obtain ⟨x6, x7⟩ := rh4
  try dsimp only at h
  obtain ⟨rh5, h5, h⟩ := bind_some h
  have ch5 := f20_ok F 10 _ h5
  obtain ⟨x8, x9⟩ := rh5
  try dsimp only at h
  obtain ⟨rh6, h6, h⟩ := bind_some h
  have ch6 := f22_ok F 12 _ h6
  obtain ⟨x10, x11⟩ := rh6
  try dsimp only at h
  obtain ⟨rh7, h7, h⟩ := bind_some h
  have ch7 := f52_ok F ([3, 2] : List Int) _ h7
  obtain ⟨x12, rfl⟩ : ∃ z, z = rh7 := ⟨_, rfl⟩
  try dsimp only at h
  obtain ⟨rh8, h8, h⟩ := bind_some h
  have ch8 := f36_ok F x12 _ h8
  obtain ⟨x13, x14⟩ := rh8
  try dsimp only at h
  obtain ⟨rh9, h9, h⟩ := bind_some h
  have ch9 := f38_ok F 5 2 _ h9
  obtain ⟨x15, x16⟩ := rh9
  try dsimp only at h
  by_cases h10 : (x3 != 0) = true
  · rw [if_pos h10] at h
    cases h
  · rw [if_neg h10] at h
    have h10 := Bool.eq_false_iff.2 h10
    by_cases h11 : (x5 != 0) = true
    · rw [if_pos h11] at h
      cases h
    · rw [if_neg h11] at h
      have h11 := Bool.eq_false_iff.2 h11
      by_cases h12 : (x7 != 0) = true
      · rw [if_pos h12] at h
        cases h
      · rw [if_neg h12] at h
        have h12 := Bool.eq_false_iff.2 h12
        by_cases h13 : (x9 != 0) = true
        · rw [if_pos h13] at h
          cases h
        · rw [if_neg h13] at h
          have h13 := Bool.eq_false_iff.2 h13
          by_cases h14 : (x11 != 0) = true
          · rw [if_pos h14] at h
            cases h
          · rw [if_neg h14] at h
            have h14 := Bool.eq_false_iff.2 h14
            by_cases h15 : (x14 != 0) = true
            · rw [if_pos h15] at h
              cases h
            · rw [if_neg h15] at h
              have h15 := Bool.eq_false_iff.2 h15
              by_cases h16 : (x16 != 0) = true
              · rw [if_pos h16] at h
                cases h
              · rw [if_neg h16] at h
                have h16 := Bool.eq_false_iff.2 h16
                obtain ⟨rh17, h17, h⟩ := bind_some h
                have ch17 := f52_ok F ([3, 3, 3, 1, 1] : List Int) _ h17
                obtain ⟨x17, rfl⟩ : ∃ z, z = rh17 := ⟨_, rfl⟩
                try dsimp only at h
                obtain ⟨rh18, h18, h⟩ := bind_some h
                have ch18 := f27_ok F x17 _ h18
                obtain ⟨x18, x19⟩ := rh18
                try dsimp only at h
                obtain ⟨rh19, h19, h⟩ := bind_some h
                have ch19 := f52_ok F ([6, 3, 2] : List Int) _ h19
                obtain ⟨x20, rfl⟩ : ∃ z, z = rh19 := ⟨_, rfl⟩
                try dsimp only at h
                obtain ⟨rh20, h20, h⟩ := bind_some h
                have ch20 := f29_ok F x20 _ h20
                obtain ⟨x21, x22⟩ := rh20
                try dsimp only at h
                obtain ⟨rh21, h21, h⟩ := bind_some h
                have ch21 := f52_ok F ([5, 2] : List Int) _ h21
                obtain ⟨x23, rfl⟩ : ∃ z, z = rh21 := ⟨_, rfl⟩
                try dsimp only at h
                obtain ⟨rh22, h22, h⟩ := bind_some h
                have ch22 := f32_ok F x23 _ h22
                obtain ⟨x24, x25⟩ := rh22
                try dsimp only at h
                obtain ⟨rh23, h23, h⟩ := bind_some h
                have ch23 := f52_ok F ([5, 4, 4, 1] : List Int) _ h23
                obtain ⟨x26, rfl⟩ : ∃ z, z = rh23 := ⟨_, rfl⟩
                try dsimp only at h
                obtain ⟨rh24, h24, h⟩ := bind_some h
                have ch24 := f40_ok F x26 _ h24
                obtain ⟨x27, x28, x29, x30⟩ := rh24
                try dsimp only at h
                obtain ⟨rh25, h25, h⟩ := bind_some h
                have ch25 := f52_ok F ([2, 1, 1] : List Int) _ h25
                obtain ⟨x31, rfl⟩ : ∃ z, z = rh25 := ⟨_, rfl⟩
                try dsimp only at h
                obtain ⟨rh26, h26, h⟩ := bind_some h
                have ch26 := f52_ok F ([1] : List Int) _ h26
                obtain ⟨x32, rfl⟩ : ∃ z, z = rh26 := ⟨_, rfl⟩
                try dsimp only at h
                obtain ⟨rh27, h27, h⟩ := bind_some h
                have ch27 := f42_ok F 3 x31 x32 _ h27
                obtain ⟨x33, x34⟩ := rh27
                try dsimp only at h
                obtain ⟨rh28, h28, h⟩ := bind_some h
                have ch28 := f52_ok F ([4, 3, 3, 1] : List Int) _ h28
                obtain ⟨x35, rfl⟩ : ∃ z, z = rh28 := ⟨_, rfl⟩
                try dsimp only at h
                obtain ⟨rh29, h29, h⟩ := bind_some h
                have ch29 := f44_ok F x35 _ h29
                obtain ⟨x36, x37⟩ := rh29
                try dsimp only at h
                obtain ⟨rh30, h30, h⟩ := bind_some h
                have ch30 := f52_ok F ([7, 3, 1] : List Int) _ h30
                obtain ⟨x38, rfl⟩ : ∃ z, z = rh30 := ⟨_, rfl⟩
                try dsimp only at h
                obtain ⟨rh31, h31, h⟩ := bind_some h
                have ch31 := f46_ok F x38 _ h31
                obtain ⟨x39, x40⟩ := rh31
                try dsimp only at h
                obtain ⟨rh32, h32, h⟩ := bind_some h
                have ch32 := f52_ok F ([4, 3] : List Int) _ h32
                obtain ⟨x41, rfl⟩ : ∃ z, z = rh32 := ⟨_, rfl⟩
                try dsimp only at h
                obtain ⟨rh33, h33, h⟩ := bind_some h
                have ch33 := f32_ok F x41 _ h33
                obtain ⟨x42, x43⟩ := rh33
                try dsimp only at h
                obtain ⟨rh34, h34, h⟩ := bind_some h
                have ch34 := f52_ok F ([2] : List Int) _ h34
                obtain ⟨x44, rfl⟩ : ∃ z, z = rh34 := ⟨_, rfl⟩
                try dsimp only at h
                obtain ⟨rh35, h35, h⟩ := bind_some h
                have ch35 := f27_ok F x44 _ h35
                obtain ⟨x45, x46⟩ := rh35
                try dsimp only at h
                by_cases h36 : (x19 == 0) = true
                · rw [if_pos h36] at h
                  by_cases h37 : (x22 == 0) = true
                  · rw [if_pos h37] at h
                    by_cases h38 : (x25 == 0) = true
                    · rw [if_pos h38] at h
                      by_cases h39 : (x30 == 0) = true
                      · rw [if_pos h39] at h
                        by_cases h40 : (x34 == 0) = true
                        · rw [if_pos h40] at h
                          by_cases h41 : (x37 == 0) = true
                          · rw [if_pos h41] at h
                            by_cases h42 : (x40 == 0) = true
                            · rw [if_pos h42] at h
                              by_cases h43 : (x43 == 12) = true
                              · rw [if_pos h43] at h
                                by_cases h44 : (x46 == 14) = true
                                · rw [if_pos h44] at h
                                  obtain ⟨rh45, h45, h⟩ := bind_some h
                                  have ch45 := f52_ok F ([3, 2, 1, 1] : List Int) _ h45
                                  obtain ⟨x47, rfl⟩ : ∃ z, z = rh45 := ⟨_, rfl⟩
                                  try dsimp only at h
                                  obtain ⟨rh46, h46, h⟩ := bind_some h
                                  have ch46 := f31_ok F x2 x47 _ h46
                                  obtain ⟨x48, rfl⟩ : ∃ z, z = rh46 := ⟨_, rfl⟩
                                  try dsimp only at h
                                  by_cases h47 : x48 = true
                                  · rw [if_pos h47] at h
                                    by_cases h48 : (x4 == 7) = true
                                    · rw [if_pos h48] at h
                                      by_cases h49 : (x6 == 3) = true
                                      · rw [if_pos h49] at h
                                        by_cases h50 : (x8 == 10) = true
                                        · rw [if_pos h50] at h
                                          by_cases h51 : (x10 == (-1)) = true
                                          · rw [if_pos h51] at h
                                            by_cases h52 : (x13 == 4) = true
                                            · rw [if_pos h52] at h
                                              obtain ⟨rh53, h53, h⟩ := bind_some h
                                              have ch53 := f52_ok F ([2, 2, 1] : List Int) _ h53
                                              obtain ⟨x49, rfl⟩ : ∃ z, z = rh53 := ⟨_, rfl⟩
                                              try dsimp only at h
                                              obtain ⟨rh54, h54, h⟩ := bind_some h
                                              have ch54 := f31_ok F x15 x49 _ h54
                                              obtain ⟨x50, rfl⟩ : ∃ z, z = rh54 := ⟨_, rfl⟩
                                              try dsimp only at h
                                              by_cases h55 : x50 = true
                                              · rw [if_pos h55] at h
                                                obtain ⟨rh56, h56, h⟩ := bind_some h
                                                have ch56 := f52_ok F ([6, 3, 2] : List Int) _ h56
                                                obtain ⟨x51, rfl⟩ : ∃ z, z = rh56 := ⟨_, rfl⟩
                                                try dsimp only at h
                                                obtain ⟨rh57, h57, h⟩ := bind_some h
                                                have ch57 := f31_ok F x18 x51 _ h57
                                                obtain ⟨x52, rfl⟩ : ∃ z, z = rh57 := ⟨_, rfl⟩
                                                try dsimp only at h
                                                by_cases h58 : x52 = true
                                                · rw [if_pos h58] at h
                                                  obtain ⟨rh59, h59, h⟩ := bind_some h
                                                  have ch59 := f52_ok F ([3, 3, 3, 1, 1] : List Int) _ h59
                                                  obtain ⟨x53, rfl⟩ : ∃ z, z = rh59 := ⟨_, rfl⟩
                                                  try dsimp only at h
                                                  obtain ⟨rh60, h60, h⟩ := bind_some h
                                                  have ch60 := f31_ok F x21 x53 _ h60
                                                  obtain ⟨x54, rfl⟩ : ∃ z, z = rh60 := ⟨_, rfl⟩
                                                  try dsimp only at h
                                                  by_cases h61 : x54 = true
                                                  · rw [if_pos h61] at h
                                                    obtain ⟨rh62, h62, h⟩ := bind_some h
                                                    have ch62 := f52_ok F ([4, 2, 1] : List Int) _ h62
                                                    obtain ⟨x55, rfl⟩ : ∃ z, z = rh62 := ⟨_, rfl⟩
                                                    try dsimp only at h
                                                    obtain ⟨rh63, h63, h⟩ := bind_some h
                                                    have ch63 := f31_ok F x24 x55 _ h63
                                                    obtain ⟨x56, rfl⟩ : ∃ z, z = rh63 := ⟨_, rfl⟩
                                                    try dsimp only at h
                                                    by_cases h64 : x56 = true
                                                    · rw [if_pos h64] at h
                                                      by_cases h65 : (x27 == 3) = true
                                                      · rw [if_pos h65] at h
                                                        obtain ⟨rh66, h66, h⟩ := bind_some h
                                                        have ch66 := f52_ok F ([2, 1, 1] : List Int) _ h66
                                                        obtain ⟨x57, rfl⟩ : ∃ z, z = rh66 := ⟨_, rfl⟩
                                                        try dsimp only at h
                                                        obtain ⟨rh67, h67, h⟩ := bind_some h
                                                        have ch67 := f31_ok F x28 x57 _ h67
                                                        obtain ⟨x58, rfl⟩ : ∃ z, z = rh67 := ⟨_, rfl⟩
                                                        try dsimp only at h
                                                        by_cases h68 : x58 = true
                                                        · rw [if_pos h68] at h
                                                          obtain ⟨rh69, h69, h⟩ := bind_some h
                                                          have ch69 := f52_ok F ([1] : List Int) _ h69
                                                          obtain ⟨x59, rfl⟩ : ∃ z, z = rh69 := ⟨_, rfl⟩
                                                          try dsimp only at h
                                                          obtain ⟨rh70, h70, h⟩ := bind_some h
                                                          have ch70 := f31_ok F x29 x59 _ h70
                                                          obtain ⟨x60, rfl⟩ : ∃ z, z = rh70 := ⟨_, rfl⟩
                                                          try dsimp only at h
                                                          by_cases h71 : x60 = true
                                                          · rw [if_pos h71] at h
                                                            obtain ⟨rh72, h72, h⟩ := bind_some h
                                                            have ch72 := f52_ok F ([5, 4, 4, 1] : List Int) _ h72
                                                            obtain ⟨x61, rfl⟩ : ∃ z, z = rh72 := ⟨_, rfl⟩
                                                            try dsimp only at h
                                                            obtain ⟨rh73, h73, h⟩ := bind_some h
                                                            have ch73 := f31_ok F x33 x61 _ h73
                                                            obtain ⟨x62, rfl⟩ : ∃ z, z = rh73 := ⟨_, rfl⟩
                                                            try dsimp only at h
                                                            by_cases h74 : x62 = true
                                                            · rw [if_pos h74] at h
                                                              obtain ⟨rh75, h75, h⟩ := bind_some h
                                                              have ch75 := f52_ok F ([7, 3, 1] : List Int) _ h75
                                                              obtain ⟨x63, rfl⟩ : ∃ z, z = rh75 := ⟨_, rfl⟩
                                                              try dsimp only at h
                                                              obtain ⟨rh76, h76, h⟩ := bind_some h
                                                              have ch76 := f31_ok F x36 x63 _ h76
                                                              obtain ⟨x64, rfl⟩ : ∃ z, z = rh76 := ⟨_, rfl⟩
                                                              try dsimp only at h
                                                              by_cases h77 : x64 = true
                                                              · rw [if_pos h77] at h
                                                                obtain ⟨rh78, h78, h⟩ := bind_some h
                                                                have ch78 := f52_ok F ([4, 3, 3, 1] : List Int) _ h78
                                                                obtain ⟨x65, rfl⟩ : ∃ z, z = rh78 := ⟨_, rfl⟩
                                                                try dsimp only at h
                                                                obtain ⟨rh79, h79, h⟩ := bind_some h
                                                                have ch79 := f31_ok F x39 x65 _ h79
                                                                obtain ⟨x66, rfl⟩ : ∃ z, z = rh79 := ⟨_, rfl⟩
                                                                try dsimp only at h
                                                                obtain rfl := Option.some.inj h
                                                                exact callOK cxOK cxW Try.func19 (by kernel_rfl) (f19_e0 x1 x2 x3 x4 x5 x6 x7 x8 x9 x10 x11 x12 x13 x14 x15 x16 x17 x18 x19 x20 x21 x22 x23 x24 x25 x26 x27 x28 x29 x30 x31 x32 x33 x34 x35 x36 x37 x38 x39 x40 x41 x42 x43 x44 x45 x46 x47 x48 x49 x50 x51 x52 x53 x54 x55 x56 x57 x58 x59 x60 x61 x62 x63 x64 x65 x66) ⟨ch1, ch2, ch3, ch4, ch5, ch6, ch7, ch8, ch9, h10, h10, h10, h11, h11, h11, h12, h12, h12, h13, h13, h13, h14, h14, h14, h15, h15, h15, h16, ch17, ch18, ch19, ch20, ch21, ch22, ch23, ch24, ch25, ch26, ch27, ch28, ch29, ch30, ch31, ch32, ch33, ch34, ch35, h36, h36, h36, h37, h37, h37, h38, h38, h38, h39, h39, h39, h40, h40, h40, h41, h41, h41, h42, h42, h42, h43, h43, h43, h44, h44, h44, ch45, h44, ch46, h44, h47, h47, h47, h48, h48, h48, h49, h49, h49, h50, h50, h50, h51, h51, h51, h52, h52, h52, ch53, h52, ch54, h52, h55, h55, h55, ch56, h55, ch57, h55, h58, h58, h58, ch59, h58, ch60, h58, h61, h61, h61, ch62, h61, ch63, h61, h64, h64, h64, h65, h65, h65, ch66, h65, ch67, h65, h68, h68, h68, ch69, h68, ch70, h68, h71, h71, h71, ch72, h71, ch73, h71, h74, h74, h74, ch75, h74, ch76, h74, h77, h77, h77, ch78, h77, ch79, h77, trivial⟩
                                                              · rw [if_neg h77] at h
                                                                have h77 := Bool.eq_false_iff.2 h77
                                                                cases h
                                                            · rw [if_neg h74] at h
                                                              have h74 := Bool.eq_false_iff.2 h74
                                                              cases h
                                                          · rw [if_neg h71] at h
                                                            have h71 := Bool.eq_false_iff.2 h71
                                                            cases h
                                                        · rw [if_neg h68] at h
                                                          have h68 := Bool.eq_false_iff.2 h68
                                                          cases h
                                                      · rw [if_neg h65] at h
                                                        have h65 := Bool.eq_false_iff.2 h65
                                                        cases h
                                                    · rw [if_neg h64] at h
                                                      have h64 := Bool.eq_false_iff.2 h64
                                                      cases h
                                                  · rw [if_neg h61] at h
                                                    have h61 := Bool.eq_false_iff.2 h61
                                                    cases h
                                                · rw [if_neg h58] at h
                                                  have h58 := Bool.eq_false_iff.2 h58
                                                  cases h
                                              · rw [if_neg h55] at h
                                                have h55 := Bool.eq_false_iff.2 h55
                                                cases h
                                            · rw [if_neg h52] at h
                                              have h52 := Bool.eq_false_iff.2 h52
                                              cases h
                                          · rw [if_neg h51] at h
                                            have h51 := Bool.eq_false_iff.2 h51
                                            cases h
                                        · rw [if_neg h50] at h
                                          have h50 := Bool.eq_false_iff.2 h50
                                          cases h
                                      · rw [if_neg h49] at h
                                        have h49 := Bool.eq_false_iff.2 h49
                                        cases h
                                    · rw [if_neg h48] at h
                                      have h48 := Bool.eq_false_iff.2 h48
                                      cases h
                                  · rw [if_neg h47] at h
                                    have h47 := Bool.eq_false_iff.2 h47
                                    cases h
                                · rw [if_neg h44] at h
                                  have h44 := Bool.eq_false_iff.2 h44
                                  cases h
                              · rw [if_neg h43] at h
                                have h43 := Bool.eq_false_iff.2 h43
                                cases h
                            · rw [if_neg h42] at h
                              have h42 := Bool.eq_false_iff.2 h42
                              cases h
                          · rw [if_neg h41] at h
                            have h41 := Bool.eq_false_iff.2 h41
                            cases h
                        · rw [if_neg h40] at h
                          have h40 := Bool.eq_false_iff.2 h40
                          cases h
                      · rw [if_neg h39] at h
                        have h39 := Bool.eq_false_iff.2 h39
                        cases h
                    · rw [if_neg h38] at h
                      have h38 := Bool.eq_false_iff.2 h38
                      cases h
                  · rw [if_neg h37] at h
                    have h37 := Bool.eq_false_iff.2 h37
                    cases h
                · rw [if_neg h36] at h
                  have h36 := Bool.eq_false_iff.2 h36
                  cases h

theorem f14_p5_ok (F : Nat) (x2 : List Int) (x1 : Int) (x3 : List (List Int)) (x4 : Int) (x5 : (List Int)) (r : f14_p5_R) (h : f14_p5 F x2 x1 x3 x4 x5 = some r) : f14_p5_P x2 x1 x3 x4 x5 r := by
  unfold f14_p5 at h
  by_cases h7 : ((Int.tmod x4 7) == (Int.tmod ((List.length x2 : Nat) : Int) 7)) = true
  · rw [if_pos h7] at h
    obtain ⟨rh8, h8, h⟩ := bind_some h
    have ch8 := f38_ok F (Int.tmod (w64 (x1)) 21) x4 _ h8
    obtain ⟨x8, x9⟩ := rh8
    try dsimp only at h
    by_cases h9 : (x9 != 0) = true
    · rw [if_pos h9] at h
      obtain rfl := Option.some.inj h
      exact gRun_ok cxOK (f14_p5_e0 x1 x2 x3 x4 x5 x8 x9) ⟨h7, ch8, h9, h9, h9, h9, h9, rfl, trivial⟩
    · rw [if_neg h9] at h
      have h9 := Bool.eq_false_iff.2 h9
      obtain ⟨rh10, h10, h⟩ := bind_some h
      have ch10 := f31_ok F x8 x5 _ h10
      obtain ⟨x10, rfl⟩ : ∃ z, z = rh10 := ⟨_, rfl⟩
      try dsimp only at h
      by_cases h11 : x10 = true
      · rw [if_pos h11] at h
        obtain rfl := Option.some.inj h
        exact gRun_ok cxOK (f14_p5_e1 x1 x2 x3 x4 x5 x8 x9 x10) ⟨h7, ch8, h9, h9, h9, ch10, h9, h9, (by rw [h11]; rfl), trivial⟩
      · rw [if_neg h11] at h
        have h11 := Bool.eq_false_iff.2 h11
        obtain rfl := Option.some.inj h
        exact gRun_ok cxOK (f14_p5_e2 x1 x2 x3 x4 x5 x8 x9 x10) ⟨h7, ch8, h9, h9, h9, ch10, h9, h9, (by rw [h11]; rfl), trivial⟩
  · rw [if_neg h7] at h
    have h7 := Bool.eq_false_iff.2 h7
    obtain rfl := Option.some.inj h
    exact gRun_ok cxOK (f14_p5_e3 x1 x2 x3 x4 x5) ⟨h7, trivial⟩
theorem f14_p1_ok (F : Nat) (x2 : List Int) (x1 : Int) (x3 : List (List Int)) : ∀ (k : Nat) (x4 : Int) (r : f14_p1_R), f14_p1 F x2 x1 x3 k x4 = some r → f14_p1_P x2 x1 x3 x4 r
  | 0, _, _, h => by cases h
  | k + 1, x4, r, h => by
    unfold f14_p1 at h
    by_cases h2 : (decide (x4 < ((List.length x3 : Nat) : Int))) = true
    · rw [if_pos h2] at h
      obtain ⟨x5, h3, h⟩ := bind_some h
      try dsimp only at h
      obtain ⟨rh4, h4, h⟩ := bind_some h
      have ch4 := f36_ok F x5 _ h4
      obtain ⟨x6, x7⟩ := rh4
      try dsimp only at h
      by_cases h5 : (x7 != 0) = true
      · rw [if_pos h5] at h
        obtain rfl := Option.some.inj h
        exact Lp.out (gRun_ok cxOK (f14_p1_e0 x1 x2 x3 x4 x5 x6 x7) ⟨h2, ⟨(at?_spec h3).1, x5, (at?_spec h3).2, rfl⟩, ch4, h5, h5, h5, h5, rfl, trivial⟩) (by intro hh; cases hh)
      · rw [if_neg h5] at h
        have h5 := Bool.eq_false_iff.2 h5
        by_cases h6 : (x6 != x4) = true
        · rw [if_pos h6] at h
          obtain rfl := Option.some.inj h
          exact Lp.out (gRun_ok cxOK (f14_p1_e1 x1 x2 x3 x4 x5 x6 x7) ⟨h2, ⟨(at?_spec h3).1, x5, (at?_spec h3).2, rfl⟩, ch4, h5, h5, h5, h5, h6, trivial⟩) (by intro hh; cases hh)
        · rw [if_neg h6] at h
          have h6 := Bool.eq_false_iff.2 h6
          obtain ⟨rh12, h12, h⟩ := bind_some h
          have ch12 := f14_p5_ok F x2 x1 x3 x4 x5 _ h12
          cases rh12 with
          | c0 =>
            try dsimp only at h
            obtain rfl := Option.some.inj h
            exact Lp.out (gRun_ok cxOK (f14_p1_e2 x1 x2 x3 x4 x5 x6 x7) ⟨h2, ⟨(at?_spec h3).1, x5, (at?_spec h3).2, rfl⟩, ch4, h5, h5, h5, h5, h6, (by decide), (by decide), ch12, trivial⟩) (by intro hh; cases hh)
          | c1 =>
            try dsimp only at h
            exact Lp.again (gRun_ok cxOK (f14_p1_e3 x1 x2 x3 x4 x5 x6 x7) ⟨h2, ⟨(at?_spec h3).1, x5, (at?_spec h3).2, rfl⟩, ch4, h5, h5, h5, h5, h6, (by decide), (by decide), ch12, trivial⟩) (f14_p1_ok F x2 x1 x3 k (w64 (x4 + 1)) r h)
    · rw [if_neg h2] at h
      have h2 := Bool.eq_false_iff.2 h2
      obtain rfl := Option.some.inj h
      exact Lp.out (gRun_ok cxOK (f14_p1_e4 x1 x2 x3 x4) ⟨h2, trivial⟩) (by intro hh; cases hh)
theorem f14_ok (F : Nat) (x1 : Int) (x2 : List Int) (r : Bool) (h : f14 F x1 x2 = some r) : f14_C x1 x2 r := by
  unfold f14 at h
  obtain ⟨rh1, h1, h⟩ := bind_some h
  have ch1 := f48_ok F (Int.tmod (w64 (x1)) 21) _ h1
  obtain ⟨x3, rfl⟩ : ∃ z, z = rh1 := ⟨_, rfl⟩
  try dsimp only at h
  obtain ⟨rh13, h13, h⟩ := bind_some h
  have ch13 := f14_p1_ok F x2 x1 x3 F 0 _ h13
  cases rh13 with
  | c0 =>
    try dsimp only at h
    cases h
  | c1 =>
    try dsimp only at h
    obtain ⟨rh14, h14, h⟩ := bind_some h
    have ch14 := f15_ok F (Int.tmod (w64 (x1)) 21) _ h14
    obtain ⟨x11, x12⟩ := rh14
    try dsimp only at h
    obtain ⟨rh15, h15, h⟩ := bind_some h
    have ch15 := f38_ok F (Int.tmod (w64 (x1)) 21) ((List.length x3 : Nat) : Int) _ h15
    obtain ⟨x13, x14⟩ := rh15
    try dsimp only at h
    obtain ⟨rh16, h16, h⟩ := bind_some h
    have ch16 := f53_ok F x2 30 _ h16
    obtain ⟨x15, rfl⟩ : ∃ z, z = rh16 := ⟨_, rfl⟩
    try dsimp only at h
    obtain ⟨rh17, h17, h⟩ := bind_some h
    have ch17 := f36_ok F x15 _ h17
    obtain ⟨x16, x17⟩ := rh17
    try dsimp only at h
    obtain ⟨rh18, h18, h⟩ := bind_some h
    have ch18 := f54_ok F x15 _ h18
    obtain ⟨x18, rfl⟩ : ∃ z, z = rh18 := ⟨_, rfl⟩
    try dsimp only at h
    obtain ⟨rh19, h19, h⟩ := bind_some h
    have ch19 := f38_ok F x18 x16 _ h19
    obtain ⟨x19, x20⟩ := rh19
    try dsimp only at h
    by_cases h20 : (x12 == 0) = true
    · rw [if_pos h20] at h
      by_cases h21 : (x11 == ((List.length x3 : Nat) : Int)) = true
      · rw [if_pos h21] at h
        by_cases h22 : (x14 == 1) = true
        · rw [if_pos h22] at h
          by_cases h23 : (x17 == 0) = true
          · rw [if_pos h23] at h
            by_cases h24 : (x20 == 0) = true
            · rw [if_pos h24] at h
              obtain ⟨rh25, h25, h⟩ := bind_some h
              have ch25 := f31_ok F x19 x15 _ h25
              obtain ⟨x21, rfl⟩ : ∃ z, z = rh25 := ⟨_, rfl⟩
              try dsimp only at h
              by_cases h26 : x21 = true
              · rw [if_pos h26] at h
                obtain ⟨rh27, h27, h⟩ := bind_some h
                have ch27 := f19_ok F _ h27
                obtain ⟨x22, rfl⟩ : ∃ z, z = rh27 := ⟨_, rfl⟩
                try dsimp only at h
                obtain rfl := Option.some.inj h
                exact callOK cxOK cxW Try.func14 (by kernel_rfl) (f14_e0 x1 x2 x3 x11 x12 x13 x14 x15 x16 x17 x18 x19 x20 x21 x22) ⟨(by decide), ch1, ch13, ch14, ch15, ch16, ch17, ch18, ch19, h20, h20, h20, h20, h20, h21, h21, h21, h22, h22, h22, h23, h23, h23, h24, h24, h24, ch25, h24, h26, ch27, h26, trivial⟩
              · rw [if_neg h26] at h
                have h26 := Bool.eq_false_iff.2 h26
                cases h
            · rw [if_neg h24] at h
              have h24 := Bool.eq_false_iff.2 h24
              cases h
          · rw [if_neg h23] at h
            have h23 := Bool.eq_false_iff.2 h23
            cases h
        · rw [if_neg h22] at h
          have h22 := Bool.eq_false_iff.2 h22
          cases h
      · rw [if_neg h21] at h
        have h21 := Bool.eq_false_iff.2 h21
        cases h
    · rw [if_neg h20] at h
      have h20 := Bool.eq_false_iff.2 h20
      cases h

end Go.Gh.Bunch
