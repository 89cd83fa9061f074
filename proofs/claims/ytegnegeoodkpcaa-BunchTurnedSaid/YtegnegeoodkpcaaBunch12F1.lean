/- Bunch12F1: printed by wip/tool/gx.py -/
import Derived.Test.YtegnegeoodkpcaaBunch12F0
namespace Go.Gh.Bunch
set_option linter.unusedVariables false
set_option linter.unusedSimpArgs false
open Go.Proofs

theorem f46_p8_1_ok (F : Nat) (x14 : Int) (x1 : List Int) (x16 : Int) : ∀ (k : Nat) (x20 : Int) (x21 : List Int) (r : (List Int)), f46_p8_1 F x14 x1 x16 k x20 x21 = some r → f46_p8_1_P x14 x1 x16 x20 x21 r
  | 0, _, _, _, h => by cases h
  | k + 1, x20, x21, r, h => by
    unfold f46_p8_1 at h
    by_cases h30 : (decide (x20 < (w64 (Int.tdiv x16 2)))) = true
    · rw [if_pos h30] at h
      obtain ⟨h31, h⟩ := req_some h
      obtain ⟨x22, h32, h⟩ := bind_some h
      try dsimp only at h
      obtain ⟨h33, h⟩ := req_some h
      exact Lp.again (gRun_ok cxOK (f46_p8_1_e0 x1 x14 x16 x20 x21 x22) ⟨h30, h31, ⟨x22, h32, rfl⟩, h31, h33, trivial⟩) (f46_p8_1_ok F x14 x1 x16 k (w64 (x20 + 1)) (List.set x21 (0 + ((Int.toNat (w64 ((w64 (x14 + 1)) + x20))) * 1)) (w64 (x22 + 1))) r h)
    · rw [if_neg h30] at h
      have h30 := Bool.eq_false_iff.2 h30
      obtain rfl := Option.some.inj h
      exact Lp.out (gRun_ok cxOK (f46_p8_1_e1 x1 x14 x16 x20 x21) ⟨h30, trivial⟩) (by intro hh; cases hh)
theorem f46_p4_ok (F : Nat) (x1 : List Int) : ∀ (k : Nat) (x14 : Int) (x15 : List Int) (r : (List Int)), f46_p4 F x1 k x14 x15 = some r → f46_p4_P x1 x14 x15 r
  | 0, _, _, _, h => by cases h
  | k + 1, x14, x15, r, h => by
    unfold f46_p4 at h
    by_cases h21 : (decide (x14 < ((List.length x1 : Nat) : Int))) = true
    · rw [if_pos h21] at h
      obtain ⟨x16, h22, h⟩ := bind_some h
      try dsimp only at h
      obtain ⟨h23, h⟩ := req_some h
      obtain ⟨x17, h24, h⟩ := bind_some h
      try dsimp only at h
      obtain ⟨h25, h⟩ := req_some h
      obtain ⟨rh34, h34, h⟩ := bind_some h
      have ch34 := f46_p8_1_ok F x14 x1 x16 F 0 (List.set x15 (0 + ((Int.toNat x14) * 1)) (w64 (x17 + (w64 ((w64 (Int.tdiv x16 2)) + 1))))) _ h34
      obtain ⟨x23, rfl⟩ : ∃ z, z = rh34 := ⟨_, rfl⟩
      try dsimp only at h
      exact Lp.again (gRun_ok cxOK (f46_p4_e0 x1 x14 x15 x16 x17 x23) ⟨h21, ⟨(at?_spec h22).1, x16, (at?_spec h22).2, rfl⟩, (by decide), h23, ⟨x17, h24, rfl⟩, h23, h25, ch34, trivial⟩) (f46_p4_ok F x1 k (w64 (x14 + 1)) x23 r h)
    · rw [if_neg h21] at h
      have h21 := Bool.eq_false_iff.2 h21
      obtain rfl := Option.some.inj h
      exact Lp.out (gRun_ok cxOK (f46_p4_e1 x1 x14 x15) ⟨h21, trivial⟩) (by intro hh; cases hh)
theorem f46_p15_1_ok (F : Nat) (x27 x24 : List Int) (x28 : Int) (r : (List Int)) (h : f46_p15_1 F x27 x24 x28 = some r) : f46_p15_1_P x27 x24 x28 r := by
  unfold f46_p15_1 at h
  by_cases h43 : (decide (((x24)[(Int.toNat x28)]?.getD 0) > 0)) = true
  · rw [if_pos h43] at h
    obtain ⟨h44, h⟩ := req_some h
    obtain rfl := Option.some.inj h
    exact gRun_ok cxOK (f46_p15_1_e0 x24 x27 x28) ⟨h43, h44, rfl, trivial⟩
  · rw [if_neg h43] at h
    have h43 := Bool.eq_false_iff.2 h43
    obtain rfl := Option.some.inj h
    exact gRun_ok cxOK (f46_p15_1_e1 x24 x27 x28) ⟨h43, trivial⟩
theorem f46_p12_ok (F : Nat) (x24 : List Int) : ∀ (k : Nat) (x28 : Int) (x27 : List Int) (r : (List Int)), f46_p12 F x24 k x28 x27 = some r → f46_p12_P x24 x28 x27 r
  | 0, _, _, _, h => by cases h
  | k + 1, x28, x27, r, h => by
    unfold f46_p12 at h
    by_cases h41 : (decide (x28 < 31)) = true
    · rw [if_pos h41] at h
      obtain ⟨h42, h⟩ := req_some h
      obtain ⟨rh45, h45, h⟩ := bind_some h
      have ch45 := f46_p15_1_ok F x27 x24 x28 _ h45
      obtain ⟨x29, rfl⟩ : ∃ z, z = rh45 := ⟨_, rfl⟩
      try dsimp only at h
      exact Lp.again (gRun_ok cxOK (f46_p12_e0 x24 x27 x28 x29) ⟨h41, h42, ch45, trivial⟩) (f46_p12_ok F x24 k (w64 (x28 + 1)) x29 r h)
    · rw [if_neg h41] at h
      have h41 := Bool.eq_false_iff.2 h41
      obtain rfl := Option.some.inj h
      exact Lp.out (gRun_ok cxOK (f46_p12_e1 x24 x27 x28) ⟨h41, trivial⟩) (by intro hh; cases hh)
theorem f46_ok (F : Nat) (x1 : List Int) (r : (List Int) × Int) (h : f46 F x1 = some r) : f46_C x1 r := by
  unfold f46 at h
  obtain ⟨rh1, h1, h⟩ := bind_some h
  have ch1 := f34_ok F x1 _ h1
  obtain ⟨x2, rfl⟩ : ∃ z, z = rh1 := ⟨_, rfl⟩
  try dsimp only at h
  by_cases h2 : (x2 != 0) = true
  · rw [if_pos h2] at h
    obtain rfl := Option.some.inj h
    exact callOK cxOK cxW Try.func46 (by kernel_rfl) (f46_e0 x1 x2) ⟨ch1, h2, trivial⟩
  · rw [if_neg h2] at h
    have h2 := Bool.eq_false_iff.2 h2
    obtain ⟨rh3, h3, h⟩ := bind_some h
    have ch3 := f68_ok F x1 _ h3
    obtain ⟨x3, rfl⟩ : ∃ z, z = rh3 := ⟨_, rfl⟩
    try dsimp only at h
    by_cases h4 : x3 = true
    · rw [if_pos h4] at h
      obtain ⟨rh5, h5, h⟩ := bind_some h
      have ch5 := f63_1_ok F x1 _ h5
      obtain ⟨x4, rfl⟩ : ∃ z, z = rh5 := ⟨_, rfl⟩
      try dsimp only at h
      by_cases h6 : x4 = true
      · rw [if_pos h6] at h
        obtain rfl := Option.some.inj h
        exact callOK cxOK cxW Try.func46 (by kernel_rfl) (f46_e1 x1 x2 x3 x4) ⟨ch1, h2, ch3, (by rw [h4]; rfl), (by rw [h4]; rfl), ch5, (by rw [h4]; rfl), h6, trivial⟩
      · rw [if_neg h6] at h
        have h6 := Bool.eq_false_iff.2 h6
        obtain ⟨rh35, h35, h⟩ := bind_some h
        have ch35 := f46_p4_ok F x1 F 0 (List.replicate 31 0) _ h35
        obtain ⟨x24, rfl⟩ : ∃ z, z = rh35 := ⟨_, rfl⟩
        try dsimp only at h
        obtain ⟨rh46, h46, h⟩ := bind_some h
        have ch46 := f46_p12_ok F x24 F 0 ([] : List Int) _ h46
        obtain ⟨x30, rfl⟩ : ∃ z, z = rh46 := ⟨_, rfl⟩
        try dsimp only at h
        obtain rfl := Option.some.inj h
        exact callOK cxOK cxW Try.func46 (by kernel_rfl) (f46_e2 x1 x2 x3 x4 x24 x30) ⟨ch1, h2, ch3, (by rw [h4]; rfl), (by rw [h4]; rfl), ch5, (by rw [h4]; rfl), h6, ch35, ch46, (Nat.le_of_eq (Nat.zero_add _)), trivial⟩
    · rw [if_neg h4] at h
      have h4 := Bool.eq_false_iff.2 h4
      obtain rfl := Option.some.inj h
      exact callOK cxOK cxW Try.func46 (by kernel_rfl) (f46_e3 x1 x2 x3) ⟨ch1, h2, ch3, (by rw [h4]; rfl), (by rw [h4]; rfl), (by rw [h4]; rfl), rfl, trivial⟩

theorem f19_ok (F : Nat) (r : Bool) (h : f19 F = some r) : f19_C r := by
  unfold f19 at h
  obtain ⟨rh1, h1, h⟩ := bind_some h
  have ch1 := f52_ok F ([4, 2, 1] : List Int) _ h1
  obtain ⟨x1, rfl⟩ : ∃ z, z = rh1 := ⟨_, rfl⟩
  try dsimp only at h
  obtain ⟨rh2, h2, h⟩ := bind_some h
  have ch2 := f25_ok F x1 _ h2
  obtain ⟨x2, x3⟩ := rh2
  try dsimp only at h
  obtain ⟨rh3, h3, h⟩ := bind_some h
  have ch3 := f15_ok F 5 _ h3
  obtain ⟨x4, x5⟩ := rh3
  try dsimp only at h
  obtain ⟨rh4, h4, h⟩ := bind_some h
  have ch4 := f17_ok F 5 2 _ h4
  obtain ⟨x6, x7⟩ := rh4
  try dsimp only at h
  obtain ⟨rh5, h5, h⟩ := bind_some h
  have ch5 := f20_ok F 10 _ h5
  obtain ⟨x8, x9⟩ := rh5
  try dsimp only at h
  obtain ⟨rh6, h6, h⟩ := bind_some h
  have ch6 := f22_ok F 12 _ h6
  obtain ⟨x10, x11⟩ := rh6
  try dsimp only at h
  obtain ⟨rh7, h7, h⟩ := bind_some h
  have ch7 := f52_ok F ([3, 2] : List Int) _ h7
  obtain ⟨x12, rfl⟩ : ∃ z, z = rh7 := ⟨_, rfl⟩
  try dsimp only at h
  obtain ⟨rh8, h8, h⟩ := bind_some h
  have ch8 := f36_ok F x12 _ h8
  obtain ⟨x13, x14⟩ := rh8
  try dsimp only at h
  obtain ⟨rh9, h9, h⟩ := bind_some h
  have ch9 := f38_ok F 5 2 _ h9
  obtain ⟨x15, x16⟩ := rh9
  try dsimp only at h
  by_cases h10 : (x3 != 0) = true
  · rw [if_pos h10] at h
    cases h
  · rw [if_neg h10] at h
    have h10 := Bool.eq_false_iff.2 h10
    by_cases h11 : (x5 != 0) = true
    · rw [if_pos h11] at h
      cases h
    · rw [if_neg h11] at h
      have h11 := Bool.eq_false_iff.2 h11
      by_cases h12 : (x7 != 0) = true
      · rw [if_pos h12] at h
        cases h
      · rw [if_neg h12] at h
        have h12 := Bool.eq_false_iff.2 h12
        by_cases h13 : (x9 != 0) = true
        · rw [if_pos h13] at h
          cases h
        · rw [if_neg h13] at h
          have h13 := Bool.eq_false_iff.2 h13
          by_cases h14 : (x11 != 0) = true
          · rw [if_pos h14] at h
            cases h
          · rw [if_neg h14] at h
            have h14 := Bool.eq_false_iff.2 h14
            by_cases h15 : (x14 != 0) = true
            · rw [if_pos h15] at h
              cases h
            · rw [if_neg h15] at h
              have h15 := Bool.eq_false_iff.2 h15
              by_cases h16 : (x16 != 0) = true
              · rw [if_pos h16] at h
                cases h
              · rw [if_neg h16] at h
                have h16 := Bool.eq_false_iff.2 h16
                obtain ⟨rh17, h17, h⟩ := bind_some h
                have ch17 := f52_ok F ([3, 3, 3, 1, 1] : List Int) _ h17
                obtain ⟨x17, rfl⟩ : ∃ z, z = rh17 := ⟨_, rfl⟩
                try dsimp only at h
                obtain ⟨rh18, h18, h⟩ := bind_some h
                have ch18 := f27_ok F x17 _ h18
                obtain ⟨x18, x19⟩ := rh18
                try dsimp only at h
                obtain ⟨rh19, h19, h⟩ := bind_some h
                have ch19 := f52_ok F ([6, 3, 2] : List Int) _ h19
                obtain ⟨x20, rfl⟩ : ∃ z, z = rh19 := ⟨_, rfl⟩
                try dsimp only at h
                obtain ⟨rh20, h20, h⟩ := bind_some h
                have ch20 := f29_ok F x20 _ h20
                obtain ⟨x21, x22⟩ := rh20
                try dsimp only at h
                obtain ⟨rh21, h21, h⟩ := bind_some h
                have ch21 := f52_ok F ([5, 2] : List Int) _ h21
                obtain ⟨x23, rfl⟩ : ∃ z, z = rh21 := ⟨_, rfl⟩
                try dsimp only at h
                obtain ⟨rh22, h22, h⟩ := bind_some h
                have ch22 := f32_ok F x23 _ h22
                obtain ⟨x24, x25⟩ := rh22
                try dsimp only at h
                obtain ⟨rh23, h23, h⟩ := bind_some h
                have ch23 := f52_ok F ([5, 4, 4, 1] : List Int) _ h23
                obtain ⟨x26, rfl⟩ : ∃ z, z = rh23 := ⟨_, rfl⟩
                try dsimp only at h
                obtain ⟨rh24, h24, h⟩ := bind_some h
                have ch24 := f40_ok F x26 _ h24
                obtain ⟨x27, x28, x29, x30⟩ := rh24
                try dsimp only at h
                obtain ⟨rh25, h25, h⟩ := bind_some h
                have ch25 := f52_ok F ([2, 1, 1] : List Int) _ h25
                obtain ⟨x31, rfl⟩ : ∃ z, z = rh25 := ⟨_, rfl⟩
                try dsimp only at h
                obtain ⟨rh26, h26, h⟩ := bind_some h
                have ch26 := f52_ok F ([1] : List Int) _ h26
                obtain ⟨x32, rfl⟩ : ∃ z, z = rh26 := ⟨_, rfl⟩
                try dsimp only at h
                obtain ⟨rh27, h27, h⟩ := bind_some h
                have ch27 := f42_ok F 3 x31 x32 _ h27
                obtain ⟨x33, x34⟩ := rh27
                try dsimp only at h
                obtain ⟨rh28, h28, h⟩ := bind_some h
                have ch28 := f52_ok F ([4, 3, 3, 1] : List Int) _ h28
                obtain ⟨x35, rfl⟩ : ∃ z, z = rh28 := ⟨_, rfl⟩
                try dsimp only at h
                obtain ⟨rh29, h29, h⟩ := bind_some h
                have ch29 := f44_ok F x35 _ h29
                obtain ⟨x36, x37⟩ := rh29
                try dsimp only at h
                obtain ⟨rh30, h30, h⟩ := bind_some h
                have ch30 := f52_ok F ([7, 3, 1] : List Int) _ h30
                obtain ⟨x38, rfl⟩ : ∃ z, z = rh30 := ⟨_, rfl⟩
                try dsimp only at h
                obtain ⟨rh31, h31, h⟩ := bind_some h
                have ch31 := f46_ok F x38 _ h31
                obtain ⟨x39, x40⟩ := rh31
                try dsimp only at h
                obtain ⟨rh32, h32, h⟩ := bind_some h
                have ch32 := f52_ok F ([4, 3] : List Int) _ h32
                obtain ⟨x41, rfl⟩ : ∃ z, z = rh32 := ⟨_, rfl⟩
                try dsimp only at h
                obtain ⟨rh33, h33, h⟩ := bind_some h
                have ch33 := f32_ok F x41 _ h33
                obtain ⟨x42, x43⟩ := rh33
                try dsimp only at h
                obtain ⟨rh34, h34, h⟩ := bind_some h
                have ch34 := f52_ok F ([2] : List Int) _ h34
                obtain ⟨x44, rfl⟩ : ∃ z, z = rh34 := ⟨_, rfl⟩
                try dsimp only at h
                obtain ⟨rh35, h35, h⟩ := bind_some h
                have ch35 := f27_ok F x44 _ h35
                obtain ⟨x45, x46⟩ := rh35
                try dsimp only at h
                by_cases h36 : (x19 == 0) = true
                · rw [if_pos h36] at h
                  by_cases h37 : (x22 == 0) = true
                  · rw [if_pos h37] at h
                    by_cases h38 : (x25 == 0) = true
                    · rw [if_pos h38] at h
                      by_cases h39 : (x30 == 0) = true
                      · rw [if_pos h39] at h
                        by_cases h40 : (x34 == 0) = true
                        · rw [if_pos h40] at h
                          by_cases h41 : (x37 == 0) = true
                          · rw [if_pos h41] at h
                            by_cases h42 : (x40 == 0) = true
                            · rw [if_pos h42] at h
                              by_cases h43 : (x43 == 12) = true
                              · rw [if_pos h43] at h
                                by_cases h44 : (x46 == 14) = true
                                · rw [if_pos h44] at h
                                  obtain ⟨rh45, h45, h⟩ := bind_some h
                                  have ch45 := f52_ok F ([3, 2, 1, 1] : List Int) _ h45
                                  obtain ⟨x47, rfl⟩ : ∃ z, z = rh45 := ⟨_, rfl⟩
                                  try dsimp only at h
                                  obtain ⟨rh46, h46, h⟩ := bind_some h
                                  have ch46 := f31_ok F x2 x47 _ h46
                                  obtain ⟨x48, rfl⟩ : ∃ z, z = rh46 := ⟨_, rfl⟩
                                  try dsimp only at h
                                  by_cases h47 : x48 = true
                                  · rw [if_pos h47] at h
                                    by_cases h48 : (x4 == 7) = true
                                    · rw [if_pos h48] at h
                                      by_cases h49 : (x6 == 3) = true
                                      · rw [if_pos h49] at h
                                        by_cases h50 : (x8 == 10) = true
                                        · rw [if_pos h50] at h
                                          by_cases h51 : (x10 == (-1)) = true
                                          · rw [if_pos h51] at h
                                            by_cases h52 : (x13 == 4) = true
                                            · rw [if_pos h52] at h
                                              obtain ⟨rh53, h53, h⟩ := bind_some h
                                              have ch53 := f52_ok F ([2, 2, 1] : List Int) _ h53
                                              obtain ⟨x49, rfl⟩ : ∃ z, z = rh53 := ⟨_, rfl⟩
                                              try dsimp only at h
                                              obtain ⟨rh54, h54, h⟩ := bind_some h
                                              have ch54 := f31_ok F x15 x49 _ h54
                                              obtain ⟨x50, rfl⟩ : ∃ z, z = rh54 := ⟨_, rfl⟩
                                              try dsimp only at h
                                              by_cases h55 : x50 = true
                                              · rw [if_pos h55] at h
                                                obtain ⟨rh56, h56, h⟩ := bind_some h
                                                have ch56 := f52_ok F ([6, 3, 2] : List Int) _ h56
                                                obtain ⟨x51, rfl⟩ : ∃ z, z = rh56 := ⟨_, rfl⟩
                                                try dsimp only at h
                                                obtain ⟨rh57, h57, h⟩ := bind_some h
                                                have ch57 := f31_ok F x18 x51 _ h57
                                                obtain ⟨x52, rfl⟩ : ∃ z, z = rh57 := ⟨_, rfl⟩
                                                try dsimp only at h
                                                by_cases h58 : x52 = true
                                                · rw [if_pos h58] at h
                                                  obtain ⟨rh59, h59, h⟩ := bind_some h
                                                  have ch59 := f52_ok F ([3, 3, 3, 1, 1] : List Int) _ h59
                                                  obtain ⟨x53, rfl⟩ : ∃ z, z = rh59 := ⟨_, rfl⟩
                                                  try dsimp only at h
                                                  obtain ⟨rh60, h60, h⟩ := bind_some h
                                                  have ch60 := f31_ok F x21 x53 _ h60
                                                  obtain ⟨x54, rfl⟩ : ∃ z, z = rh60 := ⟨_, rfl⟩
                                                  try dsimp only at h
                                                  by_cases h61 : x54 = true
                                                  · rw [if_pos h61] at h
                                                    obtain ⟨rh62, h62, h⟩ := bind_some h
                                                    have ch62 := f52_ok F ([4, 2, 1] : List Int) _ h62
                                                    obtain ⟨x55, rfl⟩ : ∃ z, z = rh62 := ⟨_, rfl⟩
                                                    try dsimp only at h
                                                    obtain ⟨rh63, h63, h⟩ := bind_some h
                                                    have ch63 := f31_ok F x24 x55 _ h63
                                                    obtain ⟨x56, rfl⟩ : ∃ z, z = rh63 := ⟨_, rfl⟩
                                                    try dsimp only at h
                                                    by_cases h64 : x56 = true
                                                    · rw [if_pos h64] at h
                                                      by_cases h65 : (x27 == 3) = true
                                                      · rw [if_pos h65] at h
                                                        obtain ⟨rh66, h66, h⟩ := bind_some h
                                                        have ch66 := f52_ok F ([2, 1, 1] : List Int) _ h66
                                                        obtain ⟨x57, rfl⟩ : ∃ z, z = rh66 := ⟨_, rfl⟩
                                                        try dsimp only at h
                                                        obtain ⟨rh67, h67, h⟩ := bind_some h
                                                        have ch67 := f31_ok F x28 x57 _ h67
                                                        obtain ⟨x58, rfl⟩ : ∃ z, z = rh67 := ⟨_, rfl⟩
                                                        try dsimp only at h
                                                        by_cases h68 : x58 = true
                                                        · rw [if_pos h68] at h
                                                          obtain ⟨rh69, h69, h⟩ := bind_some h
                                                          have ch69 := f52_ok F ([1] : List Int) _ h69
                                                          obtain ⟨x59, rfl⟩ : ∃ z, z = rh69 := ⟨_, rfl⟩
                                                          try dsimp only at h
                                                          obtain ⟨rh70, h70, h⟩ := bind_some h
                                                          have ch70 := f31_ok F x29 x59 _ h70
                                                          obtain ⟨x60, rfl⟩ : ∃ z, z = rh70 := ⟨_, rfl⟩
                                                          try dsimp only at h
                                                          by_cases h71 : x60 = true
                                                          · rw [if_pos h71] at h
                                                            obtain ⟨rh72, h72, h⟩ := bind_some h
                                                            have ch72 := f52_ok F ([5, 4, 4, 1] : List Int) _ h72
                                                            obtain ⟨x61, rfl⟩ : ∃ z, z = rh72 := ⟨_, rfl⟩
                                                            try dsimp only at h
                                                            obtain ⟨rh73, h73, h⟩ := bind_some h
                                                            have ch73 := f31_ok F x33 x61 _ h73
                                                            obtain ⟨x62, rfl⟩ : ∃ z, z = rh73 := ⟨_, rfl⟩
                                                            try dsimp only at h
                                                            by_cases h74 : x62 = true
                                                            · rw [if_pos h74] at h
                                                              obtain ⟨rh75, h75, h⟩ := bind_some h
                                                              have ch75 := f52_ok F ([7, 3, 1] : List Int) _ h75
                                                              obtain ⟨x63, rfl⟩ : ∃ z, z = rh75 := ⟨_, rfl⟩
                                                              try dsimp only at h
                                                              obtain ⟨rh76, h76, h⟩ := bind_some h
                                                              have ch76 := f31_ok F x36 x63 _ h76
                                                              obtain ⟨x64, rfl⟩ : ∃ z, z = rh76 := ⟨_, rfl⟩
                                                              try dsimp only at h
                                                              by_cases h77 : x64 = true
                                                              · rw [if_pos h77] at h
                                                                obtain ⟨rh78, h78, h⟩ := bind_some h
                                                                have ch78 := f52_ok F ([4, 3, 3, 1] : List Int) _ h78
                                                                obtain ⟨x65, rfl⟩ : ∃ z, z = rh78 := ⟨_, rfl⟩
                                                                try dsimp only at h
                                                                obtain ⟨rh79, h79, h⟩ := bind_some h
                                                                have ch79 := f31_ok F x39 x65 _ h79
                                                                obtain ⟨x66, rfl⟩ : ∃ z, z = rh79 := ⟨_, rfl⟩
                                                                try dsimp only at h
                                                                obtain rfl := Option.some.inj h
                                                                exact callOK cxOK cxW Try.func19 (by kernel_rfl) (f19_e0 x1 x2 x3 x4 x5 x6 x7 x8 x9 x10 x11 x12 x13 x14 x15 x16 x17 x18 x19 x20 x21 x22 x23 x24 x25 x26 x27 x28 x29 x30 x31 x32 x33 x34 x35 x36 x37 x38 x39 x40 x41 x42 x43 x44 x45 x46 x47 x48 x49 x50 x51 x52 x53 x54 x55 x56 x57 x58 x59 x60 x61 x62 x63 x64 x65 x66) ⟨ch1, ch2, ch3, ch4, ch5, ch6, ch7, ch8, ch9, h10, h10, h10, h11, h11, h11, h12, h12, h12, h13, h13, h13, h14, h14, h14, h15, h15, h15, h16, ch17, ch18, ch19, ch20, ch21, ch22, ch23, ch24, ch25, ch26, ch27, ch28, ch29, ch30, ch31, ch32, ch33, ch34, ch35, h36, h36, h36, h37, h37, h37, h38, h38, h38, h39, h39, h39, h40, h40, h40, h41, h41, h41, h42, h42, h42, h43, h43, h43, h44, h44, h44, ch45, h44, ch46, h44, h47, h47, h47, h48, h48, h48, h49, h49, h49, h50, h50, h50, h51, h51, h51, h52, h52, h52, ch53, h52, ch54, h52, h55, h55, h55, ch56, h55, ch57, h55, h58, h58, h58, ch59, h58, ch60, h58, h61, h61, h61, ch62, h61, ch63, h61, h64, h64, h64, h65, h65, h65, ch66, h65, ch67, h65, h68, h68, h68, ch69, h68, ch70, h68, h71, h71, h71, ch72, h71, ch73, h71, h74, h74, h74, ch75, h74, ch76, h74, h77, h77, h77, ch78, h77, ch79, h77, trivial⟩
                                                              · rw [if_neg h77] at h
                                                                have h77 := Bool.eq_false_iff.2 h77
                                                                cases h
                                                            · rw [if_neg h74] at h
                                                              have h74 := Bool.eq_false_iff.2 h74
                                                              cases h
                                                          · rw [if_neg h71] at h
                                                            have h71 := Bool.eq_false_iff.2 h71
                                                            cases h
                                                        · rw [if_neg h68] at h
                                                          have h68 := Bool.eq_false_iff.2 h68
                                                          cases h
                                                      · rw [if_neg h65] at h
                                                        have h65 := Bool.eq_false_iff.2 h65
                                                        cases h
                                                    · rw [if_neg h64] at h
                                                      have h64 := Bool.eq_false_iff.2 h64
                                                      cases h
                                                  · rw [if_neg h61] at h
                                                    have h61 := Bool.eq_false_iff.2 h61
                                                    cases h
                                                · rw [if_neg h58] at h
                                                  have h58 := Bool.eq_false_iff.2 h58
                                                  cases h
                                              · rw [if_neg h55] at h
                                                have h55 := Bool.eq_false_iff.2 h55
                                                cases h
                                            · rw [if_neg h52] at h
                                              have h52 := Bool.eq_false_iff.2 h52
                                              cases h
                                          · rw [if_neg h51] at h
                                            have h51 := Bool.eq_false_iff.2 h51
                                            cases h
                                        · rw [if_neg h50] at h
                                          have h50 := Bool.eq_false_iff.2 h50
                                          cases h
                                      · rw [if_neg h49] at h
                                        have h49 := Bool.eq_false_iff.2 h49
                                        cases h
                                    · rw [if_neg h48] at h
                                      have h48 := Bool.eq_false_iff.2 h48
                                      cases h
                                  · rw [if_neg h47] at h
                                    have h47 := Bool.eq_false_iff.2 h47
                                    cases h
                                · rw [if_neg h44] at h
                                  have h44 := Bool.eq_false_iff.2 h44
                                  cases h
                              · rw [if_neg h43] at h
                                have h43 := Bool.eq_false_iff.2 h43
                                cases h
                            · rw [if_neg h42] at h
                              have h42 := Bool.eq_false_iff.2 h42
                              cases h
                          · rw [if_neg h41] at h
                            have h41 := Bool.eq_false_iff.2 h41
                            cases h
                        · rw [if_neg h40] at h
                          have h40 := Bool.eq_false_iff.2 h40
                          cases h
                      · rw [if_neg h39] at h
                        have h39 := Bool.eq_false_iff.2 h39
                        cases h
                    · rw [if_neg h38] at h
                      have h38 := Bool.eq_false_iff.2 h38
                      cases h
                  · rw [if_neg h37] at h
                    have h37 := Bool.eq_false_iff.2 h37
                    cases h
                · rw [if_neg h36] at h
                  have h36 := Bool.eq_false_iff.2 h36
                  cases h

theorem f12_p9_ok (F : Nat) (x2 x3 : Int) (x4 x5 : List Int) (x9 x10 : Int) (x11 x12 x13 : Int) (r : Int) (h : f12_p9 F x2 x3 x4 x5 x9 x10 x11 x12 x13 = some r) : f12_p9_P x2 x3 x4 x5 x9 x10 x11 x12 x13 r := by
  unfold f12_p9 at h
  by_cases h11 : (decide (x13 > x9)) = true
  · rw [if_pos h11] at h
    obtain rfl := Option.some.inj h
    exact gRun_ok cxOK (f12_p9_e0 x2 x3 x4 x5 x9 x10 x11 x12 x13) ⟨h11, trivial⟩
  · rw [if_neg h11] at h
    have h11 := Bool.eq_false_iff.2 h11
    obtain rfl := Option.some.inj h
    exact gRun_ok cxOK (f12_p9_e1 x2 x3 x4 x5 x9 x10 x11 x12 x13) ⟨h11, trivial⟩
theorem f12_p6_ok (F : Nat) (x2 x3 : Int) (x4 x5 : List Int) (x9 x10 : Int) : ∀ (k : Nat) (x11 x12 : Int) (r : Int), f12_p6 F x2 x3 x4 x5 x9 x10 k x11 x12 = some r → f12_p6_P x2 x3 x4 x5 x9 x10 x11 x12 r
  | 0, _, _, _, h => by cases h
  | k + 1, x11, x12, r, h => by
    unfold f12_p6 at h
    by_cases h9 : (decide (x12 < ((List.length x4 : Nat) : Int))) = true
    · rw [if_pos h9] at h
      obtain ⟨x13, h10, h⟩ := bind_some h
      try dsimp only at h
      obtain ⟨rh12, h12, h⟩ := bind_some h
      have ch12 := f12_p9_ok F x2 x3 x4 x5 x9 x10 x11 x12 x13 _ h12
      obtain ⟨x14, rfl⟩ : ∃ z, z = rh12 := ⟨_, rfl⟩
      try dsimp only at h
      exact Lp.again (gRun_ok cxOK (f12_p6_e0 x2 x3 x4 x5 x9 x10 x11 x12 x13 x14) ⟨h9, ⟨(at?_spec h10).1, x13, (at?_spec h10).2, rfl⟩, ch12, trivial⟩) (f12_p6_ok F x2 x3 x4 x5 x9 x10 k x14 (w64 (x12 + 1)) r h)
    · rw [if_neg h9] at h
      have h9 := Bool.eq_false_iff.2 h9
      obtain rfl := Option.some.inj h
      exact Lp.out (gRun_ok cxOK (f12_p6_e1 x2 x3 x4 x5 x9 x10 x11 x12) ⟨h9, trivial⟩) (by intro hh; cases hh)
theorem f12_p2_ok (F : Nat) (x2 x3 : Int) (x4 x5 : List Int) : ∀ (k : Nat) (x9 : Int) (r : f12_p2_R), f12_p2 F x2 x3 x4 x5 k x9 = some r → f12_p2_P x2 x3 x4 x5 x9 r
  | 0, _, _, h => by cases h
  | k + 1, x9, r, h => by
    unfold f12_p2 at h
    by_cases h7 : (decide (x9 < ((List.length x5 : Nat) : Int))) = true
    · rw [if_pos h7] at h
      obtain ⟨x10, h8, h⟩ := bind_some h
      try dsimp only at h
      obtain ⟨rh13, h13, h⟩ := bind_some h
      have ch13 := f12_p6_ok F x2 x3 x4 x5 x9 x10 F 0 0 _ h13
      obtain ⟨x15, rfl⟩ : ∃ z, z = rh13 := ⟨_, rfl⟩
      try dsimp only at h
      by_cases h14 : (x10 != x15) = true
      · rw [if_pos h14] at h
        obtain rfl := Option.some.inj h
        exact Lp.out (gRun_ok cxOK (f12_p2_e0 x2 x3 x4 x5 x9 x10 x15) ⟨h7, ⟨(at?_spec h8).1, x10, (at?_spec h8).2, rfl⟩, ch13, h14, trivial⟩) (by intro hh; cases hh)
      · rw [if_neg h14] at h
        have h14 := Bool.eq_false_iff.2 h14
        exact Lp.again (gRun_ok cxOK (f12_p2_e1 x2 x3 x4 x5 x9 x10 x15) ⟨h7, ⟨(at?_spec h8).1, x10, (at?_spec h8).2, rfl⟩, ch13, h14, trivial⟩) (f12_p2_ok F x2 x3 x4 x5 k (w64 (x9 + 1)) r h)
    · rw [if_neg h7] at h
      have h7 := Bool.eq_false_iff.2 h7
      obtain rfl := Option.some.inj h
      exact Lp.out (gRun_ok cxOK (f12_p2_e2 x2 x3 x4 x5 x9) ⟨h7, trivial⟩) (by intro hh; cases hh)
theorem f12_p17_ok (F : Nat) (x2 x3 x22 : Int) (x21 : List (List Int)) (x23 : Int) (x24 : (List Int)) (r : Int) (h : f12_p17 F x2 x3 x22 x21 x23 x24 = some r) : f12_p17_P x2 x3 x22 x21 x23 x24 r := by
  unfold f12_p17 at h
  by_cases h28 : (decide (((List.length x24 : Nat) : Int) ≤ (Int.tmod (w64 (x3)) 20))) = true
  · rw [if_pos h28] at h
    obtain rfl := Option.some.inj h
    exact gRun_ok cxOK (f12_p17_e0 x2 x3 x21 x22 x23 x24) ⟨h28, trivial⟩
  · rw [if_neg h28] at h
    have h28 := Bool.eq_false_iff.2 h28
    obtain rfl := Option.some.inj h
    exact gRun_ok cxOK (f12_p17_e1 x2 x3 x21 x22 x23 x24) ⟨h28, trivial⟩
theorem f12_p14_ok (F : Nat) (x2 x3 : Int) (x21 : List (List Int)) : ∀ (k : Nat) (x22 x23 : Int) (r : Int), f12_p14 F x2 x3 x21 k x22 x23 = some r → f12_p14_P x2 x3 x21 x22 x23 r
  | 0, _, _, _, h => by cases h
  | k + 1, x22, x23, r, h => by
    unfold f12_p14 at h
    by_cases h26 : (decide (x23 < ((List.length x21 : Nat) : Int))) = true
    · rw [if_pos h26] at h
      obtain ⟨x24, h27, h⟩ := bind_some h
      try dsimp only at h
      obtain ⟨rh29, h29, h⟩ := bind_some h
      have ch29 := f12_p17_ok F x2 x3 x22 x21 x23 x24 _ h29
      obtain ⟨x25, rfl⟩ : ∃ z, z = rh29 := ⟨_, rfl⟩
      try dsimp only at h
      exact Lp.again (gRun_ok cxOK (f12_p14_e0 x2 x3 x21 x22 x23 x24 x25) ⟨h26, ⟨(at?_spec h27).1, x24, (at?_spec h27).2, rfl⟩, ch29, trivial⟩) (f12_p14_ok F x2 x3 x21 k x25 (w64 (x23 + 1)) r h)
    · rw [if_neg h26] at h
      have h26 := Bool.eq_false_iff.2 h26
      obtain rfl := Option.some.inj h
      exact Lp.out (gRun_ok cxOK (f12_p14_e1 x2 x3 x21 x22 x23) ⟨h26, trivial⟩) (by intro hh; cases hh)
theorem f12_p17_1_ok (F : Nat) (x2 x3 x34 : Int) (x33 : List (List Int)) (x35 : Int) (x36 : (List Int)) (r : Int) (h : f12_p17_1 F x2 x3 x34 x33 x35 x36 = some r) : f12_p17_1_P x2 x3 x34 x33 x35 x36 r := by
  unfold f12_p17_1 at h
  by_cases h42 : (decide (((List.length x36 : Nat) : Int) ≤ (Int.tmod (w64 (x3)) 20))) = true
  · rw [if_pos h42] at h
    obtain rfl := Option.some.inj h
    exact gRun_ok cxOK (f12_p17_1_e0 x2 x3 x33 x34 x35 x36) ⟨h42, trivial⟩
  · rw [if_neg h42] at h
    have h42 := Bool.eq_false_iff.2 h42
    obtain rfl := Option.some.inj h
    exact gRun_ok cxOK (f12_p17_1_e1 x2 x3 x33 x34 x35 x36) ⟨h42, trivial⟩
theorem f12_p14_1_ok (F : Nat) (x2 x3 : Int) (x33 : List (List Int)) : ∀ (k : Nat) (x34 x35 : Int) (r : Int), f12_p14_1 F x2 x3 x33 k x34 x35 = some r → f12_p14_1_P x2 x3 x33 x34 x35 r
  | 0, _, _, _, h => by cases h
  | k + 1, x34, x35, r, h => by
    unfold f12_p14_1 at h
    by_cases h40 : (decide (x35 < ((List.length x33 : Nat) : Int))) = true
    · rw [if_pos h40] at h
      obtain ⟨x36, h41, h⟩ := bind_some h
      try dsimp only at h
      obtain ⟨rh43, h43, h⟩ := bind_some h
      have ch43 := f12_p17_1_ok F x2 x3 x34 x33 x35 x36 _ h43
      obtain ⟨x37, rfl⟩ : ∃ z, z = rh43 := ⟨_, rfl⟩
      try dsimp only at h
      exact Lp.again (gRun_ok cxOK (f12_p14_1_e0 x2 x3 x33 x34 x35 x36 x37) ⟨h40, ⟨(at?_spec h41).1, x36, (at?_spec h41).2, rfl⟩, ch43, trivial⟩) (f12_p14_1_ok F x2 x3 x33 k x37 (w64 (x35 + 1)) r h)
    · rw [if_neg h40] at h
      have h40 := Bool.eq_false_iff.2 h40
      obtain rfl := Option.some.inj h
      exact Lp.out (gRun_ok cxOK (f12_p14_1_e1 x2 x3 x33 x34 x35) ⟨h40, trivial⟩) (by intro hh; cases hh)
theorem f12_ok (F : Nat) (x1 : List Int) (x2 x3 : Int) (r : Bool) (h : f12 F x1 x2 x3 = some r) : f12_C x1 x2 x3 r := by
  unfold f12 at h
  obtain ⟨rh1, h1, h⟩ := bind_some h
  have ch1 := f53_ok F x1 30 _ h1
  obtain ⟨x4, rfl⟩ : ∃ z, z = rh1 := ⟨_, rfl⟩
  try dsimp only at h
  obtain ⟨rh2, h2, h⟩ := bind_some h
  have ch2 := f25_ok F x4 _ h2
  obtain ⟨x5, x6⟩ := rh2
  try dsimp only at h
  by_cases h3 : (x6 != 0) = true
  · rw [if_pos h3] at h
    cases h
  · rw [if_neg h3] at h
    have h3 := Bool.eq_false_iff.2 h3
    obtain ⟨rh4, h4, h⟩ := bind_some h
    have ch4 := f54_ok F x4 _ h4
    obtain ⟨x7, rfl⟩ : ∃ z, z = rh4 := ⟨_, rfl⟩
    try dsimp only at h
    obtain ⟨rh5, h5, h⟩ := bind_some h
    have ch5 := f50_ok F x5 x7 _ h5
    obtain ⟨x8, rfl⟩ : ∃ z, z = rh5 := ⟨_, rfl⟩
    try dsimp only at h
    by_cases h6 : x8 = true
    · rw [if_pos h6] at h
      obtain ⟨rh15, h15, h⟩ := bind_some h
      have ch15 := f12_p2_ok F x2 x3 x4 x5 F 0 _ h15
      cases rh15 with
      | c0 =>
        try dsimp only at h
        cases h
      | c1 =>
        try dsimp only at h
        by_cases h16 : (decide (((List.length x4 : Nat) : Int) > 0)) = true
        · rw [if_pos h16] at h
          obtain ⟨x16, h17, h⟩ := bind_some h
          try dsimp only at h
          by_cases h18 : (((List.length x5 : Nat) : Int) != x16) = true
          · rw [if_pos h18] at h
            cases h
          · rw [if_neg h18] at h
            have h18 := Bool.eq_false_iff.2 h18
            obtain ⟨x17, h19, h⟩ := bind_some h
            try dsimp only at h
            by_cases h20 : (x17 != ((List.length x4 : Nat) : Int)) = true
            · rw [if_pos h20] at h
              cases h
            · rw [if_neg h20] at h
              have h20 := Bool.eq_false_iff.2 h20
              obtain ⟨rh21, h21, h⟩ := bind_some h
              have ch21 := f25_ok F x5 _ h21
              obtain ⟨x18, x19⟩ := rh21
              try dsimp only at h
              by_cases h22 : (x19 != 0) = true
              · rw [if_pos h22] at h
                cases h
              · rw [if_neg h22] at h
                have h22 := Bool.eq_false_iff.2 h22
                obtain ⟨rh23, h23, h⟩ := bind_some h
                have ch23 := f31_ok F x18 x4 _ h23
                obtain ⟨x20, rfl⟩ : ∃ z, z = rh23 := ⟨_, rfl⟩
                try dsimp only at h
                by_cases h24 : x20 = true
                · rw [if_pos h24] at h
                  obtain ⟨rh25, h25, h⟩ := bind_some h
                  have ch25 := f48_ok F (Int.tmod (w64 (x2)) 19) _ h25
                  obtain ⟨x21, rfl⟩ : ∃ z, z = rh25 := ⟨_, rfl⟩
                  try dsimp only at h
                  obtain ⟨rh30, h30, h⟩ := bind_some h
                  have ch30 := f12_p14_ok F x2 x3 x21 F 0 0 _ h30
                  obtain ⟨x26, rfl⟩ : ∃ z, z = rh30 := ⟨_, rfl⟩
                  try dsimp only at h
                  obtain ⟨rh31, h31, h⟩ := bind_some h
                  have ch31 := f17_ok F (Int.tmod (w64 (x2)) 19) (Int.tmod (w64 (x3)) 20) _ h31
                  obtain ⟨x27, x28⟩ := rh31
                  try dsimp only at h
                  by_cases h32 : (x28 == 0) = true
                  · rw [if_pos h32] at h
                    by_cases h33 : (x27 == x26) = true
                    · rw [if_pos h33] at h
                      obtain ⟨rh34, h34, h⟩ := bind_some h
                      have ch34 := f19_ok F _ h34
                      obtain ⟨x29, rfl⟩ : ∃ z, z = rh34 := ⟨_, rfl⟩
                      try dsimp only at h
                      obtain rfl := Option.some.inj h
                      exact callOK cxOK cxW Try.func12 (by kernel_rfl) (f12_e0 x1 x2 x3 x4 x5 x6 x7 x8 x16 x17 x18 x19 x20 x21 x26 x27 x28 x29) ⟨ch1, ch2, h3, h3, h3, ch4, h3, ch5, h3, h3, (by rw [h6]; rfl), ch15, h16, h16, h16, h16, ⟨(at?_spec h17).1, x16, (at?_spec h17).2, rfl⟩, h16, h16, h16, h18, h18, ⟨(at?_spec h19).1, x17, (at?_spec h19).2, rfl⟩, h18, h18, h18, h18, h16, h18, h16, h20, ch21, h22, h22, h22, ch23, h22, h22, (by rw [h24]; rfl), (by decide), (by decide), ch25, ch30, ch31, h32, h32, h32, h32, h33, ch34, h33, trivial⟩
                    · rw [if_neg h33] at h
                      have h33 := Bool.eq_false_iff.2 h33
                      cases h
                  · rw [if_neg h32] at h
                    have h32 := Bool.eq_false_iff.2 h32
                    cases h
                · rw [if_neg h24] at h
                  have h24 := Bool.eq_false_iff.2 h24
                  cases h
        · rw [if_neg h16] at h
          have h16 := Bool.eq_false_iff.2 h16
          obtain ⟨rh35, h35, h⟩ := bind_some h
          have ch35 := f25_ok F x5 _ h35
          obtain ⟨x30, x31⟩ := rh35
          try dsimp only at h
          by_cases h36 : (x31 != 0) = true
          · rw [if_pos h36] at h
            cases h
          · rw [if_neg h36] at h
            have h36 := Bool.eq_false_iff.2 h36
            obtain ⟨rh37, h37, h⟩ := bind_some h
            have ch37 := f31_ok F x30 x4 _ h37
            obtain ⟨x32, rfl⟩ : ∃ z, z = rh37 := ⟨_, rfl⟩
            try dsimp only at h
            by_cases h38 : x32 = true
            · rw [if_pos h38] at h
              obtain ⟨rh39, h39, h⟩ := bind_some h
              have ch39 := f48_ok F (Int.tmod (w64 (x2)) 19) _ h39
              obtain ⟨x33, rfl⟩ : ∃ z, z = rh39 := ⟨_, rfl⟩
              try dsimp only at h
              obtain ⟨rh44, h44, h⟩ := bind_some h
              have ch44 := f12_p14_1_ok F x2 x3 x33 F 0 0 _ h44
              obtain ⟨x38, rfl⟩ : ∃ z, z = rh44 := ⟨_, rfl⟩
              try dsimp only at h
              obtain ⟨rh45, h45, h⟩ := bind_some h
              have ch45 := f17_ok F (Int.tmod (w64 (x2)) 19) (Int.tmod (w64 (x3)) 20) _ h45
              obtain ⟨x39, x40⟩ := rh45
              try dsimp only at h
              by_cases h46 : (x40 == 0) = true
              · rw [if_pos h46] at h
                by_cases h47 : (x39 == x38) = true
                · rw [if_pos h47] at h
                  obtain ⟨rh48, h48, h⟩ := bind_some h
                  have ch48 := f19_ok F _ h48
                  obtain ⟨x41, rfl⟩ : ∃ z, z = rh48 := ⟨_, rfl⟩
                  try dsimp only at h
                  obtain rfl := Option.some.inj h
                  exact callOK cxOK cxW Try.func12 (by kernel_rfl) (f12_e1 x1 x2 x3 x4 x5 x6 x7 x8 x30 x31 x32 x33 x38 x39 x40 x41) ⟨ch1, ch2, h3, h3, h3, ch4, h3, ch5, h3, h3, (by rw [h6]; rfl), ch15, h16, h16, h16, h16, h16, h16, h16, h16, h16, rfl, ch35, h36, h36, h36, ch37, h36, h36, (by rw [h38]; rfl), (by decide), (by decide), ch39, ch44, ch45, h46, h46, h46, h46, h47, ch48, h47, trivial⟩
                · rw [if_neg h47] at h
                  have h47 := Bool.eq_false_iff.2 h47
                  cases h
              · rw [if_neg h46] at h
                have h46 := Bool.eq_false_iff.2 h46
                cases h
            · rw [if_neg h38] at h
              have h38 := Bool.eq_false_iff.2 h38
              cases h
    · rw [if_neg h6] at h
      have h6 := Bool.eq_false_iff.2 h6
      cases h

end Go.Gh.Bunch
