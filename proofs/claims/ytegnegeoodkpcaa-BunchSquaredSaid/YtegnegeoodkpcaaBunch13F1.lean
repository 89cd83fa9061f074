/- Bunch13F1: printed by wip/tool/gx.py -/
import Derived.Test.YtegnegeoodkpcaaBunch13F0
namespace Go.Gh.Bunch
set_option linter.unusedVariables false
set_option linter.unusedSimpArgs false
open Go.Proofs

theorem f19_ok (F : Nat) (r : Bool) (h : f19 F = some r) : f19_C r := by
  unfold f19 at h
  obtain ⟨x1, h1, h⟩ := bind_some h
  have ch1 := f52_ok F ([4, 2, 1] : List Int) _ h1
  try dsimp only at h
  obtain ⟨rh2, h2, h⟩ := bind_some h
  have ch2 := f25_ok F x1 _ h2
  obtain ⟨x2, x3⟩ := rh2
  try dsimp only at h
  obtain ⟨rh3, h3, h⟩ := bind_some h
  have ch3 := f15_ok F 5 _ h3
  obtain ⟨x4, x5⟩ := rh3
  try dsimp only at h
  obtain ⟨rh4, h4, h⟩ := bind_some h
  have ch4 := f17_ok F 5 2 _ h4
  obtain ⟨x6, x7⟩ := rh4
  try dsimp only at h
  obtain ⟨rh5, h5, h⟩ := bind_some h
  have ch5 := f20_ok F 10 _ h5
  obtain ⟨x8, x9⟩ := rh5
  try dsimp only at h
  obtain ⟨rh6, h6, h⟩ := bind_some h
  have ch6 := f22_ok F 12 _ h6
  obtain ⟨x10, x11⟩ := rh6
  try dsimp only at h
  obtain ⟨x12, h7, h⟩ := bind_some h
  have ch7 := f52_ok F ([3, 2] : List Int) _ h7
  try dsimp only at h
  obtain ⟨rh8, h8, h⟩ := bind_some h
  have ch8 := f36_ok F x12 _ h8
  obtain ⟨x13, x14⟩ := rh8
  try dsimp only at h
  obtain ⟨rh9, h9, h⟩ := bind_some h
  have ch9 := f38_ok F 5 2 _ h9
  obtain ⟨x15, x16⟩ := rh9
  try dsimp only at h
  by_cases h10 : (x3 != 0) = true
  · rw [if_pos h10] at h
    cases h
  · rw [if_neg h10] at h
    have h10 := Bool.eq_false_iff.2 h10
    by_cases h11 : (x5 != 0) = true
    · rw [if_pos h11] at h
      cases h
    · rw [if_neg h11] at h
      have h11 := Bool.eq_false_iff.2 h11
      by_cases h12 : (x7 != 0) = true
      · rw [if_pos h12] at h
        cases h
      · rw [if_neg h12] at h
        have h12 := Bool.eq_false_iff.2 h12
        by_cases h13 : (x9 != 0) = true
        · rw [if_pos h13] at h
          cases h
        · rw [if_neg h13] at h
          have h13 := Bool.eq_false_iff.2 h13
          by_cases h14 : (x11 != 0) = true
          · rw [if_pos h14] at h
            cases h
          · rw [if_neg h14] at h
            have h14 := Bool.eq_false_iff.2 h14
            by_cases h15 : (x14 != 0) = true
            · rw [if_pos h15] at h
              cases h
            · rw [if_neg h15] at h
              have h15 := Bool.eq_false_iff.2 h15
              by_cases h16 : (x16 != 0) = true
              · rw [if_pos h16] at h
                cases h
              · rw [if_neg h16] at h
                have h16 := Bool.eq_false_iff.2 h16
                obtain ⟨x17, h17, h⟩ := bind_some h
                have ch17 := f52_ok F ([3, 3, 3, 1, 1] : List Int) _ h17
                try dsimp only at h
                obtain ⟨rh18, h18, h⟩ := bind_some h
                have ch18 := f27_ok F x17 _ h18
                obtain ⟨x18, x19⟩ := rh18
                try dsimp only at h
                obtain ⟨x20, h19, h⟩ := bind_some h
                have ch19 := f52_ok F ([6, 3, 2] : List Int) _ h19
                try dsimp only at h
                obtain ⟨rh20, h20, h⟩ := bind_some h
                have ch20 := f29_ok F x20 _ h20
                obtain ⟨x21, x22⟩ := rh20
                try dsimp only at h
                obtain ⟨x23, h21, h⟩ := bind_some h
                have ch21 := f52_ok F ([5, 2] : List Int) _ h21
                try dsimp only at h
                obtain ⟨rh22, h22, h⟩ := bind_some h
                have ch22 := f32_ok F x23 _ h22
                obtain ⟨x24, x25⟩ := rh22
                try dsimp only at h
                obtain ⟨x26, h23, h⟩ := bind_some h
                have ch23 := f52_ok F ([5, 4, 4, 1] : List Int) _ h23
                try dsimp only at h
                obtain ⟨rh24, h24, h⟩ := bind_some h
                have ch24 := f40_ok F x26 _ h24
                obtain ⟨x27, x28, x29, x30⟩ := rh24
                try dsimp only at h
                obtain ⟨x31, h25, h⟩ := bind_some h
                have ch25 := f52_ok F ([2, 1, 1] : List Int) _ h25
                try dsimp only at h
                obtain ⟨x32, h26, h⟩ := bind_some h
                have ch26 := f52_ok F ([1] : List Int) _ h26
                try dsimp only at h
                obtain ⟨rh27, h27, h⟩ := bind_some h
                have ch27 := f42_ok F 3 x31 x32 _ h27
                obtain ⟨x33, x34⟩ := rh27
                try dsimp only at h
                obtain ⟨x35, h28, h⟩ := bind_some h
                have ch28 := f52_ok F ([4, 3, 3, 1] : List Int) _ h28
                try dsimp only at h
                obtain ⟨rh29, h29, h⟩ := bind_some h
                have ch29 := f44_ok F x35 _ h29
                obtain ⟨x36, x37⟩ := rh29
                try dsimp only at h
                obtain ⟨x38, h30, h⟩ := bind_some h
                have ch30 := f52_ok F ([7, 3, 1] : List Int) _ h30
                try dsimp only at h
                obtain ⟨rh31, h31, h⟩ := bind_some h
                have ch31 := f46_ok F x38 _ h31
                obtain ⟨x39, x40⟩ := rh31
                try dsimp only at h
                obtain ⟨x41, h32, h⟩ := bind_some h
                have ch32 := f52_ok F ([4, 3] : List Int) _ h32
                try dsimp only at h
                obtain ⟨rh33, h33, h⟩ := bind_some h
                have ch33 := f32_ok F x41 _ h33
                obtain ⟨x42, x43⟩ := rh33
                try dsimp only at h
                obtain ⟨x44, h34, h⟩ := bind_some h
                have ch34 := f52_ok F ([2] : List Int) _ h34
                try dsimp only at h
                obtain ⟨rh35, h35, h⟩ := bind_some h
                have ch35 := f27_ok F x44 _ h35
                obtain ⟨x45, x46⟩ := rh35
                try dsimp only at h
                by_cases h36 : (x19 == 0) = true
                · rw [if_pos h36] at h
                  by_cases h37 : (x22 == 0) = true
                  · rw [if_pos h37] at h
                    by_cases h38 : (x25 == 0) = true
                    · rw [if_pos h38] at h
                      by_cases h39 : (x30 == 0) = true
                      · rw [if_pos h39] at h
                        by_cases h40 : (x34 == 0) = true
                        · rw [if_pos h40] at h
                          by_cases h41 : (x37 == 0) = true
                          · rw [if_pos h41] at h
                            by_cases h42 : (x40 == 0) = true
                            · rw [if_pos h42] at h
                              by_cases h43 : (x43 == 12) = true
                              · rw [if_pos h43] at h
                                by_cases h44 : (x46 == 14) = true
                                · rw [if_pos h44] at h
                                  obtain ⟨x47, h45, h⟩ := bind_some h
                                  have ch45 := f52_ok F ([3, 2, 1, 1] : List Int) _ h45
                                  try dsimp only at h
                                  obtain ⟨x48, h46, h⟩ := bind_some h
                                  have ch46 := f31_ok F x2 x47 _ h46
                                  try dsimp only at h
                                  by_cases h47 : x48 = true
                                  · rw [if_pos h47] at h
                                    by_cases h48 : (x4 == 7) = true
                                    · rw [if_pos h48] at h
                                      by_cases h49 : (x6 == 3) = true
                                      · rw [if_pos h49] at h
                                        by_cases h50 : (x8 == 10) = true
                                        · rw [if_pos h50] at h
                                          by_cases h51 : (x10 == (-1)) = true
                                          · rw [if_pos h51] at h
                                            by_cases h52 : (x13 == 4) = true
                                            · rw [if_pos h52] at h
                                              obtain ⟨x49, h53, h⟩ := bind_some h
                                              have ch53 := f52_ok F ([2, 2, 1] : List Int) _ h53
                                              try dsimp only at h
                                              obtain ⟨x50, h54, h⟩ := bind_some h
                                              have ch54 := f31_ok F x15 x49 _ h54
                                              try dsimp only at h
                                              by_cases h55 : x50 = true
                                              · rw [if_pos h55] at h
                                                obtain ⟨x51, h56, h⟩ := bind_some h
                                                have ch56 := f52_ok F ([6, 3, 2] : List Int) _ h56
                                                try dsimp only at h
                                                obtain ⟨x52, h57, h⟩ := bind_some h
                                                have ch57 := f31_ok F x18 x51 _ h57
                                                try dsimp only at h
                                                by_cases h58 : x52 = true
                                                · rw [if_pos h58] at h
                                                  obtain ⟨x53, h59, h⟩ := bind_some h
                                                  have ch59 := f52_ok F ([3, 3, 3, 1, 1] : List Int) _ h59
                                                  try dsimp only at h
                                                  obtain ⟨x54, h60, h⟩ := bind_some h
                                                  have ch60 := f31_ok F x21 x53 _ h60
                                                  try dsimp only at h
                                                  by_cases h61 : x54 = true
                                                  · rw [if_pos h61] at h
                                                    obtain ⟨x55, h62, h⟩ := bind_some h
                                                    have ch62 := f52_ok F ([4, 2, 1] : List Int) _ h62
                                                    try dsimp only at h
                                                    obtain ⟨x56, h63, h⟩ := bind_some h
                                                    have ch63 := f31_ok F x24 x55 _ h63
                                                    try dsimp only at h
                                                    by_cases h64 : x56 = true
                                                    · rw [if_pos h64] at h
                                                      by_cases h65 : (x27 == 3) = true
                                                      · rw [if_pos h65] at h
                                                        obtain ⟨x57, h66, h⟩ := bind_some h
                                                        have ch66 := f52_ok F ([2, 1, 1] : List Int) _ h66
                                                        try dsimp only at h
                                                        obtain ⟨x58, h67, h⟩ := bind_some h
                                                        have ch67 := f31_ok F x28 x57 _ h67
                                                        try dsimp only at h
                                                        by_cases h68 : x58 = true
                                                        · rw [if_pos h68] at h
                                                          obtain ⟨x59, h69, h⟩ := bind_some h
                                                          have ch69 := f52_ok F ([1] : List Int) _ h69
                                                          try dsimp only at h
                                                          obtain ⟨x60, h70, h⟩ := bind_some h
                                                          have ch70 := f31_ok F x29 x59 _ h70
                                                          try dsimp only at h
                                                          by_cases h71 : x60 = true
                                                          · rw [if_pos h71] at h
                                                            obtain ⟨x61, h72, h⟩ := bind_some h
                                                            have ch72 := f52_ok F ([5, 4, 4, 1] : List Int) _ h72
                                                            try dsimp only at h
                                                            obtain ⟨x62, h73, h⟩ := bind_some h
                                                            have ch73 := f31_ok F x33 x61 _ h73
                                                            try dsimp only at h
                                                            by_cases h74 : x62 = true
                                                            · rw [if_pos h74] at h
                                                              obtain ⟨x63, h75, h⟩ := bind_some h
                                                              have ch75 := f52_ok F ([7, 3, 1] : List Int) _ h75
                                                              try dsimp only at h
                                                              obtain ⟨x64, h76, h⟩ := bind_some h
                                                              have ch76 := f31_ok F x36 x63 _ h76
                                                              try dsimp only at h
                                                              by_cases h77 : x64 = true
                                                              · rw [if_pos h77] at h
                                                                obtain ⟨x65, h78, h⟩ := bind_some h
                                                                have ch78 := f52_ok F ([4, 3, 3, 1] : List Int) _ h78
                                                                try dsimp only at h
                                                                obtain ⟨x66, h79, h⟩ := bind_some h
                                                                have ch79 := f31_ok F x39 x65 _ h79
                                                                try dsimp only at h
                                                                obtain rfl := Option.some.inj h
                                                                exact callOK cxOK cxW Try.func19 (by kernel_rfl) (f19_e0 x1 x2 x3 x4 x5 x6 x7 x8 x9 x10 x11 x12 x13 x14 x15 x16 x17 x18 x19 x20 x21 x22 x23 x24 x25 x26 x27 x28 x29 x30 x31 x32 x33 x34 x35 x36 x37 x38 x39 x40 x41 x42 x43 x44 x45 x46 x47 x48 x49 x50 x51 x52 x53 x54 x55 x56 x57 x58 x59 x60 x61 x62 x63 x64 x65 x66) ⟨ch1, ch2, ch3, ch4, ch5, ch6, ch7, ch8, ch9, h10, h10, h10, h11, h11, h11, h12, h12, h12, h13, h13, h13, h14, h14, h14, h15, h15, h15, h16, ch17, ch18, ch19, ch20, ch21, ch22, ch23, ch24, ch25, ch26, ch27, ch28, ch29, ch30, ch31, ch32, ch33, ch34, ch35, h36, h36, h36, h37, h37, h37, h38, h38, h38, h39, h39, h39, h40, h40, h40, h41, h41, h41, h42, h42, h42, h43, h43, h43, h44, h44, h44, ch45, h44, ch46, h44, h47, h47, h47, h48, h48, h48, h49, h49, h49, h50, h50, h50, h51, h51, h51, h52, h52, h52, ch53, h52, ch54, h52, h55, h55, h55, ch56, h55, ch57, h55, h58, h58, h58, ch59, h58, ch60, h58, h61, h61, h61, ch62, h61, ch63, h61, h64, h64, h64, h65, h65, h65, ch66, h65, ch67, h65, h68, h68, h68, ch69, h68, ch70, h68, h71, h71, h71, ch72, h71, ch73, h71, h74, h74, h74, ch75, h74, ch76, h74, h77, h77, h77, ch78, h77, ch79, h77, trivial⟩
                                                              · rw [if_neg h77] at h
                                                                have h77 := Bool.eq_false_iff.2 h77
                                                                cases h
                                                            · rw [if_neg h74] at h
                                                              have h74 := Bool.eq_false_iff.2 h74
                                                              cases h
                                                          · rw [if_neg h71] at h
                                                            have h71 := Bool.eq_false_iff.2 h71
                                                            cases h
                                                        · rw [if_neg h68] at h
                                                          have h68 := Bool.eq_false_iff.2 h68
                                                          cases h
                                                      · rw [if_neg h65] at h
                                                        have h65 := Bool.eq_false_iff.2 h65
                                                        cases h
                                                    · rw [if_neg h64] at h
                                                      have h64 := Bool.eq_false_iff.2 h64
                                                      cases h
                                                  · rw [if_neg h61] at h
                                                    have h61 := Bool.eq_false_iff.2 h61
                                                    cases h
                                                · rw [if_neg h58] at h
                                                  have h58 := Bool.eq_false_iff.2 h58
                                                  cases h
                                              · rw [if_neg h55] at h
                                                have h55 := Bool.eq_false_iff.2 h55
                                                cases h
                                            · rw [if_neg h52] at h
                                              have h52 := Bool.eq_false_iff.2 h52
                                              cases h
                                          · rw [if_neg h51] at h
                                            have h51 := Bool.eq_false_iff.2 h51
                                            cases h
                                        · rw [if_neg h50] at h
                                          have h50 := Bool.eq_false_iff.2 h50
                                          cases h
                                      · rw [if_neg h49] at h
                                        have h49 := Bool.eq_false_iff.2 h49
                                        cases h
                                    · rw [if_neg h48] at h
                                      have h48 := Bool.eq_false_iff.2 h48
                                      cases h
                                  · rw [if_neg h47] at h
                                    have h47 := Bool.eq_false_iff.2 h47
                                    cases h
                                · rw [if_neg h44] at h
                                  have h44 := Bool.eq_false_iff.2 h44
                                  cases h
                              · rw [if_neg h43] at h
                                have h43 := Bool.eq_false_iff.2 h43
                                cases h
                            · rw [if_neg h42] at h
                              have h42 := Bool.eq_false_iff.2 h42
                              cases h
                          · rw [if_neg h41] at h
                            have h41 := Bool.eq_false_iff.2 h41
                            cases h
                        · rw [if_neg h40] at h
                          have h40 := Bool.eq_false_iff.2 h40
                          cases h
                      · rw [if_neg h39] at h
                        have h39 := Bool.eq_false_iff.2 h39
                        cases h
                    · rw [if_neg h38] at h
                      have h38 := Bool.eq_false_iff.2 h38
                      cases h
                  · rw [if_neg h37] at h
                    have h37 := Bool.eq_false_iff.2 h37
                    cases h
                · rw [if_neg h36] at h
                  have h36 := Bool.eq_false_iff.2 h36
                  cases h

theorem f13_r3_ok (F : Nat) (x2 : Int) (x3 x4 x5 : List Int) (x6 : Int) (x7 x8 : List Int) (x9 : Int) (r : Bool) (h : f13_r3 F x2 x3 x4 x5 x6 x7 x8 x9 = some r) : f13_r3_P x2 x3 x4 x5 x6 x7 x8 x9 r := by
  unfold f13_r3 at h
  by_cases h3 : (x9 != 0) = true
  · rw [if_pos h3] at h
    obtain rfl := Option.some.inj h
    exact gRun_ok cxOK (f13_r3_e0 x2 x3 x4 x5 x6 x7 x8 x9) ⟨h3, h3, h3, rfl, rfl, rfl, rfl, rfl, rfl, rfl, rfl, rfl, rfl, rfl, rfl, rfl, rfl, rfl, rfl, rfl, rfl, rfl, rfl, rfl, rfl, rfl, rfl, rfl, rfl, rfl, rfl, rfl, trivial⟩
  · rw [if_neg h3] at h
    have h3 := Bool.eq_false_iff.2 h3
    by_cases h4 : (decide (x6 < 0)) = true
    · rw [if_pos h4] at h
      obtain rfl := Option.some.inj h
      exact gRun_ok cxOK (f13_r3_e1 x2 x3 x4 x5 x6 x7 x8 x9) ⟨h3, h3, h3, h4, h4, h4, h4, h4, rfl, rfl, rfl, rfl, rfl, rfl, rfl, rfl, rfl, rfl, rfl, rfl, rfl, rfl, rfl, rfl, rfl, rfl, rfl, rfl, rfl, rfl, rfl, rfl, trivial⟩
    · rw [if_neg h4] at h
      have h4 := Bool.eq_false_iff.2 h4
      by_cases h5 : (decide (x6 > ((List.length x5 : Nat) : Int))) = true
      · rw [if_pos h5] at h
        obtain rfl := Option.some.inj h
        exact gRun_ok cxOK (f13_r3_e2 x2 x3 x4 x5 x6 x7 x8 x9) ⟨h3, h3, h3, h4, h4, h4, h4, h4, h5, h5, h5, h5, h5, rfl, rfl, rfl, rfl, rfl, rfl, rfl, rfl, rfl, rfl, rfl, rfl, rfl, rfl, rfl, rfl, rfl, rfl, rfl, trivial⟩
      · rw [if_neg h5] at h
        have h5 := Bool.eq_false_iff.2 h5
        by_cases h6 : (decide (((List.length x7 : Nat) : Int) > x6)) = true
        · rw [if_pos h6] at h
          obtain rfl := Option.some.inj h
          exact gRun_ok cxOK (f13_r3_e3 x2 x3 x4 x5 x6 x7 x8 x9) ⟨h3, h3, h3, h4, h4, h4, h4, h4, h5, h5, h5, h5, h5, h6, h6, h6, h6, h6, rfl, rfl, rfl, rfl, rfl, rfl, rfl, rfl, rfl, rfl, rfl, rfl, rfl, rfl, trivial⟩
        · rw [if_neg h6] at h
          have h6 := Bool.eq_false_iff.2 h6
          by_cases h7 : (decide (x6 > 0)) = true
          · rw [if_pos h7] at h
            obtain ⟨x10, h8, h⟩ := bind_some h
            try dsimp only at h
            by_cases h9 : (decide (x10 < x6)) = true
            · rw [if_pos h9] at h
              obtain rfl := Option.some.inj h
              exact gRun_ok cxOK (f13_r3_e4 x2 x3 x4 x5 x6 x7 x8 x9 x10) ⟨h3, h3, h3, h4, h4, h4, h4, h4, h5, h5, h5, h5, h5, h6, h6, h6, h7, h7, h7, h7, ⟨(at?_spec h8).1, x10, (at?_spec h8).2, rfl⟩, h7, h7, h7, h6, h7, h6, h9, h9, h9, h9, h9, h9, h9, rfl, rfl, rfl, rfl, rfl, rfl, rfl, trivial⟩
            · rw [if_neg h9] at h
              have h9 := Bool.eq_false_iff.2 h9
              by_cases h10 : (decide (x6 < ((List.length x5 : Nat) : Int))) = true
              · rw [if_pos h10] at h
                obtain ⟨x11, h11, h⟩ := bind_some h
                try dsimp only at h
                by_cases h12 : (decide (x11 > x6)) = true
                · rw [if_pos h12] at h
                  obtain rfl := Option.some.inj h
                  exact gRun_ok cxOK (f13_r3_e5 x2 x3 x4 x5 x6 x7 x8 x9 x10 x11) ⟨h3, h3, h3, h4, h4, h4, h4, h4, h5, h5, h5, h5, h5, h6, h6, h6, h7, h7, h7, h7, ⟨(at?_spec h8).1, x10, (at?_spec h8).2, rfl⟩, h7, h7, h7, h6, h7, h6, h9, h9, h9, h9, h9, h10, h10, h10, ⟨(at?_spec h11).1, x11, (at?_spec h11).2, rfl⟩, h10, h10, h10, h9, h10, h9, h12, h12, h12, h12, h12, h12, h12, trivial⟩
                · rw [if_neg h12] at h
                  have h12 := Bool.eq_false_iff.2 h12
                  obtain ⟨h13, h⟩ := req_some h
                  obtain ⟨x12, h14, h⟩ := bind_some h
                  have ch14 := f31_ok F x8 (List.drop (Int.toNat x6) (List.take (List.length x5) x5)) _ h14
                  try dsimp only at h
                  obtain rfl := Option.some.inj h
                  exact gRun_ok cxOK (f13_r3_e6 x2 x3 x4 x5 x6 x7 x8 x9 x10 x11 x12) ⟨h3, h3, h3, h4, h4, h4, h4, h4, h5, h5, h5, h5, h5, h6, h6, h6, h7, h7, h7, h7, ⟨(at?_spec h8).1, x10, (at?_spec h8).2, rfl⟩, h7, h7, h7, h6, h7, h6, h9, h9, h9, h9, h9, h10, h10, h10, ⟨(at?_spec h11).1, x11, (at?_spec h11).2, rfl⟩, h10, h10, h10, h9, h10, h9, h12, h12, h12, h12, h13, h12, ch14, h12, h12, trivial⟩
              · rw [if_neg h10] at h
                have h10 := Bool.eq_false_iff.2 h10
                obtain ⟨h15, h⟩ := req_some h
                obtain ⟨x13, h16, h⟩ := bind_some h
                have ch16 := f31_ok F x8 (List.drop (Int.toNat x6) (List.take (List.length x5) x5)) _ h16
                try dsimp only at h
                obtain rfl := Option.some.inj h
                exact gRun_ok cxOK (f13_r3_e7 x2 x3 x4 x5 x6 x7 x8 x9 x10 x13) ⟨h3, h3, h3, h4, h4, h4, h4, h4, h5, h5, h5, h5, h5, h6, h6, h6, h7, h7, h7, h7, ⟨(at?_spec h8).1, x10, (at?_spec h8).2, rfl⟩, h7, h7, h7, h6, h7, h6, h9, h9, h9, h9, h9, h10, h10, h10, h10, h10, h10, h9, h10, h9, rfl, rfl, rfl, rfl, h15, rfl, ch16, rfl, rfl, trivial⟩
          · rw [if_neg h7] at h
            have h7 := Bool.eq_false_iff.2 h7
            by_cases h17 : (decide (x6 < ((List.length x5 : Nat) : Int))) = true
            · rw [if_pos h17] at h
              obtain ⟨x14, h18, h⟩ := bind_some h
              try dsimp only at h
              by_cases h19 : (decide (x14 > x6)) = true
              · rw [if_pos h19] at h
                obtain rfl := Option.some.inj h
                exact gRun_ok cxOK (f13_r3_e8 x2 x3 x4 x5 x6 x7 x8 x9 x14) ⟨h3, h3, h3, h4, h4, h4, h4, h4, h5, h5, h5, h5, h5, h6, h6, h6, h7, h7, h7, h7, h7, h7, h7, h6, h7, h6, rfl, rfl, rfl, rfl, rfl, h17, h17, h17, ⟨(at?_spec h18).1, x14, (at?_spec h18).2, rfl⟩, h17, h17, h17, rfl, h17, rfl, h19, h19, h19, h19, h19, h19, h19, trivial⟩
              · rw [if_neg h19] at h
                have h19 := Bool.eq_false_iff.2 h19
                obtain ⟨h20, h⟩ := req_some h
                obtain ⟨x15, h21, h⟩ := bind_some h
                have ch21 := f31_ok F x8 (List.drop (Int.toNat x6) (List.take (List.length x5) x5)) _ h21
                try dsimp only at h
                obtain rfl := Option.some.inj h
                exact gRun_ok cxOK (f13_r3_e9 x2 x3 x4 x5 x6 x7 x8 x9 x14 x15) ⟨h3, h3, h3, h4, h4, h4, h4, h4, h5, h5, h5, h5, h5, h6, h6, h6, h7, h7, h7, h7, h7, h7, h7, h6, h7, h6, rfl, rfl, rfl, rfl, rfl, h17, h17, h17, ⟨(at?_spec h18).1, x14, (at?_spec h18).2, rfl⟩, h17, h17, h17, rfl, h17, rfl, h19, h19, h19, h19, h20, h19, ch21, h19, h19, trivial⟩
            · rw [if_neg h17] at h
              have h17 := Bool.eq_false_iff.2 h17
              obtain ⟨h22, h⟩ := req_some h
              obtain ⟨x16, h23, h⟩ := bind_some h
              have ch23 := f31_ok F x8 (List.drop (Int.toNat x6) (List.take (List.length x5) x5)) _ h23
              try dsimp only at h
              obtain rfl := Option.some.inj h
              exact gRun_ok cxOK (f13_r3_e10 x2 x3 x4 x5 x6 x7 x8 x9 x16) ⟨h3, h3, h3, h4, h4, h4, h4, h4, h5, h5, h5, h5, h5, h6, h6, h6, h7, h7, h7, h7, h7, h7, h7, h6, h7, h6, rfl, rfl, rfl, rfl, rfl, h17, h17, h17, h17, h17, h17, rfl, h17, rfl, rfl, rfl, rfl, rfl, h22, rfl, ch23, rfl, rfl, trivial⟩
theorem f13_p5_ok (F : Nat) (x2 : Int) (x3 x4 x5 : List Int) (x6 : Int) (x7 x8 : List Int) (x18 : Int) (r : Int) (h : f13_p5 F x2 x3 x4 x5 x6 x7 x8 x18 = some r) : f13_p5_P x2 x3 x4 x5 x6 x7 x8 x18 r := by
  unfold f13_p5 at h
  by_cases h27 : (decide (x18 < ((List.length x7 : Nat) : Int))) = true
  · rw [if_pos h27] at h
    obtain ⟨x19, h28, h⟩ := bind_some h
    try dsimp only at h
    obtain rfl := Option.some.inj h
    exact gRun_ok cxOK (f13_p5_e0 x2 x3 x4 x5 x6 x7 x8 x18 x19) ⟨h27, ⟨(at?_spec h28).1, x19, (at?_spec h28).2, rfl⟩, trivial⟩
  · rw [if_neg h27] at h
    have h27 := Bool.eq_false_iff.2 h27
    obtain rfl := Option.some.inj h
    exact gRun_ok cxOK (f13_p5_e1 x2 x3 x4 x5 x6 x7 x8 x18) ⟨h27, trivial⟩
theorem f13_p2_ok (F : Nat) (x2 : Int) (x3 x4 x5 : List Int) (x6 : Int) (x7 x8 : List Int) : ∀ (k : Nat) (x18 : Int) (r : f13_p2_R), f13_p2 F x2 x3 x4 x5 x6 x7 x8 k x18 = some r → f13_p2_P x2 x3 x4 x5 x6 x7 x8 x18 r
  | 0, _, _, h => by cases h
  | k + 1, x18, r, h => by
    unfold f13_p2 at h
    by_cases h26 : (decide (x18 < x6)) = true
    · rw [if_pos h26] at h
      obtain ⟨x20, h29, h⟩ := bind_some h
      have ch29 := f13_p5_ok F x2 x3 x4 x5 x6 x7 x8 x18 _ h29
      try dsimp only at h
      obtain ⟨x21, h30, h⟩ := bind_some h
      try dsimp only at h
      by_cases h31 : (x21 != (w64 (x6 + x20))) = true
      · rw [if_pos h31] at h
        obtain rfl := Option.some.inj h
        exact Lp.out (gRun_ok cxOK (f13_p2_e0 x2 x3 x4 x5 x6 x7 x8 x18 x20 x21) ⟨h26, ch29, ⟨(at?_spec h30).1, x21, (at?_spec h30).2, rfl⟩, h31, h31, h31, h31, h31, h31, h31, rfl, trivial⟩) (by intro hh; cases hh)
      · rw [if_neg h31] at h
        have h31 := Bool.eq_false_iff.2 h31
        by_cases h32 : (decide (x18 < ((List.length x7 : Nat) : Int))) = true
        · rw [if_pos h32] at h
          by_cases h33 : (decide (x20 < 1)) = true
          · rw [if_pos h33] at h
            obtain rfl := Option.some.inj h
            exact Lp.out (gRun_ok cxOK (f13_p2_e1 x2 x3 x4 x5 x6 x7 x8 x18 x20 x21) ⟨h26, ch29, ⟨(at?_spec h30).1, x21, (at?_spec h30).2, rfl⟩, h31, h31, h31, h31, h31, h32, h32, h31, h32, h31, h33, trivial⟩) (by intro hh; cases hh)
          · rw [if_neg h33] at h
            have h33 := Bool.eq_false_iff.2 h33
            exact Lp.again (gRun_ok cxOK (f13_p2_e2 x2 x3 x4 x5 x6 x7 x8 x18 x20 x21) ⟨h26, ch29, ⟨(at?_spec h30).1, x21, (at?_spec h30).2, rfl⟩, h31, h31, h31, h31, h31, h32, h32, h31, h32, h31, h33, trivial⟩) (f13_p2_ok F x2 x3 x4 x5 x6 x7 x8 k (w64 (x18 + 1)) r h)
        · rw [if_neg h32] at h
          have h32 := Bool.eq_false_iff.2 h32
          exact Lp.again (gRun_ok cxOK (f13_p2_e3 x2 x3 x4 x5 x6 x7 x8 x18 x20 x21) ⟨h26, ch29, ⟨(at?_spec h30).1, x21, (at?_spec h30).2, rfl⟩, h31, h31, h31, h31, h31, h32, h32, h31, h32, h31, rfl, trivial⟩) (f13_p2_ok F x2 x3 x4 x5 x6 x7 x8 k (w64 (x18 + 1)) r h)
    · rw [if_neg h26] at h
      have h26 := Bool.eq_false_iff.2 h26
      obtain rfl := Option.some.inj h
      exact Lp.out (gRun_ok cxOK (f13_p2_e4 x2 x3 x4 x5 x6 x7 x8 x18) ⟨h26, trivial⟩) (by intro hh; cases hh)
theorem f13_r27_ok (F : Nat) (x2 : Int) (x37 x38 x39 : List Int) (x40 : Int) (r : Bool) (h : f13_r27 F x2 x37 x38 x39 x40 = some r) : f13_r27_P x2 x37 x38 x39 x40 r := by
  unfold f13_r27 at h
  by_cases h55 : (decide (((List.length x37 : Nat) : Int) > (Int.tmod (w64 (x2)) 6))) = true
  · rw [if_pos h55] at h
    obtain rfl := Option.some.inj h
    exact gRun_ok cxOK (f13_r27_e0 x2 x37 x38 x39 x40) ⟨h55, h55, h55, h55, h55, h55, trivial⟩
  · rw [if_neg h55] at h
    have h55 := Bool.eq_false_iff.2 h55
    by_cases h56 : (decide (((List.length x38 : Nat) : Int) > 0)) = true
    · rw [if_pos h56] at h
      obtain ⟨x41, h57, h⟩ := bind_some h
      try dsimp only at h
      obtain rfl := Option.some.inj h
      exact gRun_ok cxOK (f13_r27_e1 x2 x37 x38 x39 x40 x41) ⟨h55, h55, h55, h55, h56, h56, ⟨(at?_spec h57).1, x41, (at?_spec h57).2, rfl⟩, h56, h56, h56, h55, h56, h55, trivial⟩
    · rw [if_neg h56] at h
      have h56 := Bool.eq_false_iff.2 h56
      obtain rfl := Option.some.inj h
      exact gRun_ok cxOK (f13_r27_e2 x2 x37 x38 x39 x40) ⟨h55, h55, h55, h55, h56, h56, h56, h56, h56, h55, h56, h55, trivial⟩
theorem f13_p10_ok (F : Nat) (x2 : Int) (x37 x38 x39 : List Int) (x40 x43 x44 : Int) (r : Int) (h : f13_p10 F x2 x37 x38 x39 x40 x43 x44 = some r) : f13_p10_P x2 x37 x38 x39 x40 x43 x44 r := by
  unfold f13_p10 at h
  by_cases h62 : (decide ((w64 ((w64 ((w64 ((Int.tmod (w64 (x2)) 6) * (Int.tmod (w64 (x2)) 6))) + x43)) + x44)) > 30)) = true
  · rw [if_pos h62] at h
    obtain rfl := Option.some.inj h
    exact gRun_ok cxOK (f13_p10_e0 x2 x37 x38 x39 x40 x43 x44) ⟨h62, trivial⟩
  · rw [if_neg h62] at h
    have h62 := Bool.eq_false_iff.2 h62
    obtain rfl := Option.some.inj h
    exact gRun_ok cxOK (f13_p10_e1 x2 x37 x38 x39 x40 x43 x44) ⟨h62, trivial⟩
theorem f13_p9_ok (F : Nat) (x2 : Int) (x37 x38 x39 : List Int) (x40 : Int) (x42 : Bool) (r : Int) (h : f13_p9 F x2 x37 x38 x39 x40 x42 = some r) : f13_p9_P x2 x37 x38 x39 x40 x42 r := by
  unfold f13_p9 at h
  by_cases h59 : x42 = true
  · rw [if_pos h59] at h
    obtain rfl := Option.some.inj h
    exact gRun_ok cxOK (f13_p9_e0 x2 x37 x38 x39 x40 x42) ⟨h59, trivial⟩
  · rw [if_neg h59] at h
    have h59 := Bool.eq_false_iff.2 h59
    obtain ⟨x43, h60, h⟩ := bind_some h
    have ch60 := f54_ok F x37 _ h60
    try dsimp only at h
    obtain ⟨x44, h61, h⟩ := bind_some h
    have ch61 := f54_ok F x38 _ h61
    try dsimp only at h
    obtain ⟨x45, h63, h⟩ := bind_some h
    have ch63 := f13_p10_ok F x2 x37 x38 x39 x40 x43 x44 _ h63
    try dsimp only at h
    obtain rfl := Option.some.inj h
    exact gRun_ok cxOK (f13_p9_e1 x2 x37 x38 x39 x40 x42 x43 x44 x45) ⟨h59, ch60, ch61, ch63, trivial⟩
theorem f13_ok (F : Nat) (x1 : List Int) (x2 : Int) (x3 x4 : List Int) (r : Bool) (h : f13 F x1 x2 x3 x4 = some r) : f13_C x1 x2 x3 x4 r := by
  unfold f13 at h
  obtain ⟨x5, h1, h⟩ := bind_some h
  have ch1 := f53_ok F x1 30 _ h1
  try dsimp only at h
  obtain ⟨rh2, h2, h⟩ := bind_some h
  have ch2 := f40_ok F x5 _ h2
  obtain ⟨x6, x7, x8, x9⟩ := rh2
  try dsimp only at h
  obtain ⟨x17, h24, h⟩ := bind_some h
  have ch24 := f13_r3_ok F x2 x3 x4 x5 x6 x7 x8 x9 _ h24
  try dsimp only at h
  by_cases h25 : x17 = true
  · rw [if_pos h25] at h
    cases h
  · rw [if_neg h25] at h
    have h25 := Bool.eq_false_iff.2 h25
    obtain ⟨rh34, h34, h⟩ := bind_some h
    have ch34 := f13_p2_ok F x2 x3 x4 x5 x6 x7 x8 F 0 _ h34
    cases rh34 with
    | c0 =>
      try dsimp only at h
      cases h
    | c1 =>
      try dsimp only at h
      obtain ⟨rh35, h35, h⟩ := bind_some h
      have ch35 := f42_ok F x6 x7 x8 _ h35
      obtain ⟨x22, x23⟩ := rh35
      try dsimp only at h
      obtain ⟨rh36, h36, h⟩ := bind_some h
      have ch36 := f25_ok F x5 _ h36
      obtain ⟨x24, x25⟩ := rh36
      try dsimp only at h
      by_cases h37 : (x23 != 0) = true
      · rw [if_pos h37] at h
        cases h
      · rw [if_neg h37] at h
        have h37 := Bool.eq_false_iff.2 h37
        obtain ⟨x26, h38, h⟩ := bind_some h
        have ch38 := f31_ok F x22 x5 _ h38
        try dsimp only at h
        by_cases h39 : x26 = true
        · rw [if_pos h39] at h
          by_cases h40 : (x25 != 0) = true
          · rw [if_pos h40] at h
            cases h
          · rw [if_neg h40] at h
            have h40 := Bool.eq_false_iff.2 h40
            obtain ⟨rh41, h41, h⟩ := bind_some h
            have ch41 := f40_ok F x24 _ h41
            obtain ⟨x27, x28, x29, x30⟩ := rh41
            try dsimp only at h
            obtain ⟨rh42, h42, h⟩ := bind_some h
            have ch42 := f25_ok F x8 _ h42
            obtain ⟨x31, x32⟩ := rh42
            try dsimp only at h
            obtain ⟨rh43, h43, h⟩ := bind_some h
            have ch43 := f25_ok F x7 _ h43
            obtain ⟨x33, x34⟩ := rh43
            try dsimp only at h
            by_cases h44 : (x30 != 0) = true
            · rw [if_pos h44] at h
              cases h
            · rw [if_neg h44] at h
              have h44 := Bool.eq_false_iff.2 h44
              by_cases h45 : (x32 != 0) = true
              · rw [if_pos h45] at h
                cases h
              · rw [if_neg h45] at h
                have h45 := Bool.eq_false_iff.2 h45
                by_cases h46 : (x34 != 0) = true
                · rw [if_pos h46] at h
                  cases h
                · rw [if_neg h46] at h
                  have h46 := Bool.eq_false_iff.2 h46
                  by_cases h47 : (x27 != x6) = true
                  · rw [if_pos h47] at h
                    cases h
                  · rw [if_neg h47] at h
                    have h47 := Bool.eq_false_iff.2 h47
                    obtain ⟨x35, h48, h⟩ := bind_some h
                    have ch48 := f31_ok F x28 x31 _ h48
                    try dsimp only at h
                    by_cases h49 : x35 = true
                    · rw [if_pos h49] at h
                      obtain ⟨x36, h50, h⟩ := bind_some h
                      have ch50 := f31_ok F x29 x33 _ h50
                      try dsimp only at h
                      by_cases h51 : x36 = true
                      · rw [if_pos h51] at h
                        obtain ⟨x37, h52, h⟩ := bind_some h
                        have ch52 := f53_ok F x3 9 _ h52
                        try dsimp only at h
                        obtain ⟨x38, h53, h⟩ := bind_some h
                        have ch53 := f53_ok F x4 9 _ h53
                        try dsimp only at h
                        obtain ⟨rh54, h54, h⟩ := bind_some h
                        have ch54 := f42_ok F (Int.tmod (w64 (x2)) 6) x37 x38 _ h54
                        obtain ⟨x39, x40⟩ := rh54
                        try dsimp only at h
                        obtain ⟨x42, h58, h⟩ := bind_some h
                        have ch58 := f13_r27_ok F x2 x37 x38 x39 x40 _ h58
                        try dsimp only at h
                        obtain ⟨x46, h64, h⟩ := bind_some h
                        have ch64 := f13_p9_ok F x2 x37 x38 x39 x40 x42 _ h64
                        try dsimp only at h
                        by_cases h65 : (x40 != x46) = true
                        · rw [if_pos h65] at h
                          cases h
                        · rw [if_neg h65] at h
                          have h65 := Bool.eq_false_iff.2 h65
                          by_cases h66 : (x40 != 0) = true
                          · rw [if_pos h66] at h
                            by_cases h67 : (((List.length x39 : Nat) : Int) == 0) = true
                            · rw [if_pos h67] at h
                              obtain ⟨x47, h68, h⟩ := bind_some h
                              have ch68 := f19_ok F _ h68
                              try dsimp only at h
                              obtain rfl := Option.some.inj h
                              exact callOK cxOK cxW Try.func13 (by kernel_rfl) (f13_e0 x1 x2 x3 x4 x5 x6 x7 x8 x9 x17 x22 x23 x24 x25 x26 x27 x28 x29 x30 x31 x32 x33 x34 x35 x36 x37 x38 x39 x40 x42 x46 x47) ⟨ch1, ch2, ch24, h25, ch34, ch35, ch36, h37, h37, h37, ch38, h37, h37, (by rw [h39]; rfl), (by rw [h39]; rfl), (by rw [h39]; rfl), h40, ch41, ch42, ch43, h44, h44, h44, h45, h45, h45, h46, h46, h46, h46, h47, h47, h47, ch48, h47, h47, (by rw [h49]; rfl), (by rw [h49]; rfl), (by rw [h49]; rfl), ch50, (by rw [h49]; rfl), (by rw [h49]; rfl), (by rw [h51]; rfl), (by decide), ch52, ch53, ch54, ch58, ch64, h65, h66, h67, ch68, h67, trivial⟩
                            · rw [if_neg h67] at h
                              have h67 := Bool.eq_false_iff.2 h67
                              cases h
                          · rw [if_neg h66] at h
                            have h66 := Bool.eq_false_iff.2 h66
                            obtain ⟨rh69, h69, h⟩ := bind_some h
                            have ch69 := f40_ok F x39 _ h69
                            obtain ⟨x48, x49, x50, x51⟩ := rh69
                            try dsimp only at h
                            by_cases h70 : (x51 == 0) = true
                            · rw [if_pos h70] at h
                              by_cases h71 : (x48 == (Int.tmod (w64 (x2)) 6)) = true
                              · rw [if_pos h71] at h
                                obtain ⟨x52, h72, h⟩ := bind_some h
                                have ch72 := f31_ok F x49 x37 _ h72
                                try dsimp only at h
                                by_cases h73 : x52 = true
                                · rw [if_pos h73] at h
                                  obtain ⟨x53, h74, h⟩ := bind_some h
                                  have ch74 := f31_ok F x50 x38 _ h74
                                  try dsimp only at h
                                  by_cases h75 : x53 = true
                                  · rw [if_pos h75] at h
                                    obtain ⟨x54, h76, h⟩ := bind_some h
                                    have ch76 := f19_ok F _ h76
                                    try dsimp only at h
                                    obtain rfl := Option.some.inj h
                                    exact callOK cxOK cxW Try.func13 (by kernel_rfl) (f13_e1 x1 x2 x3 x4 x5 x6 x7 x8 x9 x17 x22 x23 x24 x25 x26 x27 x28 x29 x30 x31 x32 x33 x34 x35 x36 x37 x38 x39 x40 x42 x46 x48 x49 x50 x51 x52 x53 x54) ⟨ch1, ch2, ch24, h25, ch34, ch35, ch36, h37, h37, h37, ch38, h37, h37, (by rw [h39]; rfl), (by rw [h39]; rfl), (by rw [h39]; rfl), h40, ch41, ch42, ch43, h44, h44, h44, h45, h45, h45, h46, h46, h46, h46, h47, h47, h47, ch48, h47, h47, (by rw [h49]; rfl), (by rw [h49]; rfl), (by rw [h49]; rfl), ch50, (by rw [h49]; rfl), (by rw [h49]; rfl), (by rw [h51]; rfl), (by decide), ch52, ch53, ch54, ch58, ch64, h65, h66, ch69, h70, h70, h70, h70, h71, h71, h71, ch72, h71, h73, h73, h73, ch74, h73, h75, ch76, h75, trivial⟩
                                  · rw [if_neg h75] at h
                                    have h75 := Bool.eq_false_iff.2 h75
                                    cases h
                                · rw [if_neg h73] at h
                                  have h73 := Bool.eq_false_iff.2 h73
                                  cases h
                              · rw [if_neg h71] at h
                                have h71 := Bool.eq_false_iff.2 h71
                                cases h
                            · rw [if_neg h70] at h
                              have h70 := Bool.eq_false_iff.2 h70
                              cases h
                      · rw [if_neg h51] at h
                        have h51 := Bool.eq_false_iff.2 h51
                        cases h
                    · rw [if_neg h49] at h
                      have h49 := Bool.eq_false_iff.2 h49
                      cases h
        · rw [if_neg h39] at h
          have h39 := Bool.eq_false_iff.2 h39
          cases h

end Go.Gh.Bunch
