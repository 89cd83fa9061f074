/- Pack14F1: printed by wip/tool/gx.py -/
import Derived.Test.YtkjlgbnbpeijbaaPack14F0
namespace Go.Gh.Pack
set_option linter.unusedVariables false
set_option linter.unusedSimpArgs false
open Go.Proofs

theorem f14_p2_ok (F : Nat) (x14 : List Int) (x15 : Int) (x5 x6 : List Int) (x4 x8 : Int) (x9 x10 : List Int) : ∀ (k : Nat) (x16 : Int) (r : f14_p2_R), f14_p2 F x14 x15 x5 x6 x4 x8 x9 x10 k x16 = some r → f14_p2_P x14 x15 x5 x6 x4 x8 x9 x10 x16 r
  | 0, _, _, h => by cases h
  | k + 1, x16, r, h => by
    unfold f14_p2 at h
    by_cases h9 : (decide (x16 < ((List.length x5 : Nat) : Int))) = true
    · rw [if_pos h9] at h
      obtain ⟨rh10, h10, h⟩ := bind_some h
      have ch10 := f42_ok F x5 x6 (Int.tmod (w64 (x4)) 120) x16 _ h10
      obtain ⟨x17, x18, x19⟩ := rh10
      try dsimp only at h
      by_cases h11 : (x8 == 0) = true
      · rw [if_pos h11] at h
        by_cases h12 : (x19 != 12) = true
        · rw [if_pos h12] at h
          obtain rfl := Option.some.inj h
          exact Lp.out (gRun_ok cxOK (f14_p2_e0 x4 x5 x6 x8 x9 x10 x14 x15 x16 x17 x18 x19) ⟨h9, ch10, h11, h11, h11, h12, h12, h11, h12, h11, rfl, rfl, h11, rfl, h11, rfl, rfl, rfl, rfl, rfl, rfl, trivial⟩) (by intro hh; cases hh)
        · rw [if_neg h12] at h
          have h12 := Bool.eq_false_iff.2 h12
          by_cases h13 : (x17 != 0) = true
          · rw [if_pos h13] at h
            obtain rfl := Option.some.inj h
            exact Lp.out (gRun_ok cxOK (f14_p2_e1 x4 x5 x6 x8 x9 x10 x14 x15 x16 x17 x18 x19) ⟨h9, ch10, h11, h11, h11, h12, h12, h11, h12, h11, h13, h13, h11, h13, h11, rfl, rfl, rfl, rfl, rfl, rfl, trivial⟩) (by intro hh; cases hh)
          · rw [if_neg h13] at h
            have h13 := Bool.eq_false_iff.2 h13
            by_cases h14 : (x18 != 0) = true
            · rw [if_pos h14] at h
              obtain rfl := Option.some.inj h
              exact Lp.out (gRun_ok cxOK (f14_p2_e2 x4 x5 x6 x8 x9 x10 x14 x15 x16 x17 x18 x19) ⟨h9, ch10, h11, h11, h11, h12, h12, h11, h12, h11, h13, h13, h11, h13, h11, h14, h14, h14, h14, h14, rfl, trivial⟩) (by intro hh; cases hh)
            · rw [if_neg h14] at h
              have h14 := Bool.eq_false_iff.2 h14
              by_cases h15 : (decide (x8 > 0)) = true
              · rw [if_pos h15] at h
                by_cases h16 : (x19 != 0) = true
                · rw [if_pos h16] at h
                  obtain rfl := Option.some.inj h
                  exact Lp.out (gRun_ok cxOK (f14_p2_e3 x4 x5 x6 x8 x9 x10 x14 x15 x16 x17 x18 x19) ⟨h9, ch10, h11, h11, h11, h12, h12, h11, h12, h11, h13, h13, h11, h13, h11, h14, h14, h14, h15, h15, h15, h16, h16, h16, h16, h16, h16, h15, h16, h15, rfl, rfl, rfl, rfl, rfl, rfl, h15, rfl, h14, h15, h14, rfl, trivial⟩) (by intro hh; cases hh)
                · rw [if_neg h16] at h
                  have h16 := Bool.eq_false_iff.2 h16
                  obtain ⟨h17, h⟩ := req_some h
                  obtain ⟨x20, h18, h⟩ := bind_some h
                  try dsimp only at h
                  by_cases h19 : (x17 != x20) = true
                  · rw [if_pos h19] at h
                    obtain rfl := Option.some.inj h
                    exact Lp.out (gRun_ok cxOK (f14_p2_e4 x4 x5 x6 x8 x9 x10 x14 x15 x16 x17 x18 x19 x20) ⟨h9, ch10, h11, h11, h11, h12, h12, h11, h12, h11, h13, h13, h11, h13, h11, h14, h14, h14, h15, h15, h15, h16, h16, h16, h16, h17, h16, ⟨x20, h18, rfl⟩, h16, h15, h16, h15, h19, h19, h19, h19, h19, h19, h15, h19, h14, h15, h14, rfl, trivial⟩) (by intro hh; cases hh)
                  · rw [if_neg h19] at h
                    have h19 := Bool.eq_false_iff.2 h19
                    obtain ⟨x21, h20, h⟩ := bind_some h
                    try dsimp only at h
                    by_cases h21 : (x18 != x21) = true
                    · rw [if_pos h21] at h
                      obtain rfl := Option.some.inj h
                      exact Lp.out (gRun_ok cxOK (f14_p2_e5 x4 x5 x6 x8 x9 x10 x14 x15 x16 x17 x18 x19 x20 x21) ⟨h9, ch10, h11, h11, h11, h12, h12, h11, h12, h11, h13, h13, h11, h13, h11, h14, h14, h14, h15, h15, h15, h16, h16, h16, h16, h17, h16, ⟨x20, h18, rfl⟩, h16, h15, h16, h15, h19, h19, h19, h19, h17, h19, ⟨x21, h20, rfl⟩, h19, h15, h19, h14, h15, h14, h21, trivial⟩) (by intro hh; cases hh)
                    · rw [if_neg h21] at h
                      have h21 := Bool.eq_false_iff.2 h21
                      exact Lp.again (gRun_ok cxOK (f14_p2_e6 x4 x5 x6 x8 x9 x10 x14 x15 x16 x17 x18 x19 x20 x21) ⟨h9, ch10, h11, h11, h11, h12, h12, h11, h12, h11, h13, h13, h11, h13, h11, h14, h14, h14, h15, h15, h15, h16, h16, h16, h16, h17, h16, ⟨x20, h18, rfl⟩, h16, h15, h16, h15, h19, h19, h19, h19, h17, h19, ⟨x21, h20, rfl⟩, h19, h15, h19, h14, h15, h14, h21, trivial⟩) (f14_p2_ok F x14 x15 x5 x6 x4 x8 x9 x10 k (w64 (x16 + 1)) r h)
              · rw [if_neg h15] at h
                have h15 := Bool.eq_false_iff.2 h15
                exact Lp.again (gRun_ok cxOK (f14_p2_e7 x4 x5 x6 x8 x9 x10 x14 x15 x16 x17 x18 x19) ⟨h9, ch10, h11, h11, h11, h12, h12, h11, h12, h11, h13, h13, h11, h13, h11, h14, h14, h14, h15, h15, h15, h15, h15, h15, h14, h15, h14, rfl, trivial⟩) (f14_p2_ok F x14 x15 x5 x6 x4 x8 x9 x10 k (w64 (x16 + 1)) r h)
      · rw [if_neg h11] at h
        have h11 := Bool.eq_false_iff.2 h11
        by_cases h22 : (decide (x8 > 0)) = true
        · rw [if_pos h22] at h
          by_cases h23 : (x19 != 0) = true
          · rw [if_pos h23] at h
            obtain rfl := Option.some.inj h
            exact Lp.out (gRun_ok cxOK (f14_p2_e8 x4 x5 x6 x8 x9 x10 x14 x15 x16 x17 x18 x19) ⟨h9, ch10, h11, h11, h11, h11, h11, h11, h11, rfl, rfl, rfl, h22, h22, h22, h23, h23, h23, h23, h23, h23, h22, h23, h22, rfl, rfl, rfl, rfl, rfl, rfl, h22, rfl, rfl, h22, rfl, rfl, trivial⟩) (by intro hh; cases hh)
          · rw [if_neg h23] at h
            have h23 := Bool.eq_false_iff.2 h23
            obtain ⟨h24, h⟩ := req_some h
            obtain ⟨x22, h25, h⟩ := bind_some h
            try dsimp only at h
            by_cases h26 : (x17 != x22) = true
            · rw [if_pos h26] at h
              obtain rfl := Option.some.inj h
              exact Lp.out (gRun_ok cxOK (f14_p2_e9 x4 x5 x6 x8 x9 x10 x14 x15 x16 x17 x18 x19 x22) ⟨h9, ch10, h11, h11, h11, h11, h11, h11, h11, rfl, rfl, rfl, h22, h22, h22, h23, h23, h23, h23, h24, h23, ⟨x22, h25, rfl⟩, h23, h22, h23, h22, h26, h26, h26, h26, h26, h26, h22, h26, rfl, h22, rfl, rfl, trivial⟩) (by intro hh; cases hh)
            · rw [if_neg h26] at h
              have h26 := Bool.eq_false_iff.2 h26
              obtain ⟨x23, h27, h⟩ := bind_some h
              try dsimp only at h
              by_cases h28 : (x18 != x23) = true
              · rw [if_pos h28] at h
                obtain rfl := Option.some.inj h
                exact Lp.out (gRun_ok cxOK (f14_p2_e10 x4 x5 x6 x8 x9 x10 x14 x15 x16 x17 x18 x19 x22 x23) ⟨h9, ch10, h11, h11, h11, h11, h11, h11, h11, rfl, rfl, rfl, h22, h22, h22, h23, h23, h23, h23, h24, h23, ⟨x22, h25, rfl⟩, h23, h22, h23, h22, h26, h26, h26, h26, h24, h26, ⟨x23, h27, rfl⟩, h26, h22, h26, rfl, h22, rfl, h28, trivial⟩) (by intro hh; cases hh)
              · rw [if_neg h28] at h
                have h28 := Bool.eq_false_iff.2 h28
                exact Lp.again (gRun_ok cxOK (f14_p2_e11 x4 x5 x6 x8 x9 x10 x14 x15 x16 x17 x18 x19 x22 x23) ⟨h9, ch10, h11, h11, h11, h11, h11, h11, h11, rfl, rfl, rfl, h22, h22, h22, h23, h23, h23, h23, h24, h23, ⟨x22, h25, rfl⟩, h23, h22, h23, h22, h26, h26, h26, h26, h24, h26, ⟨x23, h27, rfl⟩, h26, h22, h26, rfl, h22, rfl, h28, trivial⟩) (f14_p2_ok F x14 x15 x5 x6 x4 x8 x9 x10 k (w64 (x16 + 1)) r h)
        · rw [if_neg h22] at h
          have h22 := Bool.eq_false_iff.2 h22
          exact Lp.again (gRun_ok cxOK (f14_p2_e12 x4 x5 x6 x8 x9 x10 x14 x15 x16 x17 x18 x19) ⟨h9, ch10, h11, h11, h11, h11, h11, h11, h11, rfl, rfl, rfl, h22, h22, h22, h22, h22, h22, rfl, h22, rfl, rfl, trivial⟩) (f14_p2_ok F x14 x15 x5 x6 x4 x8 x9 x10 k (w64 (x16 + 1)) r h)
    · rw [if_neg h9] at h
      have h9 := Bool.eq_false_iff.2 h9
      obtain rfl := Option.some.inj h
      exact Lp.out (gRun_ok cxOK (f14_p2_e13 x4 x5 x6 x8 x9 x10 x14 x15 x16) ⟨h9, trivial⟩) (by intro hh; cases hh)
theorem f14_p2_1_ok (F : Nat) (x35 : List Int) (x36 : Int) (x5 x6 : List Int) (x4 : Int) (x27 : List Int) (x29 : Int) (x30 x31 : List Int) : ∀ (k : Nat) (x37 : Int) (r : f14_p2_1_R), f14_p2_1 F x35 x36 x5 x6 x4 x27 x29 x30 x31 k x37 = some r → f14_p2_1_P x35 x36 x5 x6 x4 x27 x29 x30 x31 x37 r
  | 0, _, _, h => by cases h
  | k + 1, x37, r, h => by
    unfold f14_p2_1 at h
    by_cases h43 : (decide (x37 < ((List.length x5 : Nat) : Int))) = true
    · rw [if_pos h43] at h
      obtain ⟨rh44, h44, h⟩ := bind_some h
      have ch44 := f42_ok F x5 x6 (Int.tmod (w64 (x4)) 120) x37 _ h44
      obtain ⟨x38, x39, x40⟩ := rh44
      try dsimp only at h
      by_cases h45 : (x29 == 0) = true
      · rw [if_pos h45] at h
        by_cases h46 : (x40 != 12) = true
        · rw [if_pos h46] at h
          obtain rfl := Option.some.inj h
          exact Lp.out (gRun_ok cxOK (f14_p2_1_e0 x4 x5 x6 x27 x29 x30 x31 x35 x36 x37 x38 x39 x40) ⟨h43, ch44, h45, h45, h45, h46, h46, h45, h46, h45, rfl, rfl, h45, rfl, h45, rfl, rfl, rfl, rfl, rfl, rfl, trivial⟩) (by intro hh; cases hh)
        · rw [if_neg h46] at h
          have h46 := Bool.eq_false_iff.2 h46
          by_cases h47 : (x38 != 0) = true
          · rw [if_pos h47] at h
            obtain rfl := Option.some.inj h
            exact Lp.out (gRun_ok cxOK (f14_p2_1_e1 x4 x5 x6 x27 x29 x30 x31 x35 x36 x37 x38 x39 x40) ⟨h43, ch44, h45, h45, h45, h46, h46, h45, h46, h45, h47, h47, h45, h47, h45, rfl, rfl, rfl, rfl, rfl, rfl, trivial⟩) (by intro hh; cases hh)
          · rw [if_neg h47] at h
            have h47 := Bool.eq_false_iff.2 h47
            by_cases h48 : (x39 != 0) = true
            · rw [if_pos h48] at h
              obtain rfl := Option.some.inj h
              exact Lp.out (gRun_ok cxOK (f14_p2_1_e2 x4 x5 x6 x27 x29 x30 x31 x35 x36 x37 x38 x39 x40) ⟨h43, ch44, h45, h45, h45, h46, h46, h45, h46, h45, h47, h47, h45, h47, h45, h48, h48, h48, h48, h48, rfl, trivial⟩) (by intro hh; cases hh)
            · rw [if_neg h48] at h
              have h48 := Bool.eq_false_iff.2 h48
              by_cases h49 : (decide (x29 > 0)) = true
              · rw [if_pos h49] at h
                by_cases h50 : (x40 != 0) = true
                · rw [if_pos h50] at h
                  obtain rfl := Option.some.inj h
                  exact Lp.out (gRun_ok cxOK (f14_p2_1_e3 x4 x5 x6 x27 x29 x30 x31 x35 x36 x37 x38 x39 x40) ⟨h43, ch44, h45, h45, h45, h46, h46, h45, h46, h45, h47, h47, h45, h47, h45, h48, h48, h48, h49, h49, h49, h50, h50, h50, h50, h50, h50, h49, h50, h49, rfl, rfl, rfl, rfl, rfl, rfl, h49, rfl, h48, h49, h48, rfl, trivial⟩) (by intro hh; cases hh)
                · rw [if_neg h50] at h
                  have h50 := Bool.eq_false_iff.2 h50
                  obtain ⟨h51, h⟩ := req_some h
                  obtain ⟨x41, h52, h⟩ := bind_some h
                  try dsimp only at h
                  by_cases h53 : (x38 != x41) = true
                  · rw [if_pos h53] at h
                    obtain rfl := Option.some.inj h
                    exact Lp.out (gRun_ok cxOK (f14_p2_1_e4 x4 x5 x6 x27 x29 x30 x31 x35 x36 x37 x38 x39 x40 x41) ⟨h43, ch44, h45, h45, h45, h46, h46, h45, h46, h45, h47, h47, h45, h47, h45, h48, h48, h48, h49, h49, h49, h50, h50, h50, h50, h51, h50, ⟨x41, h52, rfl⟩, h50, h49, h50, h49, h53, h53, h53, h53, h53, h53, h49, h53, h48, h49, h48, rfl, trivial⟩) (by intro hh; cases hh)
                  · rw [if_neg h53] at h
                    have h53 := Bool.eq_false_iff.2 h53
                    obtain ⟨x42, h54, h⟩ := bind_some h
                    try dsimp only at h
                    by_cases h55 : (x39 != x42) = true
                    · rw [if_pos h55] at h
                      obtain rfl := Option.some.inj h
                      exact Lp.out (gRun_ok cxOK (f14_p2_1_e5 x4 x5 x6 x27 x29 x30 x31 x35 x36 x37 x38 x39 x40 x41 x42) ⟨h43, ch44, h45, h45, h45, h46, h46, h45, h46, h45, h47, h47, h45, h47, h45, h48, h48, h48, h49, h49, h49, h50, h50, h50, h50, h51, h50, ⟨x41, h52, rfl⟩, h50, h49, h50, h49, h53, h53, h53, h53, h51, h53, ⟨x42, h54, rfl⟩, h53, h49, h53, h48, h49, h48, h55, trivial⟩) (by intro hh; cases hh)
                    · rw [if_neg h55] at h
                      have h55 := Bool.eq_false_iff.2 h55
                      exact Lp.again (gRun_ok cxOK (f14_p2_1_e6 x4 x5 x6 x27 x29 x30 x31 x35 x36 x37 x38 x39 x40 x41 x42) ⟨h43, ch44, h45, h45, h45, h46, h46, h45, h46, h45, h47, h47, h45, h47, h45, h48, h48, h48, h49, h49, h49, h50, h50, h50, h50, h51, h50, ⟨x41, h52, rfl⟩, h50, h49, h50, h49, h53, h53, h53, h53, h51, h53, ⟨x42, h54, rfl⟩, h53, h49, h53, h48, h49, h48, h55, trivial⟩) (f14_p2_1_ok F x35 x36 x5 x6 x4 x27 x29 x30 x31 k (w64 (x37 + 1)) r h)
              · rw [if_neg h49] at h
                have h49 := Bool.eq_false_iff.2 h49
                exact Lp.again (gRun_ok cxOK (f14_p2_1_e7 x4 x5 x6 x27 x29 x30 x31 x35 x36 x37 x38 x39 x40) ⟨h43, ch44, h45, h45, h45, h46, h46, h45, h46, h45, h47, h47, h45, h47, h45, h48, h48, h48, h49, h49, h49, h49, h49, h49, h48, h49, h48, rfl, trivial⟩) (f14_p2_1_ok F x35 x36 x5 x6 x4 x27 x29 x30 x31 k (w64 (x37 + 1)) r h)
      · rw [if_neg h45] at h
        have h45 := Bool.eq_false_iff.2 h45
        by_cases h56 : (decide (x29 > 0)) = true
        · rw [if_pos h56] at h
          by_cases h57 : (x40 != 0) = true
          · rw [if_pos h57] at h
            obtain rfl := Option.some.inj h
            exact Lp.out (gRun_ok cxOK (f14_p2_1_e8 x4 x5 x6 x27 x29 x30 x31 x35 x36 x37 x38 x39 x40) ⟨h43, ch44, h45, h45, h45, h45, h45, h45, h45, rfl, rfl, rfl, h56, h56, h56, h57, h57, h57, h57, h57, h57, h56, h57, h56, rfl, rfl, rfl, rfl, rfl, rfl, h56, rfl, rfl, h56, rfl, rfl, trivial⟩) (by intro hh; cases hh)
          · rw [if_neg h57] at h
            have h57 := Bool.eq_false_iff.2 h57
            obtain ⟨h58, h⟩ := req_some h
            obtain ⟨x43, h59, h⟩ := bind_some h
            try dsimp only at h
            by_cases h60 : (x38 != x43) = true
            · rw [if_pos h60] at h
              obtain rfl := Option.some.inj h
              exact Lp.out (gRun_ok cxOK (f14_p2_1_e9 x4 x5 x6 x27 x29 x30 x31 x35 x36 x37 x38 x39 x40 x43) ⟨h43, ch44, h45, h45, h45, h45, h45, h45, h45, rfl, rfl, rfl, h56, h56, h56, h57, h57, h57, h57, h58, h57, ⟨x43, h59, rfl⟩, h57, h56, h57, h56, h60, h60, h60, h60, h60, h60, h56, h60, rfl, h56, rfl, rfl, trivial⟩) (by intro hh; cases hh)
            · rw [if_neg h60] at h
              have h60 := Bool.eq_false_iff.2 h60
              obtain ⟨x44, h61, h⟩ := bind_some h
              try dsimp only at h
              by_cases h62 : (x39 != x44) = true
              · rw [if_pos h62] at h
                obtain rfl := Option.some.inj h
                exact Lp.out (gRun_ok cxOK (f14_p2_1_e10 x4 x5 x6 x27 x29 x30 x31 x35 x36 x37 x38 x39 x40 x43 x44) ⟨h43, ch44, h45, h45, h45, h45, h45, h45, h45, rfl, rfl, rfl, h56, h56, h56, h57, h57, h57, h57, h58, h57, ⟨x43, h59, rfl⟩, h57, h56, h57, h56, h60, h60, h60, h60, h58, h60, ⟨x44, h61, rfl⟩, h60, h56, h60, rfl, h56, rfl, h62, trivial⟩) (by intro hh; cases hh)
              · rw [if_neg h62] at h
                have h62 := Bool.eq_false_iff.2 h62
                exact Lp.again (gRun_ok cxOK (f14_p2_1_e11 x4 x5 x6 x27 x29 x30 x31 x35 x36 x37 x38 x39 x40 x43 x44) ⟨h43, ch44, h45, h45, h45, h45, h45, h45, h45, rfl, rfl, rfl, h56, h56, h56, h57, h57, h57, h57, h58, h57, ⟨x43, h59, rfl⟩, h57, h56, h57, h56, h60, h60, h60, h60, h58, h60, ⟨x44, h61, rfl⟩, h60, h56, h60, rfl, h56, rfl, h62, trivial⟩) (f14_p2_1_ok F x35 x36 x5 x6 x4 x27 x29 x30 x31 k (w64 (x37 + 1)) r h)
        · rw [if_neg h56] at h
          have h56 := Bool.eq_false_iff.2 h56
          exact Lp.again (gRun_ok cxOK (f14_p2_1_e12 x4 x5 x6 x27 x29 x30 x31 x35 x36 x37 x38 x39 x40) ⟨h43, ch44, h45, h45, h45, h45, h45, h45, h45, rfl, rfl, rfl, h56, h56, h56, h56, h56, h56, rfl, h56, rfl, rfl, trivial⟩) (f14_p2_1_ok F x35 x36 x5 x6 x4 x27 x29 x30 x31 k (w64 (x37 + 1)) r h)
    · rw [if_neg h43] at h
      have h43 := Bool.eq_false_iff.2 h43
      obtain rfl := Option.some.inj h
      exact Lp.out (gRun_ok cxOK (f14_p2_1_e13 x4 x5 x6 x27 x29 x30 x31 x35 x36 x37) ⟨h43, trivial⟩) (by intro hh; cases hh)
theorem f14_ok (F : Nat) (x1 x2 : List Int) (x3 x4 : Int) (r : Bool) (h : f14 F x1 x2 x3 x4 = some r) : f14_C x1 x2 x3 x4 r := by
  unfold f14 at h
  obtain ⟨rh1, h1, h⟩ := bind_some h
  have ch1 := f44_ok F x1 x2 x3 12 6 _ h1
  obtain ⟨x5, x6⟩ := rh1
  try dsimp only at h
  obtain ⟨h2, h⟩ := req_some h
  obtain ⟨rh3, h3, h⟩ := bind_some h
  have ch3 := f45_1_ok F x5 x6 x5 x6 (Int.tmod (w64 (x4)) 120) 1073741824 0 (List.replicate (Int.toNat ((List.length x5 : Nat) : Int)) (0 : Int)) (List.replicate (Int.toNat ((List.length x5 : Nat) : Int)) (0 : Int)) 0 (Int.toNat ((List.length x5 : Nat) : Int)) 0 (Int.toNat ((List.length x5 : Nat) : Int)) true _ h3
  cases rh3 with
  | c0 x7 x8 x9 x10 x11 =>
    try dsimp only at h
    obtain ⟨rh4, h4, h⟩ := bind_some h
    have ch4 := f36_ok F x5 x6 (Int.tmod (w64 (x4)) 120) _ h4
    obtain ⟨x12, x13⟩ := rh4
    try dsimp only at h
    obtain ⟨rh5, h5, h⟩ := bind_some h
    have ch5 := f51_ok F x5 x6 (Int.tmod (w64 (x4)) 120) _ h5
    obtain ⟨x14, x15⟩ := rh5
    try dsimp only at h
    by_cases h6 : x11 = true
    · rw [if_pos h6] at h
      by_cases h7 : (x13 != 0) = true
      · rw [if_pos h7] at h
        cases h
      · rw [if_neg h7] at h
        have h7 := Bool.eq_false_iff.2 h7
        by_cases h8 : (x12 != x8) = true
        · rw [if_pos h8] at h
          cases h
        · rw [if_neg h8] at h
          have h8 := Bool.eq_false_iff.2 h8
          obtain ⟨rh29, h29, h⟩ := bind_some h
          have ch29 := f14_p2_ok F x14 x15 x5 x6 x4 x8 x9 x10 F 0 _ h29
          cases rh29 with
          | c0 =>
            try dsimp only at h
            cases h
          | c1 =>
            try dsimp only at h
            by_cases h30 : (x8 == 0) = true
            · rw [if_pos h30] at h
              by_cases h31 : (x15 == 12) = true
              · rw [if_pos h31] at h
                by_cases h32 : (((List.length x14 : Nat) : Int) == 0) = true
                · rw [if_pos h32] at h
                  obtain ⟨rh33, h33, h⟩ := bind_some h
                  have ch33 := f16_ok F _ h33
                  obtain ⟨x24, rfl⟩ : ∃ z, z = rh33 := ⟨_, rfl⟩
                  try dsimp only at h
                  obtain rfl := Option.some.inj h
                  exact callOK cxOK cxW Try.func14 (by kernel_rfl) (f14_e0 x1 x2 x3 x4 x5 x6 x7 x8 x9 x10 x11 x12 x13 x14 x15 x24) ⟨ch1, (by decide), h2, h2, ch3, ch4, ch5, (by rw [h6]; rfl), (by rw [h6]; rfl), (by rw [h6]; rfl), h7, h7, h7, h7, h8, ch29, h30, h31, h31, h31, h31, h32, ch33, h32, trivial⟩
                · rw [if_neg h32] at h
                  have h32 := Bool.eq_false_iff.2 h32
                  cases h
              · rw [if_neg h31] at h
                have h31 := Bool.eq_false_iff.2 h31
                cases h
            · rw [if_neg h30] at h
              have h30 := Bool.eq_false_iff.2 h30
              by_cases h34 : (x15 == 0) = true
              · rw [if_pos h34] at h
                obtain ⟨rh35, h35, h⟩ := bind_some h
                have ch35 := f23_ok F x14 ([] : List Int) _ h35
                obtain ⟨x25, rfl⟩ : ∃ z, z = rh35 := ⟨_, rfl⟩
                try dsimp only at h
                by_cases h36 : x25 = true
                · rw [if_pos h36] at h
                  obtain ⟨rh37, h37, h⟩ := bind_some h
                  have ch37 := f16_ok F _ h37
                  obtain ⟨x26, rfl⟩ : ∃ z, z = rh37 := ⟨_, rfl⟩
                  try dsimp only at h
                  obtain rfl := Option.some.inj h
                  exact callOK cxOK cxW Try.func14 (by kernel_rfl) (f14_e1 x1 x2 x3 x4 x5 x6 x7 x8 x9 x10 x11 x12 x13 x14 x15 x25 x26) ⟨ch1, (by decide), h2, h2, ch3, ch4, ch5, (by rw [h6]; rfl), (by rw [h6]; rfl), (by rw [h6]; rfl), h7, h7, h7, h7, h8, ch29, h30, h34, h34, h34, ch35, h34, h36, ch37, h36, trivial⟩
                · rw [if_neg h36] at h
                  have h36 := Bool.eq_false_iff.2 h36
                  cases h
              · rw [if_neg h34] at h
                have h34 := Bool.eq_false_iff.2 h34
                cases h
    · rw [if_neg h6] at h
      have h6 := Bool.eq_false_iff.2 h6
      cases h
  | c1 x27 x28 x29 x30 x31 x32 =>
    try dsimp only at h
    obtain ⟨rh38, h38, h⟩ := bind_some h
    have ch38 := f36_ok F x5 x6 (Int.tmod (w64 (x4)) 120) _ h38
    obtain ⟨x33, x34⟩ := rh38
    try dsimp only at h
    obtain ⟨rh39, h39, h⟩ := bind_some h
    have ch39 := f51_ok F x5 x6 (Int.tmod (w64 (x4)) 120) _ h39
    obtain ⟨x35, x36⟩ := rh39
    try dsimp only at h
    by_cases h40 : x32 = true
    · rw [if_pos h40] at h
      by_cases h41 : (x34 != 0) = true
      · rw [if_pos h41] at h
        cases h
      · rw [if_neg h41] at h
        have h41 := Bool.eq_false_iff.2 h41
        by_cases h42 : (x33 != x29) = true
        · rw [if_pos h42] at h
          cases h
        · rw [if_neg h42] at h
          have h42 := Bool.eq_false_iff.2 h42
          obtain ⟨rh63, h63, h⟩ := bind_some h
          have ch63 := f14_p2_1_ok F x35 x36 x5 x6 x4 x27 x29 x30 x31 F 0 _ h63
          cases rh63 with
          | c0 =>
            try dsimp only at h
            cases h
          | c1 =>
            try dsimp only at h
            by_cases h64 : (x29 == 0) = true
            · rw [if_pos h64] at h
              by_cases h65 : (x36 == 12) = true
              · rw [if_pos h65] at h
                by_cases h66 : (((List.length x35 : Nat) : Int) == 0) = true
                · rw [if_pos h66] at h
                  obtain ⟨rh67, h67, h⟩ := bind_some h
                  have ch67 := f16_ok F _ h67
                  obtain ⟨x45, rfl⟩ : ∃ z, z = rh67 := ⟨_, rfl⟩
                  try dsimp only at h
                  obtain rfl := Option.some.inj h
                  exact callOK cxOK cxW Try.func14 (by kernel_rfl) (f14_e2 x1 x2 x3 x4 x5 x6 x27 x28 x29 x30 x31 x32 x33 x34 x35 x36 x45) ⟨ch1, (by decide), h2, h2, ch3, ch38, ch39, (by rw [h40]; rfl), (by rw [h40]; rfl), (by rw [h40]; rfl), h41, h41, h41, h41, h42, ch63, h64, h65, h65, h65, h65, h66, ch67, h66, trivial⟩
                · rw [if_neg h66] at h
                  have h66 := Bool.eq_false_iff.2 h66
                  cases h
              · rw [if_neg h65] at h
                have h65 := Bool.eq_false_iff.2 h65
                cases h
            · rw [if_neg h64] at h
              have h64 := Bool.eq_false_iff.2 h64
              by_cases h68 : (x36 == 0) = true
              · rw [if_pos h68] at h
                obtain ⟨rh69, h69, h⟩ := bind_some h
                have ch69 := f23_ok F x35 x27 _ h69
                obtain ⟨x46, rfl⟩ : ∃ z, z = rh69 := ⟨_, rfl⟩
                try dsimp only at h
                by_cases h70 : x46 = true
                · rw [if_pos h70] at h
                  obtain ⟨rh71, h71, h⟩ := bind_some h
                  have ch71 := f16_ok F _ h71
                  obtain ⟨x47, rfl⟩ : ∃ z, z = rh71 := ⟨_, rfl⟩
                  try dsimp only at h
                  obtain rfl := Option.some.inj h
                  exact callOK cxOK cxW Try.func14 (by kernel_rfl) (f14_e3 x1 x2 x3 x4 x5 x6 x27 x28 x29 x30 x31 x32 x33 x34 x35 x36 x46 x47) ⟨ch1, (by decide), h2, h2, ch3, ch38, ch39, (by rw [h40]; rfl), (by rw [h40]; rfl), (by rw [h40]; rfl), h41, h41, h41, h41, h42, ch63, h64, h68, h68, h68, ch69, h68, h70, ch71, h70, trivial⟩
                · rw [if_neg h70] at h
                  have h70 := Bool.eq_false_iff.2 h70
                  cases h
              · rw [if_neg h68] at h
                have h68 := Bool.eq_false_iff.2 h68
                cases h
    · rw [if_neg h40] at h
      have h40 := Bool.eq_false_iff.2 h40
      cases h

end Go.Gh.Pack
