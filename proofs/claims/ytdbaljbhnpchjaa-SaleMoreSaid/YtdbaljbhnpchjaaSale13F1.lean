/- Sale13F1: printed by wip/tool/gx.py -/
import Derived.Test.YtdbaljbhnpchjaaSale13F0
namespace Go.Gh.Sale
set_option linter.unusedVariables false
set_option linter.unusedSimpArgs false
open Go.Proofs

theorem f13_p1_ok (F : Nat) (x5 : List (List Int)) (x6 : (List Int)) (x4 : List Int) : ∀ (k : Nat) (x10 : Int) (x9 : List Int) (r : (List Int)), f13_p1 F x5 x6 x4 k x10 x9 = some r → f13_p1_P x5 x6 x4 x10 x9 r
  | 0, _, _, _, h => by cases h
  | k + 1, x10, x9, r, h => by
    unfold f13_p1 at h
    by_cases h7 : (decide (x10 < ((List.length x6 : Nat) : Int))) = true
    · rw [if_pos h7] at h
      obtain ⟨h8, h⟩ := req_some h
      obtain ⟨x11, h9, h⟩ := bind_some h
      try dsimp only at h
      obtain ⟨h10, h⟩ := req_some h
      exact Lp.again (gRun_ok cxOK (f13_p1_e0 x4 x5 x6 x9 x10 x11) ⟨h7, h8, ⟨x11, h9, rfl⟩, (by decide), h10, rfl, trivial⟩) (f13_p1_ok F x5 x6 x4 k (w64 (x10 + 1)) (x9 ++ ([(Int.tmod (w64 (x11)) 10)] : List Int)) r h)
    · rw [if_neg h7] at h
      have h7 := Bool.eq_false_iff.2 h7
      obtain rfl := Option.some.inj h
      exact Lp.out (gRun_ok cxOK (f13_p1_e1 x4 x5 x6 x9 x10) ⟨h7, trivial⟩) (by intro hh; cases hh)
theorem f13_p6_ok (F : Nat) (x5 : List (List Int)) (x15 x17 : List Int) (x6 : (List Int)) : ∀ (k : Nat) (x21 : Int) (r : f13_p6_R), f13_p6 F x5 x15 x17 x6 k x21 = some r → f13_p6_P x5 x15 x17 x6 x21 r
  | 0, _, _, h => by cases h
  | k + 1, x21, r, h => by
    unfold f13_p6 at h
    by_cases h24 : (decide (x21 < ((List.length x6 : Nat) : Int))) = true
    · rw [if_pos h24] at h
      obtain ⟨x22, h25, h⟩ := bind_some h
      try dsimp only at h
      obtain ⟨x23, h26, h⟩ := bind_some h
      try dsimp only at h
      by_cases h27 : (decide (x22 < x23)) = true
      · rw [if_pos h27] at h
        obtain rfl := Option.some.inj h
        exact Lp.out (gRun_ok cxOK (f13_p6_e0 x5 x6 x15 x17 x21 x22 x23) ⟨h24, ⟨(at?_spec h25).1, x22, (at?_spec h25).2, rfl⟩, ⟨(at?_spec h26).1, x23, (at?_spec h26).2, rfl⟩, h27, trivial⟩) (by intro hh; cases hh)
      · rw [if_neg h27] at h
        have h27 := Bool.eq_false_iff.2 h27
        exact Lp.again (gRun_ok cxOK (f13_p6_e1 x5 x6 x15 x17 x21 x22 x23) ⟨h24, ⟨(at?_spec h25).1, x22, (at?_spec h25).2, rfl⟩, ⟨(at?_spec h26).1, x23, (at?_spec h26).2, rfl⟩, h27, trivial⟩) (f13_p6_ok F x5 x15 x17 x6 k (w64 (x21 + 1)) r h)
    · rw [if_neg h24] at h
      have h24 := Bool.eq_false_iff.2 h24
      obtain rfl := Option.some.inj h
      exact Lp.out (gRun_ok cxOK (f13_p6_e2 x5 x6 x15 x17 x21) ⟨h24, trivial⟩) (by intro hh; cases hh)
theorem f13_p11_ok (F : Nat) (x5 : List (List Int)) (x15 : List Int) : ∀ (k : Nat) (x28 : Int) (x27 : List (List Int)) (r : (List (List Int))), f13_p11 F x5 x15 k x28 x27 = some r → f13_p11_P x5 x15 x28 x27 r
  | 0, _, _, _, h => by cases h
  | k + 1, x28, x27, r, h => by
    unfold f13_p11 at h
    by_cases h34 : (decide (x28 < ((List.length x5 : Nat) : Int))) = true
    · rw [if_pos h34] at h
      obtain ⟨x29, h35, h⟩ := bind_some h
      try dsimp only at h
      obtain ⟨x30, h36, h⟩ := bind_some h
      have ch36 := f58m_ok F x29 _ h36
      try dsimp only at h
      obtain ⟨h37, h⟩ := req_some h
      obtain ⟨h38, h⟩ := req_some h
      exact Lp.again (gRun_ok cxOK (f13_p11_e0 x5 x15 x27 x28 x29 x30) ⟨h34, ⟨(at?_spec h35).1, x29, (at?_spec h35).2, rfl⟩, ch36, h37, rfl, rfl, h38, rfl, trivial⟩) (f13_p11_ok F x5 x15 k (w64 (x28 + 1)) (x27 ++ ([(x30 ++ ([0] : List Int))] : List (List Int))) r h)
    · rw [if_neg h34] at h
      have h34 := Bool.eq_false_iff.2 h34
      obtain rfl := Option.some.inj h
      exact Lp.out (gRun_ok cxOK (f13_p11_e1 x5 x15 x27 x28) ⟨h34, trivial⟩) (by intro hh; cases hh)
theorem f13_ok (F : Nat) (x1 x2 : Int) (x3 x4 : List Int) (r : Bool) (h : f13 F x1 x2 x3 x4 = some r) : f13_C x1 x2 x3 x4 r := by
  unfold f13 at h
  obtain ⟨x5, h1, h⟩ := bind_some h
  have ch1 := f43_ok F x1 x2 x3 4 4 9 _ h1
  try dsimp only at h
  obtain ⟨x6, h2, h⟩ := bind_some h
  try dsimp only at h
  obtain ⟨x12, h11, h⟩ := bind_some h
  have ch11 := f13_p1_ok F x5 x6 x4 F 0 ([] : List Int) _ h11
  try dsimp only at h
  obtain ⟨x14, h13, h⟩ := bind_some h
  have ch13 := f52_2_ok F x5 _ h13
  try dsimp only at h
  obtain ⟨h14, h⟩ := req_some h
  obtain ⟨rh15, h15, h⟩ := bind_some h
  have ch15 := f39_ok F x5 _ h15
  obtain ⟨x15, x16⟩ := rh15
  try dsimp only at h
  obtain ⟨rh16, h16, h⟩ := bind_some h
  have ch16 := f39_ok F (List.drop 0 (List.take (0 + (List.length (x14 ++ ([(List.drop 0 (List.take (0 + (List.length x12)) x12))] : List (List Int))))) (x14 ++ ([(List.drop 0 (List.take (0 + (List.length x12)) x12))] : List (List Int))))) _ h16
  obtain ⟨x17, x18⟩ := rh16
  try dsimp only at h
  by_cases h17 : (x16 != 0) = true
  · rw [if_pos h17] at h
    cases h
  · rw [if_neg h17] at h
    have h17 := Bool.eq_false_iff.2 h17
    by_cases h18 : (x18 != 0) = true
    · rw [if_pos h18] at h
      cases h
    · rw [if_neg h18] at h
      have h18 := Bool.eq_false_iff.2 h18
      by_cases h19 : (((List.length x15 : Nat) : Int) != ((List.length x6 : Nat) : Int)) = true
      · rw [if_pos h19] at h
        cases h
      · rw [if_neg h19] at h
        have h19 := Bool.eq_false_iff.2 h19
        by_cases h20 : (((List.length x17 : Nat) : Int) != ((List.length x6 : Nat) : Int)) = true
        · rw [if_pos h20] at h
          cases h
        · rw [if_neg h20] at h
          have h20 := Bool.eq_false_iff.2 h20
          obtain ⟨x19, h21, h⟩ := bind_some h
          have ch21 := f48_ok F x5 (-1) _ h21
          try dsimp only at h
          obtain ⟨x20, h22, h⟩ := bind_some h
          have ch22 := f48_ok F (List.drop 0 (List.take (0 + (List.length (x14 ++ ([(List.drop 0 (List.take (0 + (List.length x12)) x12))] : List (List Int))))) (x14 ++ ([(List.drop 0 (List.take (0 + (List.length x12)) x12))] : List (List Int))))) (-1) _ h22
          try dsimp only at h
          by_cases h23 : (decide (x19 > x20)) = true
          · rw [if_pos h23] at h
            cases h
          · rw [if_neg h23] at h
            have h23 := Bool.eq_false_iff.2 h23
            obtain ⟨rh28, h28, h⟩ := bind_some h
            have ch28 := f13_p6_ok F x5 x15 x17 x6 F 0 _ h28
            cases rh28 with
            | c0 =>
              try dsimp only at h
              cases h
            | c1 =>
              try dsimp only at h
              obtain ⟨x31, h39, h⟩ := bind_some h
              have ch39 := f13_p11_ok F x5 x15 F 0 ([] : List (List Int)) _ h39
              try dsimp only at h
              obtain ⟨rh40, h40, h⟩ := bind_some h
              have ch40 := f39_ok F (List.drop 0 (List.take (0 + (List.length x31)) x31)) _ h40
              obtain ⟨x32, x33⟩ := rh40
              try dsimp only at h
              obtain ⟨rh41, h41, h⟩ := bind_some h
              have ch41 := f41_ok F (List.drop 0 (List.take (0 + (List.length x31)) x31)) _ h41
              obtain ⟨x34, x35⟩ := rh41
              try dsimp only at h
              obtain ⟨rh42, h42, h⟩ := bind_some h
              have ch42 := f41_ok F x5 _ h42
              obtain ⟨x36, x37⟩ := rh42
              try dsimp only at h
              obtain ⟨rh43, h43, h⟩ := bind_some h
              have ch43 := f17_ok F x5 _ h43
              obtain ⟨x38, x39⟩ := rh43
              try dsimp only at h
              obtain ⟨rh44, h44, h⟩ := bind_some h
              have ch44 := f17_ok F (List.drop 0 (List.take (0 + (List.length x31)) x31)) _ h44
              obtain ⟨x40, x41⟩ := rh44
              try dsimp only at h
              by_cases h45 : (x33 == 0) = true
              · rw [if_pos h45] at h
                by_cases h46 : (x35 == 0) = true
                · rw [if_pos h46] at h
                  by_cases h47 : (x37 == 0) = true
                  · rw [if_pos h47] at h
                    by_cases h48 : (x39 == 0) = true
                    · rw [if_pos h48] at h
                      by_cases h49 : (x41 == 0) = true
                      · rw [if_pos h49] at h
                        obtain ⟨x42, h50, h⟩ := bind_some h
                        have ch50 := f23_ok F x38 x40 _ h50
                        try dsimp only at h
                        by_cases h51 : x42 = true
                        · rw [if_pos h51] at h
                          obtain ⟨x43, h52, h⟩ := bind_some h
                          have ch52 := f58_1m_ok F x15 _ h52
                          try dsimp only at h
                          obtain ⟨h53, h⟩ := req_some h
                          obtain ⟨x44, h54, h⟩ := bind_some h
                          have ch54 := f23_ok F x32 (List.drop 0 (List.take (0 + (List.length (x43 ++ ([0] : List Int)))) (x43 ++ ([0] : List Int)))) _ h54
                          try dsimp only at h
                          by_cases h55 : x44 = true
                          · rw [if_pos h55] at h
                            obtain ⟨x45, h56, h⟩ := bind_some h
                            have ch56 := f58_2m_ok F x36 _ h56
                            try dsimp only at h
                            obtain ⟨h57, h⟩ := req_some h
                            obtain ⟨x46, h58, h⟩ := bind_some h
                            have ch58 := f23_ok F x34 (List.drop 0 (List.take (0 + (List.length (x45 ++ ([0] : List Int)))) (x45 ++ ([0] : List Int)))) _ h58
                            try dsimp only at h
                            by_cases h59 : x46 = true
                            · rw [if_pos h59] at h
                              obtain ⟨x47, h60, h⟩ := bind_some h
                              have ch60 := f16_ok F _ h60
                              try dsimp only at h
                              obtain rfl := Option.some.inj h
                              exact callOK cxOK cxW Try.func13 (by kernel_rfl) (f13_e0 x1 x2 x3 x4 x5 x6 x12 x14 x15 x16 x17 x18 x19 x20 x31 x32 x33 x34 x35 x36 x37 x38 x39 x40 x41 x42 x43 x44 x45 x46 x47) ⟨ch1, ⟨(at?_spec h2).1, x6, (at?_spec h2).2, rfl⟩, ch11, (Nat.le_of_eq (Nat.zero_add _)), ch13, h14, rfl, ch15, (Nat.le_of_eq (Nat.zero_add _)), ch16, h17, h17, h17, h18, h18, h18, h18, h18, h19, h19, h19, h19, h19, h20, h20, ch21, h20, h20, ch22, h20, h20, h23, ch28, ch39, (Nat.le_of_eq (Nat.zero_add _)), ch40, ch41, ch42, ch43, ch44, h45, h45, h45, h46, h46, h46, h47, h47, h47, h48, h48, h48, h49, h49, h49, ch50, h49, h51, h51, h51, ch52, h51, h51, h53, rfl, h51, ch54, (Nat.le_of_eq (Nat.zero_add _)), h51, h55, h55, h55, ch56, h55, h55, h57, rfl, h55, ch58, (Nat.le_of_eq (Nat.zero_add _)), h55, h59, ch60, h59, trivial⟩
                            · rw [if_neg h59] at h
                              have h59 := Bool.eq_false_iff.2 h59
                              cases h
                          · rw [if_neg h55] at h
                            have h55 := Bool.eq_false_iff.2 h55
                            cases h
                        · rw [if_neg h51] at h
                          have h51 := Bool.eq_false_iff.2 h51
                          cases h
                      · rw [if_neg h49] at h
                        have h49 := Bool.eq_false_iff.2 h49
                        cases h
                    · rw [if_neg h48] at h
                      have h48 := Bool.eq_false_iff.2 h48
                      cases h
                  · rw [if_neg h47] at h
                    have h47 := Bool.eq_false_iff.2 h47
                    cases h
                · rw [if_neg h46] at h
                  have h46 := Bool.eq_false_iff.2 h46
                  cases h
              · rw [if_neg h45] at h
                have h45 := Bool.eq_false_iff.2 h45
                cases h

end Go.Gh.Sale
