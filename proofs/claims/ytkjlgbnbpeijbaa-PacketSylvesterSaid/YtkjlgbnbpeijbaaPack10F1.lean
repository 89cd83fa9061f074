/- Pack10F1: printed by wip/tool/gx.py -/
import Derived.Test.YtkjlgbnbpeijbaaPack10F0
namespace Go.Gh.Pack
set_option linter.unusedVariables false
set_option linter.unusedSimpArgs false
open Go.Proofs

theorem f10_p0_ok (F : Nat) (x1 x2 : Int) (r : Int) (h : f10_p0 F x1 x2 = some r) : f10_p0_P x1 x2 r := by
  unfold f10_p0 at h
  by_cases h1 : ((w64 (1 + (Int.tmod (w64 (x1)) 30))) == (w64 (1 + (Int.tmod (w64 (x2)) 30)))) = true
  · rw [if_pos h1] at h
    obtain rfl := Option.some.inj h
    exact gRun_ok cxOK (f10_p0_e0 x1 x2) ⟨h1, (by decide), trivial⟩
  · rw [if_neg h1] at h
    have h1 := Bool.eq_false_iff.2 h1
    obtain rfl := Option.some.inj h
    exact gRun_ok cxOK (f10_p0_e1 x1 x2) ⟨h1, trivial⟩
theorem f10_p6_1_ok (F : Nat) (x3 x1 : Int) (x4 x5 : List Int) (x6 x7 x8 : Int) (x9 : Bool) (x10 : Int) (x13 : List Bool) (x16 : List Int) (x17 : Int) (x18 : Bool) (r : (List Int)) (h : f10_p6_1 F x3 x1 x4 x5 x6 x7 x8 x9 x10 x13 x16 x17 x18 = some r) : f10_p6_1_P x3 x1 x4 x5 x6 x7 x8 x9 x10 x13 x16 x17 x18 r := by
  unfold f10_p6_1 at h
  by_cases h22 : x18 = true
  · rw [if_pos h22] at h
    obtain rfl := Option.some.inj h
    exact gRun_ok cxOK (f10_p6_1_e0 x1 x3 x4 x5 x6 x7 x8 x9 x10 x13 x16 x17 x18) ⟨(by rw [h22]; rfl), trivial⟩
  · rw [if_neg h22] at h
    have h22 := Bool.eq_false_iff.2 h22
    obtain ⟨h23, h⟩ := req_some h
    obtain rfl := Option.some.inj h
    exact gRun_ok cxOK (f10_p6_1_e1 x1 x3 x4 x5 x6 x7 x8 x9 x10 x13 x16 x17 x18) ⟨(by rw [h22]; rfl), h23, rfl, trivial⟩
theorem f10_p3_ok (F : Nat) (x3 x1 : Int) (x4 x5 : List Int) (x6 x7 x8 : Int) (x9 : Bool) (x10 : Int) (x13 : List Bool) : ∀ (k : Nat) (x17 : Int) (x16 : List Int) (r : (List Int)), f10_p3 F x3 x1 x4 x5 x6 x7 x8 x9 x10 x13 k x17 x16 = some r → f10_p3_P x3 x1 x4 x5 x6 x7 x8 x9 x10 x13 x17 x16 r
  | 0, _, _, _, h => by cases h
  | k + 1, x17, x16, r, h => by
    unfold f10_p3 at h
    by_cases h20 : (decide (x17 < ((List.length x13 : Nat) : Int))) = true
    · rw [if_pos h20] at h
      obtain ⟨x18, h21, h⟩ := bind_some h
      try dsimp only at h
      obtain ⟨rh24, h24, h⟩ := bind_some h
      have ch24 := f10_p6_1_ok F x3 x1 x4 x5 x6 x7 x8 x9 x10 x13 x16 x17 x18 _ h24
      obtain ⟨x19, rfl⟩ : ∃ z, z = rh24 := ⟨_, rfl⟩
      try dsimp only at h
      exact Lp.again (gRun_ok cxOK (f10_p3_e0 x1 x3 x4 x5 x6 x7 x8 x9 x10 x13 x16 x17 x18 x19) ⟨h20, ⟨(at?_spec h21).1, x18, (at?_spec h21).2, rfl⟩, ch24, trivial⟩) (f10_p3_ok F x3 x1 x4 x5 x6 x7 x8 x9 x10 x13 k (w64 (x17 + 1)) x19 r h)
    · rw [if_neg h20] at h
      have h20 := Bool.eq_false_iff.2 h20
      obtain rfl := Option.some.inj h
      exact Lp.out (gRun_ok cxOK (f10_p3_e1 x1 x3 x4 x5 x6 x7 x8 x9 x10 x13 x16 x17) ⟨h20, trivial⟩) (by intro hh; cases hh)
theorem f10_p11_ok (F : Nat) (x4 : List Int) (x13 : List Bool) (x3 x1 : Int) : ∀ (k : Nat) (x24 : Int) (r : f10_p11_R), f10_p11 F x4 x13 x3 x1 k x24 = some r → f10_p11_P x4 x13 x3 x1 x24 r
  | 0, _, _, h => by cases h
  | k + 1, x24, r, h => by
    unfold f10_p11 at h
    by_cases h41 : (decide (x24 ≤ (w64 ((w64 ((w64 ((if x3 < (w64 (1 + (Int.tmod (w64 (x1)) 30))) then x3 else (w64 (1 + (Int.tmod (w64 (x1)) 30)))) * (if x3 > (w64 (1 + (Int.tmod (w64 (x1)) 30))) then x3 else (w64 (1 + (Int.tmod (w64 (x1)) 30)))))) - (if x3 < (w64 (1 + (Int.tmod (w64 (x1)) 30))) then x3 else (w64 (1 + (Int.tmod (w64 (x1)) 30)))))) - (if x3 > (w64 (1 + (Int.tmod (w64 (x1)) 30))) then x3 else (w64 (1 + (Int.tmod (w64 (x1)) 30)))))))) = true
    · rw [if_pos h41] at h
      obtain ⟨rh42, h42, h⟩ := bind_some h
      have ch42 := f17_ok F x4 x24 _ h42
      obtain ⟨x25, x26⟩ := rh42
      try dsimp only at h
      obtain ⟨rh43, h43, h⟩ := bind_some h
      have ch43 := f17_ok F x4 (w64 ((w64 ((w64 ((w64 ((if x3 < (w64 (1 + (Int.tmod (w64 (x1)) 30))) then x3 else (w64 (1 + (Int.tmod (w64 (x1)) 30)))) * (if x3 > (w64 (1 + (Int.tmod (w64 (x1)) 30))) then x3 else (w64 (1 + (Int.tmod (w64 (x1)) 30)))))) - (if x3 < (w64 (1 + (Int.tmod (w64 (x1)) 30))) then x3 else (w64 (1 + (Int.tmod (w64 (x1)) 30)))))) - (if x3 > (w64 (1 + (Int.tmod (w64 (x1)) 30))) then x3 else (w64 (1 + (Int.tmod (w64 (x1)) 30)))))) - x24)) _ h43
      obtain ⟨x27, x28⟩ := rh43
      try dsimp only at h
      by_cases h44 : (x26 != 0) = true
      · rw [if_pos h44] at h
        obtain rfl := Option.some.inj h
        exact Lp.out (gRun_ok cxOK (f10_p11_e0 x1 x3 x4 x13 x24 x25 x26 x27 x28) ⟨h41, ch42, ch43, h44, h44, h44, rfl, rfl, rfl, rfl, rfl, rfl, rfl, rfl, rfl, rfl, rfl, rfl, trivial⟩) (by intro hh; cases hh)
      · rw [if_neg h44] at h
        have h44 := Bool.eq_false_iff.2 h44
        by_cases h45 : (x28 != 0) = true
        · rw [if_pos h45] at h
          obtain rfl := Option.some.inj h
          exact Lp.out (gRun_ok cxOK (f10_p11_e1 x1 x3 x4 x13 x24 x25 x26 x27 x28) ⟨h41, ch42, ch43, h44, h44, h44, h45, h45, h45, h45, rfl, rfl, rfl, rfl, rfl, rfl, rfl, rfl, trivial⟩) (by intro hh; cases hh)
        · rw [if_neg h45] at h
          have h45 := Bool.eq_false_iff.2 h45
          by_cases h46 : (x25 == x27) = true
          · rw [if_pos h46] at h
            obtain rfl := Option.some.inj h
            exact Lp.out (gRun_ok cxOK (f10_p11_e2 x1 x3 x4 x13 x24 x25 x26 x27 x28) ⟨h41, ch42, ch43, h44, h44, h44, h45, h45, h45, h45, h46, h46, h46, h46, h46, h46, h46, rfl, trivial⟩) (by intro hh; cases hh)
          · rw [if_neg h46] at h
            have h46 := Bool.eq_false_iff.2 h46
            obtain ⟨x29, h47, h⟩ := bind_some h
            try dsimp only at h
            by_cases h48 : (x25 == x29) = true
            · rw [if_pos h48] at h
              exact Lp.again (gRun_ok cxOK (f10_p11_e3 x1 x3 x4 x13 x24 x25 x26 x27 x28 x29) ⟨h41, ch42, ch43, h44, h44, h44, h45, h45, h45, h45, h46, h46, h46, h46, ⟨(at?_spec h47).1, x29, (at?_spec h47).2, rfl⟩, h46, h46, h46, (by rw [h48]; rfl), trivial⟩) (f10_p11_ok F x4 x13 x3 x1 k (w64 (x24 + 1)) r h)
            · rw [if_neg h48] at h
              have h48 := Bool.eq_false_iff.2 h48
              obtain rfl := Option.some.inj h
              exact Lp.out (gRun_ok cxOK (f10_p11_e4 x1 x3 x4 x13 x24 x25 x26 x27 x28 x29) ⟨h41, ch42, ch43, h44, h44, h44, h45, h45, h45, h45, h46, h46, h46, h46, ⟨(at?_spec h47).1, x29, (at?_spec h47).2, rfl⟩, h46, h46, h46, (by rw [h48]; rfl), trivial⟩) (by intro hh; cases hh)
    · rw [if_neg h41] at h
      have h41 := Bool.eq_false_iff.2 h41
      obtain rfl := Option.some.inj h
      exact Lp.out (gRun_ok cxOK (f10_p11_e5 x1 x3 x4 x13 x24) ⟨h41, trivial⟩) (by intro hh; cases hh)
theorem f10_ok (F : Nat) (x1 x2 : Int) (r : Bool) (h : f10 F x1 x2 = some r) : f10_C x1 x2 r := by
  unfold f10 at h
  obtain ⟨rh2, h2, h⟩ := bind_some h
  have ch2 := f10_p0_ok F x1 x2 _ h2
  obtain ⟨x3, rfl⟩ : ∃ z, z = rh2 := ⟨_, rfl⟩
  try dsimp only at h
  obtain ⟨rh3, h3, h⟩ := bind_some h
  have ch3 := f52_ok F ([(if x3 < (w64 (1 + (Int.tmod (w64 (x1)) 30))) then x3 else (w64 (1 + (Int.tmod (w64 (x1)) 30)))), (if x3 > (w64 (1 + (Int.tmod (w64 (x1)) 30))) then x3 else (w64 (1 + (Int.tmod (w64 (x1)) 30))))] : List Int) _ h3
  obtain ⟨x4, rfl⟩ : ∃ z, z = rh3 := ⟨_, rfl⟩
  try dsimp only at h
  obtain ⟨rh4, h4, h⟩ := bind_some h
  have ch4 := f28_ok F x4 _ h4
  obtain ⟨x5, x6⟩ := rh4
  try dsimp only at h
  obtain ⟨rh5, h5, h⟩ := bind_some h
  have ch5 := f30_ok F x4 _ h5
  obtain ⟨x7, x8⟩ := rh5
  try dsimp only at h
  obtain ⟨rh6, h6, h⟩ := bind_some h
  have ch6 := f32_ok F x4 _ h6
  obtain ⟨x9, x10⟩ := rh6
  try dsimp only at h
  obtain ⟨rh7, h7, h⟩ := bind_some h
  have ch7 := f53_ok F x4 _ h7
  obtain ⟨x11, rfl⟩ : ∃ z, z = rh7 := ⟨_, rfl⟩
  try dsimp only at h
  by_cases h8 : x11 = true
  · rw [if_pos h8] at h
    by_cases h9 : (x6 == 15) = true
    · rw [if_pos h9] at h
      by_cases h10 : (x8 == 15) = true
      · rw [if_pos h10] at h
        by_cases h11 : (x10 == 15) = true
        · rw [if_pos h11] at h
          by_cases h12 : (((List.length x5 : Nat) : Int) == 0) = true
          · rw [if_pos h12] at h
            obtain ⟨rh13, h13, h⟩ := bind_some h
            have ch13 := f16_ok F _ h13
            obtain ⟨x12, rfl⟩ : ∃ z, z = rh13 := ⟨_, rfl⟩
            try dsimp only at h
            obtain rfl := Option.some.inj h
            exact callOK cxOK cxW Try.func10 (by kernel_rfl) (f10_e0 x1 x2 x3 x4 x5 x6 x7 x8 x9 x10 x11 x12) ⟨(by decide), (by decide), ch2, ch3, ch4, ch5, ch6, ch7, h8, h9, h9, h9, h10, h10, h10, h11, h11, h11, h11, h12, ch13, h12, trivial⟩
          · rw [if_neg h12] at h
            have h12 := Bool.eq_false_iff.2 h12
            cases h
        · rw [if_neg h11] at h
          have h11 := Bool.eq_false_iff.2 h11
          cases h
      · rw [if_neg h10] at h
        have h10 := Bool.eq_false_iff.2 h10
        cases h
    · rw [if_neg h9] at h
      have h9 := Bool.eq_false_iff.2 h9
      cases h
  · rw [if_neg h8] at h
    have h8 := Bool.eq_false_iff.2 h8
    obtain ⟨rh14, h14, h⟩ := bind_some h
    have ch14 := f54_ok F x4 900 _ h14
    obtain ⟨x13, rfl⟩ : ∃ z, z = rh14 := ⟨_, rfl⟩
    try dsimp only at h
    obtain ⟨rh25, h25, h⟩ := bind_some h
    have ch25 := f10_p3_ok F x3 x1 x4 x5 x6 x7 x8 x9 x10 x13 F 0 ([] : List Int) _ h25
    obtain ⟨x20, rfl⟩ : ∃ z, z = rh25 := ⟨_, rfl⟩
    try dsimp only at h
    by_cases h26 : (x6 != 0) = true
    · rw [if_pos h26] at h
      cases h
    · rw [if_neg h26] at h
      have h26 := Bool.eq_false_iff.2 h26
      by_cases h27 : (x10 != 0) = true
      · rw [if_pos h27] at h
        cases h
      · rw [if_neg h27] at h
        have h27 := Bool.eq_false_iff.2 h27
        obtain ⟨rh28, h28, h⟩ := bind_some h
        have ch28 := f23_ok F x5 (List.drop 0 (List.take (0 + (List.length x20)) x20)) _ h28
        obtain ⟨x21, rfl⟩ : ∃ z, z = rh28 := ⟨_, rfl⟩
        try dsimp only at h
        by_cases h29 : x21 = true
        · rw [if_pos h29] at h
          by_cases h30 : ((w64 (2 * (((List.length x20) : Nat) : Int))) != (w64 ((w64 ((if x3 < (w64 (1 + (Int.tmod (w64 (x1)) 30))) then x3 else (w64 (1 + (Int.tmod (w64 (x1)) 30)))) - 1)) * (w64 ((if x3 > (w64 (1 + (Int.tmod (w64 (x1)) 30))) then x3 else (w64 (1 + (Int.tmod (w64 (x1)) 30)))) - 1))))) = true
          · rw [if_pos h30] at h
            cases h
          · rw [if_neg h30] at h
            have h30 := Bool.eq_false_iff.2 h30
            by_cases h31 : x9 = true
            · rw [if_pos h31] at h
              by_cases h32 : ((((List.length x20) : Nat) : Int) == 0) = true
              · rw [if_pos h32] at h
                by_cases h33 : (x8 == 12) = true
                · rw [if_pos h33] at h
                  by_cases h34 : (decide ((w64 ((w64 ((w64 ((if x3 < (w64 (1 + (Int.tmod (w64 (x1)) 30))) then x3 else (w64 (1 + (Int.tmod (w64 (x1)) 30)))) * (if x3 > (w64 (1 + (Int.tmod (w64 (x1)) 30))) then x3 else (w64 (1 + (Int.tmod (w64 (x1)) 30)))))) - (if x3 < (w64 (1 + (Int.tmod (w64 (x1)) 30))) then x3 else (w64 (1 + (Int.tmod (w64 (x1)) 30)))))) - (if x3 > (w64 (1 + (Int.tmod (w64 (x1)) 30))) then x3 else (w64 (1 + (Int.tmod (w64 (x1)) 30)))))) < 0)) = true
                  · rw [if_pos h34] at h
                    obtain ⟨rh35, h35, h⟩ := bind_some h
                    have ch35 := f16_ok F _ h35
                    obtain ⟨x22, rfl⟩ : ∃ z, z = rh35 := ⟨_, rfl⟩
                    try dsimp only at h
                    obtain rfl := Option.some.inj h
                    exact callOK cxOK cxW Try.func10 (by kernel_rfl) (f10_e1 x1 x2 x3 x4 x5 x6 x7 x8 x9 x10 x11 x13 x20 x21 x22) ⟨(by decide), (by decide), ch2, ch3, ch4, ch5, ch6, ch7, h8, ch14, ch25, h26, h26, h26, h27, h27, h27, ch28, (Nat.le_of_eq (Nat.zero_add _)), h27, h27, (by rw [h29]; rfl), (by rw [h29]; rfl), (by rw [h29]; rfl), (by rw [h29]; rfl), (by rw [h29]; rfl), (by rw [h29]; rfl), (by rw [h29]; rfl), (by rw [h29]; rfl), (by rw [h29]; rfl), (by rw [h29]; rfl), h30, h30, h30, (by rw [h31]; rfl), h32, h33, h33, h33, h34, ch35, h34, trivial⟩
                  · rw [if_neg h34] at h
                    have h34 := Bool.eq_false_iff.2 h34
                    cases h
                · rw [if_neg h33] at h
                  have h33 := Bool.eq_false_iff.2 h33
                  cases h
              · rw [if_neg h32] at h
                have h32 := Bool.eq_false_iff.2 h32
                by_cases h36 : (x8 != 0) = true
                · rw [if_pos h36] at h
                  cases h
                · rw [if_neg h36] at h
                  have h36 := Bool.eq_false_iff.2 h36
                  by_cases h37 : (x7 != (w64 ((w64 ((w64 ((if x3 < (w64 (1 + (Int.tmod (w64 (x1)) 30))) then x3 else (w64 (1 + (Int.tmod (w64 (x1)) 30)))) * (if x3 > (w64 (1 + (Int.tmod (w64 (x1)) 30))) then x3 else (w64 (1 + (Int.tmod (w64 (x1)) 30)))))) - (if x3 < (w64 (1 + (Int.tmod (w64 (x1)) 30))) then x3 else (w64 (1 + (Int.tmod (w64 (x1)) 30)))))) - (if x3 > (w64 (1 + (Int.tmod (w64 (x1)) 30))) then x3 else (w64 (1 + (Int.tmod (w64 (x1)) 30))))))) = true
                  · rw [if_pos h37] at h
                    cases h
                  · rw [if_neg h37] at h
                    have h37 := Bool.eq_false_iff.2 h37
                    obtain ⟨h38, h⟩ := req_some h
                    obtain ⟨x23, h39, h⟩ := bind_some h
                    try dsimp only at h
                    by_cases h40 : (x23 != (w64 ((w64 ((w64 ((if x3 < (w64 (1 + (Int.tmod (w64 (x1)) 30))) then x3 else (w64 (1 + (Int.tmod (w64 (x1)) 30)))) * (if x3 > (w64 (1 + (Int.tmod (w64 (x1)) 30))) then x3 else (w64 (1 + (Int.tmod (w64 (x1)) 30)))))) - (if x3 < (w64 (1 + (Int.tmod (w64 (x1)) 30))) then x3 else (w64 (1 + (Int.tmod (w64 (x1)) 30)))))) - (if x3 > (w64 (1 + (Int.tmod (w64 (x1)) 30))) then x3 else (w64 (1 + (Int.tmod (w64 (x1)) 30))))))) = true
                    · rw [if_pos h40] at h
                      cases h
                    · rw [if_neg h40] at h
                      have h40 := Bool.eq_false_iff.2 h40
                      obtain ⟨rh49, h49, h⟩ := bind_some h
                      have ch49 := f10_p11_ok F x4 x13 x3 x1 F 0 _ h49
                      cases rh49 with
                      | c0 =>
                        try dsimp only at h
                        cases h
                      | c1 =>
                        try dsimp only at h
                        obtain ⟨rh50, h50, h⟩ := bind_some h
                        have ch50 := f16_ok F _ h50
                        obtain ⟨x30, rfl⟩ : ∃ z, z = rh50 := ⟨_, rfl⟩
                        try dsimp only at h
                        obtain rfl := Option.some.inj h
                        exact callOK cxOK cxW Try.func10 (by kernel_rfl) (f10_e2 x1 x2 x3 x4 x5 x6 x7 x8 x9 x10 x11 x13 x20 x21 x23 x30) ⟨(by decide), (by decide), ch2, ch3, ch4, ch5, ch6, ch7, h8, ch14, ch25, h26, h26, h26, h27, h27, h27, ch28, (Nat.le_of_eq (Nat.zero_add _)), h27, h27, (by rw [h29]; rfl), (by rw [h29]; rfl), (by rw [h29]; rfl), (by rw [h29]; rfl), (by rw [h29]; rfl), (by rw [h29]; rfl), (by rw [h29]; rfl), (by rw [h29]; rfl), (by rw [h29]; rfl), (by rw [h29]; rfl), h30, h30, h30, (by rw [h31]; rfl), h32, h36, h36, h36, h36, h37, h37, h37, h37, h37, h38, h37, ⟨x23, h39, rfl⟩, h37, h37, h37, h40, ch49, ch50, trivial⟩
            · rw [if_neg h31] at h
              have h31 := Bool.eq_false_iff.2 h31
              cases h
        · rw [if_neg h29] at h
          have h29 := Bool.eq_false_iff.2 h29
          cases h

end Go.Gh.Pack
