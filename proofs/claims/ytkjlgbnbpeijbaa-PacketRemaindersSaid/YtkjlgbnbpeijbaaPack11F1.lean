/- Pack11F1: printed by wip/tool/gx.py -/
import Derived.Test.YtkjlgbnbpeijbaaPack11F0
namespace Go.Gh.Pack
set_option linter.unusedVariables false
set_option linter.unusedSimpArgs false
open Go.Proofs

theorem f11_p9_ok (F : Nat) (x6 : List Int) (x5 x8 : Int) (x11 : List Bool) (x12 x13 : Int) (x14 : Bool) (x16 x17 x18 : Int) (x9 : List Int) (x15 : Int) (x19 : Bool) (r : Int) (h : f11_p9 F x6 x5 x8 x11 x12 x13 x14 x16 x17 x18 x9 x15 x19 = some r) : f11_p9_P x6 x5 x8 x11 x12 x13 x14 x16 x17 x18 x9 x15 x19 r := by
  unfold f11_p9 at h
  by_cases h13 : x19 = true
  · rw [if_pos h13] at h
    obtain rfl := Option.some.inj h
    exact gRun_ok cxOK (f11_p9_e0 x5 x6 x8 x9 x11 x12 x13 x14 x15 x16 x17 x18 x19) ⟨h13, trivial⟩
  · rw [if_neg h13] at h
    have h13 := Bool.eq_false_iff.2 h13
    obtain rfl := Option.some.inj h
    exact gRun_ok cxOK (f11_p9_e1 x5 x6 x8 x9 x11 x12 x13 x14 x15 x16 x17 x18 x19) ⟨h13, trivial⟩
theorem f11_p6_ok (F : Nat) (x6 : List Int) (x5 x8 : Int) (x11 : List Bool) (x12 x13 : Int) (x14 : Bool) (x16 : Int) (x9 : List Int) (x15 : Int) : ∀ (k : Nat) (x17 x18 : Int) (r : Int), f11_p6 F x6 x5 x8 x11 x12 x13 x14 x16 x9 x15 k x17 x18 = some r → f11_p6_P x6 x5 x8 x11 x12 x13 x14 x16 x9 x15 x17 x18 r
  | 0, _, _, _, h => by cases h
  | k + 1, x17, x18, r, h => by
    unfold f11_p6 at h
    by_cases h10 : (decide (x18 < ((List.length x11 : Nat) : Int))) = true
    · rw [if_pos h10] at h
      by_cases h11 : (decide (x17 < 0)) = true
      · rw [if_pos h11] at h
        obtain ⟨x19, h12, h⟩ := bind_some h
        try dsimp only at h
        obtain ⟨rh14, h14, h⟩ := bind_some h
        have ch14 := f11_p9_ok F x6 x5 x8 x11 x12 x13 x14 x16 x17 x18 x9 x15 x19 _ h14
        obtain ⟨x20, rfl⟩ : ∃ z, z = rh14 := ⟨_, rfl⟩
        try dsimp only at h
        exact Lp.again (gRun_ok cxOK (f11_p6_e0 x5 x6 x8 x9 x11 x12 x13 x14 x15 x16 x17 x18 x19 x20) ⟨h10, h10, h10, h11, ⟨(at?_spec h12).1, x19, (at?_spec h12).2, rfl⟩, ch14, trivial⟩) (f11_p6_ok F x6 x5 x8 x11 x12 x13 x14 x16 x9 x15 k x20 (w64 (x18 + x8)) r h)
      · rw [if_neg h11] at h
        have h11 := Bool.eq_false_iff.2 h11
        obtain rfl := Option.some.inj h
        exact Lp.out (gRun_ok cxOK (f11_p6_e1 x5 x6 x8 x9 x11 x12 x13 x14 x15 x16 x17 x18) ⟨h10, h10, h10, h11, trivial⟩) (by intro hh; cases hh)
    · rw [if_neg h10] at h
      have h10 := Bool.eq_false_iff.2 h10
      obtain rfl := Option.some.inj h
      exact Lp.out (gRun_ok cxOK (f11_p6_e2 x5 x6 x8 x9 x11 x12 x13 x14 x15 x16 x17 x18) ⟨h10, h10, h10, rfl, trivial⟩) (by intro hh; cases hh)
theorem f11_p2_ok (F : Nat) (x6 : List Int) (x5 x8 : Int) (x11 : List Bool) (x9 : List Int) : ∀ (k : Nat) (x12 x13 : Int) (x14 : Bool) (x15 : Int) (r : f11_p2_R), f11_p2 F x6 x5 x8 x11 x9 k x12 x13 x14 x15 = some r → f11_p2_P x6 x5 x8 x11 x9 x12 x13 x14 x15 r
  | 0, _, _, _, _, _, h => by cases h
  | k + 1, x12, x13, x14, x15, r, h => by
    unfold f11_p2 at h
    by_cases h8 : (decide (x15 < ((List.length x9 : Nat) : Int))) = true
    · rw [if_pos h8] at h
      obtain ⟨x16, h9, h⟩ := bind_some h
      try dsimp only at h
      obtain ⟨rh15, h15, h⟩ := bind_some h
      have ch15 := f11_p6_ok F x6 x5 x8 x11 x12 x13 x14 x16 x9 x15 F (-1) x15 _ h15
      obtain ⟨x21, rfl⟩ : ∃ z, z = rh15 := ⟨_, rfl⟩
      try dsimp only at h
      by_cases h16 : (x16 != x21) = true
      · rw [if_pos h16] at h
        obtain rfl := Option.some.inj h
        exact Lp.out (gRun_ok cxOK (f11_p2_e0 x5 x6 x8 x9 x11 x12 x13 x14 x15 x16 x21) ⟨h8, ⟨(at?_spec h9).1, x16, (at?_spec h9).2, rfl⟩, ch15, h16, trivial⟩) (by intro hh; cases hh)
      · rw [if_neg h16] at h
        have h16 := Bool.eq_false_iff.2 h16
        by_cases h17 : x14 = true
        · rw [if_pos h17] at h
          exact Lp.again (gRun_ok cxOK (f11_p2_e1 x5 x6 x8 x9 x11 x12 x13 x14 x15 x16 x21) ⟨h8, ⟨(at?_spec h9).1, x16, (at?_spec h9).2, rfl⟩, ch15, h16, h17, h17, h17, trivial⟩) (f11_p2_ok F x6 x5 x8 x11 x9 k (w64 (x12 + x16)) (if (w64 (x16 - x8)) > x13 then (w64 (x16 - x8)) else x13) (decide (x16 ≥ 0)) (w64 (x15 + 1)) r h)
        · rw [if_neg h17] at h
          have h17 := Bool.eq_false_iff.2 h17
          exact Lp.again (gRun_ok cxOK (f11_p2_e2 x5 x6 x8 x9 x11 x12 x13 x14 x15 x16 x21) ⟨h8, ⟨(at?_spec h9).1, x16, (at?_spec h9).2, rfl⟩, ch15, h16, h17, h17, h17, trivial⟩) (f11_p2_ok F x6 x5 x8 x11 x9 k (w64 (x12 + x16)) (if (w64 (x16 - x8)) > x13 then (w64 (x16 - x8)) else x13) false (w64 (x15 + 1)) r h)
    · rw [if_neg h8] at h
      have h8 := Bool.eq_false_iff.2 h8
      obtain rfl := Option.some.inj h
      exact Lp.out (gRun_ok cxOK (f11_p2_e3 x5 x6 x8 x9 x11 x12 x13 x14 x15) ⟨h8, trivial⟩) (by intro hh; cases hh)
theorem f11_p18_ok (F : Nat) (x6 : List Int) (x5 x8 : Int) (x11 : List Bool) (x22 x23 : Int) (x24 : Bool) (x27 x28 : Int) (x29 x32 x33 : Int) (x34 : Bool) (r : Int) (h : f11_p18 F x6 x5 x8 x11 x22 x23 x24 x27 x28 x29 x32 x33 x34 = some r) : f11_p18_P x6 x5 x8 x11 x22 x23 x24 x27 x28 x29 x32 x33 x34 r := by
  unfold f11_p18 at h
  by_cases h33 : x34 = true
  · rw [if_pos h33] at h
    obtain rfl := Option.some.inj h
    exact gRun_ok cxOK (f11_p18_e0 x5 x6 x8 x11 x22 x23 x24 x27 x28 x29 x32 x33 x34) ⟨h33, trivial⟩
  · rw [if_neg h33] at h
    have h33 := Bool.eq_false_iff.2 h33
    obtain rfl := Option.some.inj h
    exact gRun_ok cxOK (f11_p18_e1 x5 x6 x8 x11 x22 x23 x24 x27 x28 x29 x32 x33 x34) ⟨h33, trivial⟩
theorem f11_p15_ok (F : Nat) (x6 : List Int) (x5 x8 : Int) (x11 : List Bool) (x22 x23 : Int) (x24 : Bool) (x27 x28 x29 : Int) : ∀ (k : Nat) (x32 x33 : Int) (r : Int), f11_p15 F x6 x5 x8 x11 x22 x23 x24 x27 x28 x29 k x32 x33 = some r → f11_p15_P x6 x5 x8 x11 x22 x23 x24 x27 x28 x29 x32 x33 r
  | 0, _, _, _, h => by cases h
  | k + 1, x32, x33, r, h => by
    unfold f11_p15 at h
    by_cases h30 : (decide (x33 < ((List.length x11 : Nat) : Int))) = true
    · rw [if_pos h30] at h
      by_cases h31 : (decide (x32 < 0)) = true
      · rw [if_pos h31] at h
        obtain ⟨x34, h32, h⟩ := bind_some h
        try dsimp only at h
        obtain ⟨rh34, h34, h⟩ := bind_some h
        have ch34 := f11_p18_ok F x6 x5 x8 x11 x22 x23 x24 x27 x28 x29 x32 x33 x34 _ h34
        obtain ⟨x35, rfl⟩ : ∃ z, z = rh34 := ⟨_, rfl⟩
        try dsimp only at h
        obtain ⟨x36, h35, h⟩ := bind_some h
        try dsimp only at h
        exact Lp.again (gRun_ok cxOK (f11_p15_e0 x5 x6 x8 x11 x22 x23 x24 x27 x28 x29 x32 x33 x34 x35 x36) ⟨h30, h30, h30, h31, ⟨(at?_spec h32).1, x34, (at?_spec h32).2, rfl⟩, ch34, ⟨(at?_spec h35).1, x36, (at?_spec h35).2, rfl⟩, trivial⟩) (f11_p15_ok F x6 x5 x8 x11 x22 x23 x24 x27 x28 x29 k x35 (w64 (x33 + x36)) r h)
      · rw [if_neg h31] at h
        have h31 := Bool.eq_false_iff.2 h31
        obtain rfl := Option.some.inj h
        exact Lp.out (gRun_ok cxOK (f11_p15_e1 x5 x6 x8 x11 x22 x23 x24 x27 x28 x29 x32 x33) ⟨h30, h30, h30, h31, trivial⟩) (by intro hh; cases hh)
    · rw [if_neg h30] at h
      have h30 := Bool.eq_false_iff.2 h30
      obtain rfl := Option.some.inj h
      exact Lp.out (gRun_ok cxOK (f11_p15_e2 x5 x6 x8 x11 x22 x23 x24 x27 x28 x29 x32 x33) ⟨h30, h30, h30, rfl, trivial⟩) (by intro hh; cases hh)
theorem f11_p12_ok (F : Nat) (x6 : List Int) (x5 x8 : Int) (x11 : List Bool) (x22 x23 : Int) (x24 : Bool) (x27 x28 x29 : Int) (x25 : Bool) (r : f11_p12_R) (h : f11_p12 F x6 x5 x8 x11 x22 x23 x24 x27 x28 x29 x25 = some r) : f11_p12_P x6 x5 x8 x11 x22 x23 x24 x27 x28 x29 x25 r := by
  unfold f11_p12 at h
  by_cases h24 : x25 = true
  · rw [if_pos h24] at h
    by_cases h25 : (x29 != 13) = true
    · rw [if_pos h25] at h
      obtain rfl := Option.some.inj h
      exact gRun_ok cxOK (f11_p12_e0 x5 x6 x8 x11 x22 x23 x24 x25 x27 x28 x29) ⟨h24, h25, h25, h25, rfl, rfl, rfl, rfl, trivial⟩
    · rw [if_neg h25] at h
      have h25 := Bool.eq_false_iff.2 h25
      by_cases h26 : (x27 != 0) = true
      · rw [if_pos h26] at h
        obtain rfl := Option.some.inj h
        exact gRun_ok cxOK (f11_p12_e1 x5 x6 x8 x11 x22 x23 x24 x25 x27 x28 x29) ⟨h24, h25, h25, h25, h26, h26, h26, rfl, trivial⟩
      · rw [if_neg h26] at h
        have h26 := Bool.eq_false_iff.2 h26
        by_cases h27 : (x28 != 0) = true
        · rw [if_pos h27] at h
          obtain rfl := Option.some.inj h
          exact gRun_ok cxOK (f11_p12_e2 x5 x6 x8 x11 x22 x23 x24 x25 x27 x28 x29) ⟨h24, h25, h25, h25, h26, h26, h26, h27, trivial⟩
        · rw [if_neg h27] at h
          have h27 := Bool.eq_false_iff.2 h27
          obtain rfl := Option.some.inj h
          exact gRun_ok cxOK (f11_p12_e3 x5 x6 x8 x11 x22 x23 x24 x25 x27 x28 x29) ⟨h24, h25, h25, h25, h26, h26, h26, h27, trivial⟩
  · rw [if_neg h24] at h
    have h24 := Bool.eq_false_iff.2 h24
    obtain ⟨x31, h28, h⟩ := bind_some h
    try dsimp only at h
    obtain ⟨h29, h⟩ := req_some h
    obtain ⟨rh36, h36, h⟩ := bind_some h
    have ch36 := f11_p15_ok F x6 x5 x8 x11 x22 x23 x24 x27 x28 x29 F (-1) (Int.tmod (Int.tmod (w64 (x5)) 1001) x31) _ h36
    obtain ⟨x37, rfl⟩ : ∃ z, z = rh36 := ⟨_, rfl⟩
    try dsimp only at h
    by_cases h37 : (x29 != 0) = true
    · rw [if_pos h37] at h
      obtain rfl := Option.some.inj h
      exact gRun_ok cxOK (f11_p12_e4 x5 x6 x8 x11 x22 x23 x24 x25 x27 x28 x29 x31 x37) ⟨h24, ⟨(at?_spec h28).1, x31, (at?_spec h28).2, rfl⟩, h29, ch36, h37, h37, h37, h37, h37, h37, h37, h37, rfl, rfl, rfl, rfl, rfl, rfl, rfl, rfl, rfl, rfl, trivial⟩
    · rw [if_neg h37] at h
      have h37 := Bool.eq_false_iff.2 h37
      by_cases h38 : (x27 != (Int.tmod (Int.tmod (w64 (x5)) 1001) x31)) = true
      · rw [if_pos h38] at h
        obtain rfl := Option.some.inj h
        exact gRun_ok cxOK (f11_p12_e5 x5 x6 x8 x11 x22 x23 x24 x25 x27 x28 x29 x31 x37) ⟨h24, ⟨(at?_spec h28).1, x31, (at?_spec h28).2, rfl⟩, h29, ch36, h37, h37, h37, h37, ⟨(at?_spec h28).1, x31, (at?_spec h28).2, rfl⟩, h37, h37, h29, h37, h37, h38, h38, h38, h38, rfl, rfl, rfl, rfl, rfl, rfl, trivial⟩
      · rw [if_neg h38] at h
        have h38 := Bool.eq_false_iff.2 h38
        by_cases h39 : (x28 != x37) = true
        · rw [if_pos h39] at h
          obtain rfl := Option.some.inj h
          exact gRun_ok cxOK (f11_p12_e6 x5 x6 x8 x11 x22 x23 x24 x25 x27 x28 x29 x31 x37) ⟨h24, ⟨(at?_spec h28).1, x31, (at?_spec h28).2, rfl⟩, h29, ch36, h37, h37, h37, h37, ⟨(at?_spec h28).1, x31, (at?_spec h28).2, rfl⟩, h37, h37, h29, h37, h37, h38, h38, h38, h38, h39, h39, h39, h39, h39, rfl, trivial⟩
        · rw [if_neg h39] at h
          have h39 := Bool.eq_false_iff.2 h39
          by_cases h40 : (decide (x37 ≥ 0)) = true
          · rw [if_pos h40] at h
            by_cases h41 : (decide (x37 ≤ (Int.tmod (w64 (x5)) 1001))) = true
            · rw [if_pos h41] at h
              obtain rfl := Option.some.inj h
              exact gRun_ok cxOK (f11_p12_e7 x5 x6 x8 x11 x22 x23 x24 x25 x27 x28 x29 x31 x37) ⟨h24, ⟨(at?_spec h28).1, x31, (at?_spec h28).2, rfl⟩, h29, ch36, h37, h37, h37, h37, ⟨(at?_spec h28).1, x31, (at?_spec h28).2, rfl⟩, h37, h37, h29, h37, h37, h38, h38, h38, h38, h39, h39, h39, h40, h40, h40, h39, h40, h39, h41, trivial⟩
            · rw [if_neg h41] at h
              have h41 := Bool.eq_false_iff.2 h41
              obtain rfl := Option.some.inj h
              exact gRun_ok cxOK (f11_p12_e8 x5 x6 x8 x11 x22 x23 x24 x25 x27 x28 x29 x31 x37) ⟨h24, ⟨(at?_spec h28).1, x31, (at?_spec h28).2, rfl⟩, h29, ch36, h37, h37, h37, h37, ⟨(at?_spec h28).1, x31, (at?_spec h28).2, rfl⟩, h37, h37, h29, h37, h37, h38, h38, h38, h38, h39, h39, h39, h40, h40, h40, h39, h40, h39, h41, trivial⟩
          · rw [if_neg h40] at h
            have h40 := Bool.eq_false_iff.2 h40
            obtain rfl := Option.some.inj h
            exact gRun_ok cxOK (f11_p12_e9 x5 x6 x8 x11 x22 x23 x24 x25 x27 x28 x29 x31 x37) ⟨h24, ⟨(at?_spec h28).1, x31, (at?_spec h28).2, rfl⟩, h29, ch36, h37, h37, h37, h37, ⟨(at?_spec h28).1, x31, (at?_spec h28).2, rfl⟩, h37, h37, h29, h37, h37, h38, h38, h38, h38, h39, h39, h39, h40, h40, h40, h39, h40, h39, rfl, trivial⟩
theorem f11_ok (F : Nat) (x1 x2 : List Int) (x3 x4 x5 : Int) (r : Bool) (h : f11 F x1 x2 x3 x4 x5 = some r) : f11_C x1 x2 x3 x4 x5 r := by
  unfold f11 at h
  obtain ⟨rh1, h1, h⟩ := bind_some h
  have ch1 := f44_ok F x1 x2 x3 30 1 _ h1
  obtain ⟨x6, x7⟩ := rh1
  try dsimp only at h
  obtain ⟨h2, h⟩ := req_some h
  obtain ⟨x8, h3, h⟩ := bind_some h
  try dsimp only at h
  obtain ⟨rh4, h4, h⟩ := bind_some h
  have ch4 := f24_ok F x6 (Int.tmod (w64 (x4)) ((List.length x6 : Nat) : Int)) _ h4
  obtain ⟨x9, x10⟩ := rh4
  try dsimp only at h
  by_cases h5 : (x10 != 0) = true
  · rw [if_pos h5] at h
    cases h
  · rw [if_neg h5] at h
    have h5 := Bool.eq_false_iff.2 h5
    by_cases h6 : (((List.length x9 : Nat) : Int) != x8) = true
    · rw [if_pos h6] at h
      cases h
    · rw [if_neg h6] at h
      have h6 := Bool.eq_false_iff.2 h6
      obtain ⟨rh7, h7, h⟩ := bind_some h
      have ch7 := f54_ok F x6 2000 _ h7
      obtain ⟨x11, rfl⟩ : ∃ z, z = rh7 := ⟨_, rfl⟩
      try dsimp only at h
      obtain ⟨rh18, h18, h⟩ := bind_some h
      have ch18 := f11_p2_ok F x6 x5 x8 x11 x9 F 0 (-1) true 0 _ h18
      cases rh18 with
      | c0 =>
        try dsimp only at h
        cases h
      | c1 x22 x23 x24 =>
        try dsimp only at h
        obtain ⟨rh19, h19, h⟩ := bind_some h
        have ch19 := f17_ok F x6 (Int.tmod (w64 (x5)) 1001) _ h19
        obtain ⟨x25, x26⟩ := rh19
        try dsimp only at h
        obtain ⟨rh20, h20, h⟩ := bind_some h
        have ch20 := f21_ok F x6 (Int.tmod (w64 (x5)) 1001) _ h20
        obtain ⟨x27, x28, x29⟩ := rh20
        try dsimp only at h
        by_cases h21 : (x26 != 0) = true
        · rw [if_pos h21] at h
          cases h
        · rw [if_neg h21] at h
          have h21 := Bool.eq_false_iff.2 h21
          obtain ⟨x30, h22, h⟩ := bind_some h
          try dsimp only at h
          by_cases h23 : (x25 == x30) = true
          · rw [if_pos h23] at h
            obtain ⟨rh42, h42, h⟩ := bind_some h
            have ch42 := f11_p12_ok F x6 x5 x8 x11 x22 x23 x24 x27 x28 x29 x25 _ h42
            cases rh42 with
            | c0 =>
              try dsimp only at h
              cases h
            | c1 =>
              try dsimp only at h
              obtain ⟨rh43, h43, h⟩ := bind_some h
              have ch43 := f28_ok F x6 _ h43
              obtain ⟨x38, x39⟩ := rh43
              try dsimp only at h
              obtain ⟨rh44, h44, h⟩ := bind_some h
              have ch44 := f30_ok F x6 _ h44
              obtain ⟨x40, x41⟩ := rh44
              try dsimp only at h
              obtain ⟨rh45, h45, h⟩ := bind_some h
              have ch45 := f53_ok F x6 _ h45
              obtain ⟨x42, rfl⟩ : ∃ z, z = rh45 := ⟨_, rfl⟩
              try dsimp only at h
              by_cases h46 : (x24 == x42) = true
              · rw [if_pos h46] at h
                cases h
              · rw [if_neg h46] at h
                have h46 := Bool.eq_false_iff.2 h46
                by_cases h47 : x24 = true
                · rw [if_pos h47] at h
                  by_cases h48 : (x39 != 0) = true
                  · rw [if_pos h48] at h
                    cases h
                  · rw [if_neg h48] at h
                    have h48 := Bool.eq_false_iff.2 h48
                    by_cases h49 : ((w64 (x8 * ((List.length x38 : Nat) : Int))) != (w64 (x22 - (w64 (Int.tdiv (w64 (x8 * (w64 (x8 - 1)))) 2))))) = true
                    · rw [if_pos h49] at h
                      cases h
                    · rw [if_neg h49] at h
                      have h49 := Bool.eq_false_iff.2 h49
                      by_cases h50 : (((List.length x38 : Nat) : Int) == 0) = true
                      · rw [if_pos h50] at h
                        by_cases h51 : (x41 == 12) = true
                        · rw [if_pos h51] at h
                          by_cases h52 : (decide (x23 < 1)) = true
                          · rw [if_pos h52] at h
                            obtain ⟨rh53, h53, h⟩ := bind_some h
                            have ch53 := f16_ok F _ h53
                            obtain ⟨x43, rfl⟩ : ∃ z, z = rh53 := ⟨_, rfl⟩
                            try dsimp only at h
                            obtain rfl := Option.some.inj h
                            exact callOK cxOK cxW Try.func11 (by kernel_rfl) (f11_e0 x1 x2 x3 x4 x5 x6 x7 x8 x9 x10 x11 x22 x23 x24 x25 x26 x27 x28 x29 x30 x38 x39 x40 x41 x42 x43) ⟨ch1, h2, (by decide), ⟨(at?_spec h3).1, x8, (at?_spec h3).2, rfl⟩, ch4, h5, h5, h5, h5, h5, h6, ch7, ch18, ch19, ch20, h21, h21, h21, h21, ⟨(at?_spec h22).1, x30, (at?_spec h22).2, rfl⟩, h21, h21, h21, (by rw [h23]; rfl), ch42, ch43, ch44, ch45, h46, (by rw [h47]; rfl), h48, h48, h48, h48, h48, h48, h48, h48, h48, h48, (by decide), h48, h48, h48, h49, h50, h51, h51, h51, h52, ch53, h52, trivial⟩
                          · rw [if_neg h52] at h
                            have h52 := Bool.eq_false_iff.2 h52
                            cases h
                        · rw [if_neg h51] at h
                          have h51 := Bool.eq_false_iff.2 h51
                          cases h
                      · rw [if_neg h50] at h
                        have h50 := Bool.eq_false_iff.2 h50
                        by_cases h54 : (x41 == 0) = true
                        · rw [if_pos h54] at h
                          by_cases h55 : (x40 == x23) = true
                          · rw [if_pos h55] at h
                            by_cases h56 : (decide ((w64 (2 * ((List.length x38 : Nat) : Int))) ≥ (w64 (x40 + 1)))) = true
                            · rw [if_pos h56] at h
                              obtain ⟨rh57, h57, h⟩ := bind_some h
                              have ch57 := f16_ok F _ h57
                              obtain ⟨x44, rfl⟩ : ∃ z, z = rh57 := ⟨_, rfl⟩
                              try dsimp only at h
                              obtain rfl := Option.some.inj h
                              exact callOK cxOK cxW Try.func11 (by kernel_rfl) (f11_e1 x1 x2 x3 x4 x5 x6 x7 x8 x9 x10 x11 x22 x23 x24 x25 x26 x27 x28 x29 x30 x38 x39 x40 x41 x42 x44) ⟨ch1, h2, (by decide), ⟨(at?_spec h3).1, x8, (at?_spec h3).2, rfl⟩, ch4, h5, h5, h5, h5, h5, h6, ch7, ch18, ch19, ch20, h21, h21, h21, h21, ⟨(at?_spec h22).1, x30, (at?_spec h22).2, rfl⟩, h21, h21, h21, (by rw [h23]; rfl), ch42, ch43, ch44, ch45, h46, (by rw [h47]; rfl), h48, h48, h48, h48, h48, h48, h48, h48, h48, h48, (by decide), h48, h48, h48, h49, h50, h54, h54, h54, h54, h55, h55, h55, h55, h55, h55, h55, h56, ch57, h56, trivial⟩
                            · rw [if_neg h56] at h
                              have h56 := Bool.eq_false_iff.2 h56
                              cases h
                          · rw [if_neg h55] at h
                            have h55 := Bool.eq_false_iff.2 h55
                            cases h
                        · rw [if_neg h54] at h
                          have h54 := Bool.eq_false_iff.2 h54
                          cases h
                · rw [if_neg h47] at h
                  have h47 := Bool.eq_false_iff.2 h47
                  by_cases h58 : (x39 == 15) = true
                  · rw [if_pos h58] at h
                    by_cases h59 : (x41 == 15) = true
                    · rw [if_pos h59] at h
                      obtain ⟨rh60, h60, h⟩ := bind_some h
                      have ch60 := f16_ok F _ h60
                      obtain ⟨x45, rfl⟩ : ∃ z, z = rh60 := ⟨_, rfl⟩
                      try dsimp only at h
                      obtain rfl := Option.some.inj h
                      exact callOK cxOK cxW Try.func11 (by kernel_rfl) (f11_e2 x1 x2 x3 x4 x5 x6 x7 x8 x9 x10 x11 x22 x23 x24 x25 x26 x27 x28 x29 x30 x38 x39 x40 x41 x42 x45) ⟨ch1, h2, (by decide), ⟨(at?_spec h3).1, x8, (at?_spec h3).2, rfl⟩, ch4, h5, h5, h5, h5, h5, h6, ch7, ch18, ch19, ch20, h21, h21, h21, h21, ⟨(at?_spec h22).1, x30, (at?_spec h22).2, rfl⟩, h21, h21, h21, (by rw [h23]; rfl), ch42, ch43, ch44, ch45, h46, (by rw [h47]; rfl), h58, h58, h58, h59, ch60, h59, trivial⟩
                    · rw [if_neg h59] at h
                      have h59 := Bool.eq_false_iff.2 h59
                      cases h
                  · rw [if_neg h58] at h
                    have h58 := Bool.eq_false_iff.2 h58
                    cases h
          · rw [if_neg h23] at h
            have h23 := Bool.eq_false_iff.2 h23
            cases h

end Go.Gh.Pack
