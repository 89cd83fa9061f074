/- Fan7F0: printed by wip/tool/gx.py -/
import Derived.Test.YtidfbhlhogkfmaaFan7E0
namespace Go.Gh.Fan
set_option linter.unusedVariables false
set_option linter.unusedSimpArgs false
open Go.Proofs

theorem f56_ok (F : Nat) (x1 : Bool) (x2 : List Int) (r : Int × Bool × (List Int)) (h : f56 F x1 x2 = some r) : f56_C x1 x2 r := by
  unfold f56 at h
  obtain rfl := Option.some.inj h
  exact callOK cxOK cxW Try.func56 (by kernel_rfl) (f56_e0 x1 x2) ⟨(by decide), trivial⟩

theorem f54_ok (F : Nat) (r : Int × Bool × (List Int)) (h : f54 F = some r) : f54_C r := by
  unfold f54 at h
  obtain ⟨rh1, h1, h⟩ := bind_some h
  have ch1 := f56_ok F true ([2, 3, 1, 2, 1, 3] : List Int) _ h1
  obtain ⟨x1, x2, x3⟩ := rh1
  try dsimp only at h
  obtain rfl := Option.some.inj h
  exact callOK cxOK cxW Try.func54 (by kernel_rfl) (f54_e0 x1 x2 x3) ⟨ch1, trivial⟩

theorem f58_ok (F : Nat) (x1 : Int) (x2 : Int) (x3 : Int) (r : Bool) (h : f58 F x1 x2 x3 = some r) : f58_C x1 x2 x3 r := by
  unfold f58 at h
  by_cases h1 : (decide (x1 ≤ x2)) = true
  · rw [if_pos h1] at h
    obtain rfl := Option.some.inj h
    exact callOK cxOK cxW Try.func58 (by kernel_rfl) (f58_e0 x1 x2 x3) ⟨h1, h1, h1, h1, trivial⟩
  · rw [if_neg h1] at h
    have h1 := Bool.eq_false_iff.2 h1
    obtain rfl := Option.some.inj h
    exact callOK cxOK cxW Try.func58 (by kernel_rfl) (f58_e1 x1 x2 x3) ⟨h1, h1, h1, h1, trivial⟩

theorem f77_p0_ok (F : Nat) (x1 : Int) (x2 : Bool) (r : Int) (h : f77_p0 F x1 x2 = some r) : f77_p0_P x1 x2 r := by
  unfold f77_p0 at h
  by_cases h1 : x2 = true
  · rw [if_pos h1] at h
    obtain rfl := Option.some.inj h
    exact gRun_ok cxOK (f77_p0_e0 x1 x2) ⟨h1, trivial⟩
  · rw [if_neg h1] at h
    have h1 := Bool.eq_false_iff.2 h1
    obtain rfl := Option.some.inj h
    exact gRun_ok cxOK (f77_p0_e1 x1 x2) ⟨h1, trivial⟩
theorem f77_ok (F : Nat) (x1 : Int) (x2 : Bool) (r : Int) (h : f77 F x1 x2 = some r) : f77_C x1 x2 r := by
  unfold f77 at h
  obtain ⟨rh2, h2, h⟩ := bind_some h
  have ch2 := f77_p0_ok F x1 x2 _ h2
  obtain ⟨x3, rfl⟩ : ∃ z, z = rh2 := ⟨_, rfl⟩
  try dsimp only at h
  obtain rfl := Option.some.inj h
  exact callOK cxOK cxW Try.func77 (by kernel_rfl) (f77_e0 x1 x2 x3) ⟨ch2, trivial⟩

theorem f70_ok (F : Nat) (x1 : Int) (x2 : Int) (x3 : Bool) (x4 : List Int) (x5 : List Int) (r : Int) (h : f70 F x1 x2 x3 x4 x5 = some r) : f70_C x1 x2 x3 x4 x5 r := by
  unfold f70 at h
  obtain ⟨h1, h⟩ := req_some h
  obtain ⟨x6, h2, h⟩ := bind_some h
  try dsimp only at h
  obtain ⟨rh3, h3, h⟩ := bind_some h
  have ch3 := f77_ok F x1 x3 _ h3
  obtain ⟨x7, rfl⟩ : ∃ z, z = rh3 := ⟨_, rfl⟩
  try dsimp only at h
  obtain rfl := Option.some.inj h
  exact callOK cxOK cxW Try.func70 (by kernel_rfl) (f70_e0 x1 x2 x3 x4 x5 x6 x7) ⟨h1, ⟨x6, h2, rfl⟩, ch3, trivial⟩

theorem f57_p4_ok (F : Nat) (x1 : Int) (x2 : Bool) (x3 : List Int) : ∀ (k : Nat) (x6 : Int) (x7 : Int) (x8 : Bool) (x9 : List Int) (x10 : List Int) (r : Int × Bool × (List Int) × (List Int)), f57_p4 F x1 x2 x3 k x6 x7 x8 x9 x10 = some r → f57_p4_P x1 x2 x3 x6 x7 x8 x9 x10 r
  | 0, _, _, _, _, _, _, h => by cases h
  | k + 1, x6, x7, x8, x9, x10, r, h => by
    unfold f57_p4 at h
    by_cases h7 : (decide (x6 < 9)) = true
    · rw [if_pos h7] at h
      obtain ⟨h8, h⟩ := req_some h
      obtain ⟨h9, h⟩ := req_some h
      exact Lp.again (gRun_ok cxOK (f57_p4_e0 x1 x2 x3 x6 x7 x8 x9 x10) ⟨h7, h8, h9, trivial⟩) (f57_p4_ok F x1 x2 x3 k (w64 (x6 + 1)) x7 x8 x9 (List.set x10 (0 + ((Int.toNat x6) * 1)) (-1)) r h)
    · rw [if_neg h7] at h
      have h7 := Bool.eq_false_iff.2 h7
      obtain rfl := Option.some.inj h
      exact Lp.out (gRun_ok cxOK (f57_p4_e1 x1 x2 x3 x6 x7 x8 x9 x10) ⟨h7, trivial⟩) (by intro hh; cases hh)
theorem f57_p12_1_ok (F : Nat) (x21 : Int) (x28 : Int) (x3 : List Int) (x31 : Int) (x1 : Int) (x2 : Bool) (x22 : Int) (x23 : Bool) (x24 : List Int) (x25 : List Int) (x26 : List Int) (x30 : Int) (x27 : List Int) (r : (List Int)) (h : f57_p12_1 F x21 x28 x3 x31 x1 x2 x22 x23 x24 x25 x26 x30 x27 = some r) : f57_p12_1_P x21 x28 x3 x31 x1 x2 x22 x23 x24 x25 x26 x30 x27 r := by
  unfold f57_p12_1 at h
  by_cases h33 : (x31 == 1) = true
  · rw [if_pos h33] at h
    obtain ⟨h34, h⟩ := req_some h
    obtain ⟨h35, h⟩ := req_some h
    obtain rfl := Option.some.inj h
    exact gRun_ok cxOK (f57_p12_1_e0 x1 x2 x3 x21 x22 x23 x24 x25 x26 x27 x28 x30 x31) ⟨h33, h34, h35, trivial⟩
  · rw [if_neg h33] at h
    have h33 := Bool.eq_false_iff.2 h33
    obtain rfl := Option.some.inj h
    exact gRun_ok cxOK (f57_p12_1_e1 x1 x2 x3 x21 x22 x23 x24 x25 x26 x27 x28 x30 x31) ⟨h33, trivial⟩
theorem f57_p8_ok (F : Nat) (x3 : List Int) (x1 : Int) (x2 : Bool) : ∀ (k : Nat) (x21 : Int) (x22 : Int) (x23 : Bool) (x24 : List Int) (x25 : List Int) (x26 : List Int) (x27 : List Int) (r : f57_p8_R), f57_p8 F x3 x1 x2 k x21 x22 x23 x24 x25 x26 x27 = some r → f57_p8_P x3 x1 x2 x21 x22 x23 x24 x25 x26 x27 r
  | 0, _, _, _, _, _, _, _, _, h => by cases h
  | k + 1, x21, x22, x23, x24, x25, x26, x27, r, h => by
    unfold f57_p8 at h
    by_cases h25 : (decide (x21 < ((List.length x3 : Nat) : Int))) = true
    · rw [if_pos h25] at h
      obtain ⟨x28, h26, h⟩ := bind_some h
      try dsimp only at h
      obtain ⟨rh27, h27, h⟩ := bind_some h
      have ch27 := f58_ok F 0 x28 x1 _ h27
      obtain ⟨x29, rfl⟩ : ∃ z, z = rh27 := ⟨_, rfl⟩
      try dsimp only at h
      by_cases h28 : x29 = true
      · rw [if_pos h28] at h
        obtain ⟨h29, h⟩ := req_some h
        obtain ⟨x30, h30, h⟩ := bind_some h
        try dsimp only at h
        obtain ⟨h31, h⟩ := req_some h
        obtain ⟨x31, h32, h⟩ := bind_some h
        try dsimp only at h
        obtain ⟨rh36, h36, h⟩ := bind_some h
        have ch36 := f57_p12_1_ok F x21 x28 x3 x31 x1 x2 x22 x23 x24 x25 x26 x30 x27 _ h36
        obtain ⟨x32, rfl⟩ : ∃ z, z = rh36 := ⟨_, rfl⟩
        try dsimp only at h
        obtain ⟨h37, h⟩ := req_some h
        obtain ⟨h38, h⟩ := req_some h
        exact Lp.again (gRun_ok cxOK (f57_p8_e0 x1 x2 x3 x21 x22 x23 x24 x25 x26 x27 x28 x29 x30 x31 x32) ⟨h25, ⟨(at?_spec h26).1, x28, (at?_spec h26).2, rfl⟩, ch27, (by rw [h28]; rfl), h29, ⟨x30, h30, rfl⟩, h29, h31, h29, ⟨x31, h32, rfl⟩, ch36, h29, h31, h37, h38, trivial⟩) (f57_p8_ok F x3 x1 x2 k (w64 (x21 + 1)) x22 x23 (List.set x24 (0 + ((Int.toNat x21) * 1)) x28) x32 (List.set x26 (0 + ((Int.toNat x28) * 1)) (w64 (x30 + 1))) (List.set x27 (0 + ((Int.toNat x28) * 1)) x21) r h)
      · rw [if_neg h28] at h
        have h28 := Bool.eq_false_iff.2 h28
        obtain rfl := Option.some.inj h
        exact Lp.out (gRun_ok cxOK (f57_p8_e1 x1 x2 x3 x21 x22 x23 x24 x25 x26 x27 x28 x29) ⟨h25, ⟨(at?_spec h26).1, x28, (at?_spec h26).2, rfl⟩, ch27, (by rw [h28]; rfl), trivial⟩) (by intro hh; cases hh)
    · rw [if_neg h25] at h
      have h25 := Bool.eq_false_iff.2 h25
      obtain rfl := Option.some.inj h
      exact Lp.out (gRun_ok cxOK (f57_p8_e2 x1 x2 x3 x21 x22 x23 x24 x25 x26 x27) ⟨h25, trivial⟩) (by intro hh; cases hh)
theorem f57_p14_ok (F : Nat) (x1 : Int) (x2 : Bool) (x3 : List Int) (x33 : Int) (x34 : Bool) (x35 : List Int) (x36 : List Int) (x37 : List Int) (x38 : List Int) : ∀ (k : Nat) (x39 : Int) (r : f57_p14_R), f57_p14 F x1 x2 x3 x33 x34 x35 x36 x37 x38 k x39 = some r → f57_p14_P x1 x2 x3 x33 x34 x35 x36 x37 x38 x39 r
  | 0, _, _, h => by cases h
  | k + 1, x39, r, h => by
    unfold f57_p14 at h
    by_cases h40 : (decide (x39 ≤ x1)) = true
    · rw [if_pos h40] at h
      obtain ⟨h41, h⟩ := req_some h
      obtain ⟨x40, h42, h⟩ := bind_some h
      try dsimp only at h
      by_cases h43 : (decide (x40 > 2)) = true
      · rw [if_pos h43] at h
        obtain rfl := Option.some.inj h
        exact Lp.out (gRun_ok cxOK (f57_p14_e0 x1 x2 x3 x33 x34 x35 x36 x37 x38 x39 x40) ⟨h40, h41, ⟨x40, h42, rfl⟩, h43, trivial⟩) (by intro hh; cases hh)
      · rw [if_neg h43] at h
        have h43 := Bool.eq_false_iff.2 h43
        by_cases h44 : (x40 == 1) = true
        · rw [if_pos h44] at h
          obtain rfl := Option.some.inj h
          exact Lp.out (gRun_ok cxOK (f57_p14_e1 x1 x2 x3 x33 x34 x35 x36 x37 x38 x39 x40) ⟨h40, h41, ⟨x40, h42, rfl⟩, h43, h41, ⟨x40, h42, rfl⟩, h44, trivial⟩) (by intro hh; cases hh)
        · rw [if_neg h44] at h
          have h44 := Bool.eq_false_iff.2 h44
          by_cases h45 : (x40 == 2) = true
          · rw [if_pos h45] at h
            obtain ⟨x41, h46, h⟩ := bind_some h
            try dsimp only at h
            obtain ⟨rh47, h47, h⟩ := bind_some h
            have ch47 := f70_ok F x39 x33 x34 x35 x36 _ h47
            obtain ⟨x42, rfl⟩ : ∃ z, z = rh47 := ⟨_, rfl⟩
            try dsimp only at h
            by_cases h48 : (x41 != x42) = true
            · rw [if_pos h48] at h
              obtain rfl := Option.some.inj h
              exact Lp.out (gRun_ok cxOK (f57_p14_e2 x1 x2 x3 x33 x34 x35 x36 x37 x38 x39 x40 x41 x42) ⟨h40, h41, ⟨x40, h42, rfl⟩, h43, h41, ⟨x40, h42, rfl⟩, h44, h41, ⟨x40, h42, rfl⟩, h45, h45, h41, h45, ⟨x41, h46, rfl⟩, h45, h45, h45, ch47, h45, h45, h48, trivial⟩) (by intro hh; cases hh)
            · rw [if_neg h48] at h
              have h48 := Bool.eq_false_iff.2 h48
              exact Lp.again (gRun_ok cxOK (f57_p14_e3 x1 x2 x3 x33 x34 x35 x36 x37 x38 x39 x40 x41 x42) ⟨h40, h41, ⟨x40, h42, rfl⟩, h43, h41, ⟨x40, h42, rfl⟩, h44, h41, ⟨x40, h42, rfl⟩, h45, h45, h41, h45, ⟨x41, h46, rfl⟩, h45, h45, h45, ch47, h45, h45, h48, trivial⟩) (f57_p14_ok F x1 x2 x3 x33 x34 x35 x36 x37 x38 k (w64 (x39 + 1)) r h)
          · rw [if_neg h45] at h
            have h45 := Bool.eq_false_iff.2 h45
            exact Lp.again (gRun_ok cxOK (f57_p14_e4 x1 x2 x3 x33 x34 x35 x36 x37 x38 x39 x40) ⟨h40, h41, ⟨x40, h42, rfl⟩, h43, h41, ⟨x40, h42, rfl⟩, h44, h41, ⟨x40, h42, rfl⟩, h45, h45, h45, h45, h45, h45, h45, h45, rfl, trivial⟩) (f57_p14_ok F x1 x2 x3 x33 x34 x35 x36 x37 x38 k (w64 (x39 + 1)) r h)
    · rw [if_neg h40] at h
      have h40 := Bool.eq_false_iff.2 h40
      obtain rfl := Option.some.inj h
      exact Lp.out (gRun_ok cxOK (f57_p14_e5 x1 x2 x3 x33 x34 x35 x36 x37 x38 x39) ⟨h40, trivial⟩) (by intro hh; cases hh)
theorem f57_ok (F : Nat) (x1 : Int) (x2 : Bool) (x3 : List Int) (r : f57_R) (h : f57 F x1 x2 x3 = some r) : f57_C x1 x2 x3 r := by
  unfold f57 at h
  obtain ⟨rh1, h1, h⟩ := bind_some h
  have ch1 := f58_ok F 1 x1 8 _ h1
  obtain ⟨x4, rfl⟩ : ∃ z, z = rh1 := ⟨_, rfl⟩
  try dsimp only at h
  by_cases h2 : x4 = true
  · rw [if_pos h2] at h
    by_cases h3 : (((List.length x3 : Nat) : Int) != (w64 (2 * x1))) = true
    · rw [if_pos h3] at h
      obtain rfl := Option.some.inj h
      exact callOK cxOK cxW Try.func57 (by kernel_rfl) (f57_e0 x1 x2 x3 x4) ⟨ch1, (by rw [h2]; rfl), h3, trivial⟩
    · rw [if_neg h3] at h
      have h3 := Bool.eq_false_iff.2 h3
      obtain ⟨rh10, h10, h⟩ := bind_some h
      have ch10 := f57_p4_ok F x1 x2 x3 F 0 x1 x2 (List.replicate 16 0) (List.replicate 9 0) _ h10
      obtain ⟨x11, x12, x13, x14⟩ := rh10
      try dsimp only at h
      obtain ⟨rh39, h39, h⟩ := bind_some h
      have ch39 := f57_p8_ok F x3 x1 x2 F 0 x11 x12 x13 x14 (List.replicate 9 0) (List.replicate 9 0) _ h39
      cases rh39 with
      | c0 =>
        try dsimp only at h
        obtain rfl := Option.some.inj h
        exact callOK cxOK cxW Try.func57 (by kernel_rfl) (f57_e1 x1 x2 x3 x4 x11 x12 x13 x14) ⟨ch1, (by rw [h2]; rfl), h3, ch10, ch39, trivial⟩
      | c1 x33 x34 x35 x36 x37 x38 =>
        try dsimp only at h
        obtain ⟨rh49, h49, h⟩ := bind_some h
        have ch49 := f57_p14_ok F x1 x2 x3 x33 x34 x35 x36 x37 x38 F 1 _ h49
        cases rh49 with
        | c0 x43 =>
          try dsimp only at h
          obtain rfl := Option.some.inj h
          exact callOK cxOK cxW Try.func57 (by kernel_rfl) (f57_e2 x1 x2 x3 x4 x11 x12 x13 x14 x33 x34 x35 x36 x37 x38 x43) ⟨ch1, (by rw [h2]; rfl), h3, ch10, ch39, ch49, trivial⟩
        | c1 =>
          try dsimp only at h
          obtain rfl := Option.some.inj h
          exact callOK cxOK cxW Try.func57 (by kernel_rfl) (f57_e3 x1 x2 x3 x4 x11 x12 x13 x14 x33 x34 x35 x36 x37 x38) ⟨ch1, (by rw [h2]; rfl), h3, ch10, ch39, ch49, trivial⟩
  · rw [if_neg h2] at h
    have h2 := Bool.eq_false_iff.2 h2
    obtain rfl := Option.some.inj h
    exact callOK cxOK cxW Try.func57 (by kernel_rfl) (f57_e4 x1 x2 x3 x4) ⟨ch1, (by rw [h2]; rfl), trivial⟩

theorem f74_p1_ok (F : Nat) (x1 : List Int) (x2 : Int) : ∀ (k : Nat) (x3 : Int) (r : f74_p1_R), f74_p1 F x1 x2 k x3 = some r → f74_p1_P x1 x2 x3 r
  | 0, _, _, h => by cases h
  | k + 1, x3, r, h => by
    unfold f74_p1 at h
    by_cases h1 : (decide (x3 < ((List.length x1 : Nat) : Int))) = true
    · rw [if_pos h1] at h
      obtain ⟨x4, h2, h⟩ := bind_some h
      try dsimp only at h
      by_cases h3 : (x2 == x4) = true
      · rw [if_pos h3] at h
        obtain rfl := Option.some.inj h
        exact Lp.out (gRun_ok cxOK (f74_p1_e0 x1 x2 x3 x4) ⟨h1, ⟨(at?_spec h2).1, x4, (at?_spec h2).2, rfl⟩, h3, trivial⟩) (by intro hh; cases hh)
      · rw [if_neg h3] at h
        have h3 := Bool.eq_false_iff.2 h3
        exact Lp.again (gRun_ok cxOK (f74_p1_e1 x1 x2 x3 x4) ⟨h1, ⟨(at?_spec h2).1, x4, (at?_spec h2).2, rfl⟩, h3, trivial⟩) (f74_p1_ok F x1 x2 k (w64 (x3 + 1)) r h)
    · rw [if_neg h1] at h
      have h1 := Bool.eq_false_iff.2 h1
      obtain rfl := Option.some.inj h
      exact Lp.out (gRun_ok cxOK (f74_p1_e2 x1 x2 x3) ⟨h1, trivial⟩) (by intro hh; cases hh)
theorem f74_ok (F : Nat) (x1 : List Int) (x2 : Int) (r : Int) (h : f74 F x1 x2 = some r) : f74_C x1 x2 r := by
  unfold f74 at h
  obtain ⟨rh4, h4, h⟩ := bind_some h
  have ch4 := f74_p1_ok F x1 x2 F 0 _ h4
  cases rh4 with
  | c0 x5 =>
    try dsimp only at h
    obtain rfl := Option.some.inj h
    exact callOK cxOK cxW Try.func74 (by kernel_rfl) (f74_e0 x1 x2 x5) ⟨ch4, trivial⟩
  | c1 =>
    try dsimp only at h
    obtain rfl := Option.some.inj h
    exact callOK cxOK cxW Try.func74 (by kernel_rfl) (f74_e1 x1 x2) ⟨ch4, trivial⟩

theorem f46_ok (F : Nat) (x1 : List Int) (x2 : Int) (r : Bool) (h : f46 F x1 x2 = some r) : f46_C x1 x2 r := by
  unfold f46 at h
  obtain ⟨rh1, h1, h⟩ := bind_some h
  have ch1 := f74_ok F x1 x2 _ h1
  obtain ⟨x3, rfl⟩ : ∃ z, z = rh1 := ⟨_, rfl⟩
  try dsimp only at h
  obtain rfl := Option.some.inj h
  exact callOK cxOK cxW Try.func46 (by kernel_rfl) (f46_e0 x1 x2 x3) ⟨ch1, trivial⟩

theorem f48_ok (F : Nat) (x1 : Int) (x2 : Bool) (x3 : List Int) (r : Bool × Int) (h : f48 F x1 x2 x3 = some r) : f48_C x1 x2 x3 r := by
  unfold f48 at h
  obtain ⟨rh1, h1, h⟩ := bind_some h
  have ch1 := f57_ok F x1 x2 x3 _ h1
  cases rh1 with
  | c0 x4 =>
    try dsimp only at h
    by_cases h2 : (x4 != 0) = true
    · rw [if_pos h2] at h
      obtain rfl := Option.some.inj h
      exact callOK cxOK cxW Try.func48 (by kernel_rfl) (f48_e0 x1 x2 x3 x4) ⟨ch1, h2, trivial⟩
    · rw [if_neg h2] at h
      have h2 := Bool.eq_false_iff.2 h2
      cases h
  | c1 x5 x6 x7 x8 x9 =>
    try dsimp only at h
    by_cases h3 : (x5 != 0) = true
    · rw [if_pos h3] at h
      obtain rfl := Option.some.inj h
      exact callOK cxOK cxW Try.func48 (by kernel_rfl) (f48_e1 x1 x2 x3 x5 x6 x7 x8 x9) ⟨ch1, h3, trivial⟩
    · rw [if_neg h3] at h
      have h3 := Bool.eq_false_iff.2 h3
      obtain ⟨h4, h⟩ := req_some h
      obtain ⟨rh5, h5, h⟩ := bind_some h
      have ch5 := f46_ok F (List.drop 1 (List.take (1 + ((Int.toNat (w64 (x6 + 1))) - 1)) x9)) (-1) _ h5
      obtain ⟨x10, rfl⟩ : ∃ z, z = rh5 := ⟨_, rfl⟩
      try dsimp only at h
      obtain ⟨h6, h⟩ := req_some h
      obtain rfl := Option.some.inj h
      exact callOK cxOK cxW Try.func48 (by kernel_rfl) (f48_e2 x1 x2 x3 x5 x6 x7 x8 x9 x10) ⟨ch1, h3, h4, ch5, h6, trivial⟩

theorem f29_p1_ok (F : Nat) (x1 : Int) (x2 : Bool) (r : Int) (h : f29_p1 F x1 x2 = some r) : f29_p1_P x1 x2 r := by
  unfold f29_p1 at h
  by_cases h3 : x2 = true
  · rw [if_pos h3] at h
    obtain rfl := Option.some.inj h
    exact gRun_ok cxOK (f29_p1_e0 x1 x2) ⟨h3, trivial⟩
  · rw [if_neg h3] at h
    have h3 := Bool.eq_false_iff.2 h3
    obtain rfl := Option.some.inj h
    exact gRun_ok cxOK (f29_p1_e1 x1 x2) ⟨h3, trivial⟩
theorem f29_ok (F : Nat) (x1 : Int) (x2 : Bool) (r : Bool × Int) (h : f29 F x1 x2 = some r) : f29_C x1 x2 r := by
  unfold f29 at h
  obtain ⟨rh1, h1, h⟩ := bind_some h
  have ch1 := f58_ok F 1 x1 8 _ h1
  obtain ⟨x3, rfl⟩ : ∃ z, z = rh1 := ⟨_, rfl⟩
  try dsimp only at h
  by_cases h2 : x3 = true
  · rw [if_pos h2] at h
    obtain ⟨rh4, h4, h⟩ := bind_some h
    have ch4 := f29_p1_ok F x1 x2 _ h4
    obtain ⟨x4, rfl⟩ : ∃ z, z = rh4 := ⟨_, rfl⟩
    try dsimp only at h
    obtain rfl := Option.some.inj h
    exact callOK cxOK cxW Try.func29 (by kernel_rfl) (f29_e0 x1 x2 x3 x4) ⟨ch1, (by rw [h2]; rfl), ch4, (by decide), trivial⟩
  · rw [if_neg h2] at h
    have h2 := Bool.eq_false_iff.2 h2
    obtain rfl := Option.some.inj h
    exact callOK cxOK cxW Try.func29 (by kernel_rfl) (f29_e1 x1 x2 x3) ⟨ch1, (by rw [h2]; rfl), trivial⟩

theorem f71_p0_ok (F : Nat) (x1 : Int) (x2 : Bool) (r : Int) (h : f71_p0 F x1 x2 = some r) : f71_p0_P x1 x2 r := by
  unfold f71_p0 at h
  by_cases h1 : x2 = true
  · rw [if_pos h1] at h
    obtain rfl := Option.some.inj h
    exact gRun_ok cxOK (f71_p0_e0 x1 x2) ⟨h1, trivial⟩
  · rw [if_neg h1] at h
    have h1 := Bool.eq_false_iff.2 h1
    obtain rfl := Option.some.inj h
    exact gRun_ok cxOK (f71_p0_e1 x1 x2) ⟨h1, trivial⟩
theorem f71_ok (F : Nat) (x1 : Int) (x2 : Bool) (r : Int × Bool) (h : f71 F x1 x2 = some r) : f71_C x1 x2 r := by
  unfold f71 at h
  obtain ⟨rh2, h2, h⟩ := bind_some h
  have ch2 := f71_p0_ok F x1 x2 _ h2
  obtain ⟨x3, rfl⟩ : ∃ z, z = rh2 := ⟨_, rfl⟩
  try dsimp only at h
  obtain rfl := Option.some.inj h
  exact callOK cxOK cxW Try.func71 (by kernel_rfl) (f71_e0 x1 x2 x3) ⟨(by decide), ch2, (by decide), (by decide), trivial⟩

theorem f31_ok (F : Nat) (x1 : Int) (x2 : Bool) (r : Int × Int) (h : f31 F x1 x2 = some r) : f31_C x1 x2 r := by
  unfold f31 at h
  obtain ⟨rh1, h1, h⟩ := bind_some h
  have ch1 := f58_ok F 1 x1 8 _ h1
  obtain ⟨x3, rfl⟩ : ∃ z, z = rh1 := ⟨_, rfl⟩
  try dsimp only at h
  by_cases h2 : x3 = true
  · rw [if_pos h2] at h
    obtain ⟨rh3, h3, h⟩ := bind_some h
    have ch3 := f71_ok F x1 x2 _ h3
    obtain ⟨x4, x5⟩ := rh3
    try dsimp only at h
    by_cases h4 : x5 = true
    · rw [if_pos h4] at h
      obtain rfl := Option.some.inj h
      exact callOK cxOK cxW Try.func31 (by kernel_rfl) (f31_e0 x1 x2 x3 x4 x5) ⟨ch1, (by rw [h2]; rfl), ch3, (by rw [h4]; rfl), trivial⟩
    · rw [if_neg h4] at h
      have h4 := Bool.eq_false_iff.2 h4
      obtain rfl := Option.some.inj h
      exact callOK cxOK cxW Try.func31 (by kernel_rfl) (f31_e1 x1 x2 x3 x4 x5) ⟨ch1, (by rw [h2]; rfl), ch3, (by rw [h4]; rfl), trivial⟩
  · rw [if_neg h2] at h
    have h2 := Bool.eq_false_iff.2 h2
    obtain rfl := Option.some.inj h
    exact callOK cxOK cxW Try.func31 (by kernel_rfl) (f31_e2 x1 x2 x3) ⟨ch1, (by rw [h2]; rfl), trivial⟩

theorem f53_ok (F : Nat) (r : Int × Bool × (List Int)) (h : f53 F = some r) : f53_C r := by
  unfold f53 at h
  obtain ⟨rh1, h1, h⟩ := bind_some h
  have ch1 := f56_ok F false ([0, 0, 3, 0, 0, 3, 0, 0] : List Int) _ h1
  obtain ⟨x1, x2, x3⟩ := rh1
  try dsimp only at h
  obtain rfl := Option.some.inj h
  exact callOK cxOK cxW Try.func53 (by kernel_rfl) (f53_e0 x1 x2 x3) ⟨ch1, trivial⟩

theorem f59_ok (F : Nat) (x1 : Int) (x2 : Bool) (x3 : List Int) (x4 : List Int) (r : Int) (h : f59 F x1 x2 x3 x4 = some r) : f59_C x1 x2 x3 x4 r := by
  unfold f59 at h
  obtain rfl := Option.some.inj h
  exact callOK cxOK cxW Try.func59 (by kernel_rfl) (f59_e0 x1 x2 x3 x4) trivial

theorem f60_ok (F : Nat) (x1 : Int) (x2 : Int) (x3 : Int) (x4 : Bool) (x5 : List Int) (x6 : List Int) (r : Int) (h : f60 F x1 x2 x3 x4 x5 x6 = some r) : f60_C x1 x2 x3 x4 x5 x6 r := by
  unfold f60 at h
  obtain ⟨rh1, h1, h⟩ := bind_some h
  have ch1 := f77_ok F x1 x4 _ h1
  obtain ⟨x7, rfl⟩ : ∃ z, z = rh1 := ⟨_, rfl⟩
  try dsimp only at h
  obtain ⟨h2, h⟩ := req_some h
  obtain ⟨x8, h3, h⟩ := bind_some h
  try dsimp only at h
  by_cases h4 : (decide (x8 ≥ 0)) = true
  · rw [if_pos h4] at h
    obtain rfl := Option.some.inj h
    exact callOK cxOK cxW Try.func60 (by kernel_rfl) (f60_e0 x1 x2 x3 x4 x5 x6 x7 x8) ⟨ch1, h2, ⟨x8, h3, rfl⟩, h4, trivial⟩
  · rw [if_neg h4] at h
    have h4 := Bool.eq_false_iff.2 h4
    obtain ⟨rh5, h5, h⟩ := bind_some h
    have ch5 := f59_ok F x3 x4 x5 x6 _ h5
    obtain ⟨x9, rfl⟩ : ∃ z, z = rh5 := ⟨_, rfl⟩
    try dsimp only at h
    by_cases h6 : (decide ((w64 (x2 + x7)) ≥ x9)) = true
    · rw [if_pos h6] at h
      obtain rfl := Option.some.inj h
      exact callOK cxOK cxW Try.func60 (by kernel_rfl) (f60_e1 x1 x2 x3 x4 x5 x6 x7 x8 x9) ⟨ch1, h2, ⟨x8, h3, rfl⟩, h4, ch5, h6, trivial⟩
    · rw [if_neg h6] at h
      have h6 := Bool.eq_false_iff.2 h6
      obtain ⟨h7, h⟩ := req_some h
      obtain ⟨x10, h8, h⟩ := bind_some h
      try dsimp only at h
      by_cases h9 : (decide (x10 > 0)) = true
      · rw [if_pos h9] at h
        obtain rfl := Option.some.inj h
        exact callOK cxOK cxW Try.func60 (by kernel_rfl) (f60_e2 x1 x2 x3 x4 x5 x6 x7 x8 x9 x10) ⟨ch1, h2, ⟨x8, h3, rfl⟩, h4, ch5, h6, h7, ⟨x10, h8, rfl⟩, h9, h9, h9, h9, h9, h9, h9, h9, rfl, trivial⟩
      · rw [if_neg h9] at h
        have h9 := Bool.eq_false_iff.2 h9
        obtain ⟨h10, h⟩ := req_some h
        obtain ⟨x11, h11, h⟩ := bind_some h
        try dsimp only at h
        by_cases h12 : (decide (x11 > 0)) = true
        · rw [if_pos h12] at h
          obtain rfl := Option.some.inj h
          exact callOK cxOK cxW Try.func60 (by kernel_rfl) (f60_e3 x1 x2 x3 x4 x5 x6 x7 x8 x9 x10 x11) ⟨ch1, h2, ⟨x8, h3, rfl⟩, h4, ch5, h6, h7, ⟨x10, h8, rfl⟩, h9, h9, h9, h9, h9, h10, h9, ⟨x11, h11, rfl⟩, h9, h9, h12, trivial⟩
        · rw [if_neg h12] at h
          have h12 := Bool.eq_false_iff.2 h12
          obtain rfl := Option.some.inj h
          exact callOK cxOK cxW Try.func60 (by kernel_rfl) (f60_e4 x1 x2 x3 x4 x5 x6 x7 x8 x9 x10 x11) ⟨ch1, h2, ⟨x8, h3, rfl⟩, h4, ch5, h6, h7, ⟨x10, h8, rfl⟩, h9, h9, h9, h9, h9, h10, h9, ⟨x11, h11, rfl⟩, h9, h9, h12, trivial⟩

theorem f19_p8_1_ok (F : Nat) (x4 : Int) (x16 : List Int) (x17 : Int) (x13 : Int) (x18 : Int) (x7 : Int) (x8 : Bool) (x9 : List Int) (x10 : List Int) (r : (List Int)) (h : f19_p8_1 F x4 x16 x17 x13 x18 x7 x8 x9 x10 = some r) : f19_p8_1_P x4 x16 x17 x13 x18 x7 x8 x9 x10 r := by
  unfold f19_p8_1 at h
  by_cases h17 : (x18 == 0) = true
  · rw [if_pos h17] at h
    obtain ⟨h18, h⟩ := req_some h
    obtain rfl := Option.some.inj h
    exact gRun_ok cxOK (f19_p8_1_e0 x4 x7 x8 x9 x10 x13 x16 x17 x18) ⟨h17, h18, rfl, trivial⟩
  · rw [if_neg h17] at h
    have h17 := Bool.eq_false_iff.2 h17
    obtain rfl := Option.some.inj h
    exact gRun_ok cxOK (f19_p8_1_e1 x4 x7 x8 x9 x10 x13 x16 x17 x18) ⟨h17, trivial⟩
theorem f19_p5_ok (F : Nat) (x4 : Int) (x13 : Int) (x7 : Int) (x8 : Bool) (x9 : List Int) (x10 : List Int) : ∀ (k : Nat) (x17 : Int) (x16 : List Int) (r : (List Int)), f19_p5 F x4 x13 x7 x8 x9 x10 k x17 x16 = some r → f19_p5_P x4 x13 x7 x8 x9 x10 x17 x16 r
  | 0, _, _, _, h => by cases h
  | k + 1, x17, x16, r, h => by
    unfold f19_p5 at h
    by_cases h15 : (decide (x17 < x13)) = true
    · rw [if_pos h15] at h
      obtain ⟨rh16, h16, h⟩ := bind_some h
      have ch16 := f60_ok F x4 x17 x7 x8 x9 x10 _ h16
      obtain ⟨x18, rfl⟩ : ∃ z, z = rh16 := ⟨_, rfl⟩
      try dsimp only at h
      obtain ⟨rh19, h19, h⟩ := bind_some h
      have ch19 := f19_p8_1_ok F x4 x16 x17 x13 x18 x7 x8 x9 x10 _ h19
      obtain ⟨x19, rfl⟩ : ∃ z, z = rh19 := ⟨_, rfl⟩
      try dsimp only at h
      exact Lp.again (gRun_ok cxOK (f19_p5_e0 x4 x7 x8 x9 x10 x13 x16 x17 x18 x19) ⟨h15, ch16, ch19, trivial⟩) (f19_p5_ok F x4 x13 x7 x8 x9 x10 k (w64 (x17 + 1)) x19 r h)
    · rw [if_neg h15] at h
      have h15 := Bool.eq_false_iff.2 h15
      obtain rfl := Option.some.inj h
      exact Lp.out (gRun_ok cxOK (f19_p5_e1 x4 x7 x8 x9 x10 x13 x16 x17) ⟨h15, trivial⟩) (by intro hh; cases hh)
theorem f19_ok (F : Nat) (x1 : Int) (x2 : Bool) (x3 : List Int) (x4 : Int) (r : (List Int) × Int) (h : f19 F x1 x2 x3 x4 = some r) : f19_C x1 x2 x3 x4 r := by
  unfold f19 at h
  obtain ⟨rh1, h1, h⟩ := bind_some h
  have ch1 := f57_ok F x1 x2 x3 _ h1
  cases rh1 with
  | c0 x5 =>
    try dsimp only at h
    by_cases h2 : (x5 != 0) = true
    · rw [if_pos h2] at h
      obtain rfl := Option.some.inj h
      exact callOK cxOK cxW Try.func19 (by kernel_rfl) (f19_e0 x1 x2 x3 x4 x5) ⟨ch1, h2, trivial⟩
    · rw [if_neg h2] at h
      have h2 := Bool.eq_false_iff.2 h2
      cases h
  | c1 x6 x7 x8 x9 x10 =>
    try dsimp only at h
    by_cases h3 : (x6 != 0) = true
    · rw [if_pos h3] at h
      obtain rfl := Option.some.inj h
      exact callOK cxOK cxW Try.func19 (by kernel_rfl) (f19_e1 x1 x2 x3 x4 x6 x7 x8 x9 x10) ⟨ch1, h3, trivial⟩
    · rw [if_neg h3] at h
      have h3 := Bool.eq_false_iff.2 h3
      obtain ⟨rh4, h4, h⟩ := bind_some h
      have ch4 := f58_ok F 1 x4 x7 _ h4
      obtain ⟨x11, rfl⟩ : ∃ z, z = rh4 := ⟨_, rfl⟩
      try dsimp only at h
      by_cases h5 : x11 = true
      · rw [if_pos h5] at h
        obtain ⟨h6, h⟩ := req_some h
        obtain ⟨x12, h7, h⟩ := bind_some h
        try dsimp only at h
        by_cases h8 : (decide (x12 ≥ 0)) = true
        · rw [if_pos h8] at h
          obtain rfl := Option.some.inj h
          exact callOK cxOK cxW Try.func19 (by kernel_rfl) (f19_e2 x1 x2 x3 x4 x6 x7 x8 x9 x10 x11 x12) ⟨ch1, h3, ch4, (by rw [h5]; rfl), h6, ⟨x12, h7, rfl⟩, h8, trivial⟩
        · rw [if_neg h8] at h
          have h8 := Bool.eq_false_iff.2 h8
          obtain ⟨rh9, h9, h⟩ := bind_some h
          have ch9 := f59_ok F x7 x8 x9 x10 _ h9
          obtain ⟨x13, rfl⟩ : ∃ z, z = rh9 := ⟨_, rfl⟩
          try dsimp only at h
          obtain ⟨rh20, h20, h⟩ := bind_some h
          have ch20 := f19_p5_ok F x4 x13 x7 x8 x9 x10 F 0 ([] : List Int) _ h20
          obtain ⟨x20, rfl⟩ : ∃ z, z = rh20 := ⟨_, rfl⟩
          try dsimp only at h
          obtain rfl := Option.some.inj h
          exact callOK cxOK cxW Try.func19 (by kernel_rfl) (f19_e3 x1 x2 x3 x4 x6 x7 x8 x9 x10 x11 x12 x13 x20) ⟨ch1, h3, ch4, (by rw [h5]; rfl), h6, ⟨x12, h7, rfl⟩, h8, ch9, ch20, (Nat.le_of_eq (Nat.zero_add _)), trivial⟩
      · rw [if_neg h5] at h
        have h5 := Bool.eq_false_iff.2 h5
        obtain rfl := Option.some.inj h
        exact callOK cxOK cxW Try.func19 (by kernel_rfl) (f19_e4 x1 x2 x3 x4 x6 x7 x8 x9 x10 x11) ⟨ch1, h3, ch4, (by rw [h5]; rfl), trivial⟩

theorem f61_ok (F : Nat) (x1 : Int) (x2 : Int) (x3 : Int) (x4 : Bool) (x5 : List Int) (x6 : List Int) (r : Int × Bool × (List Int) × (List Int)) (h : f61 F x1 x2 x3 x4 x5 x6 = some r) : f61_C x1 x2 x3 x4 x5 x6 r := by
  unfold f61 at h
  obtain ⟨rh1, h1, h⟩ := bind_some h
  have ch1 := f77_ok F x1 x4 _ h1
  obtain ⟨x7, rfl⟩ : ∃ z, z = rh1 := ⟨_, rfl⟩
  try dsimp only at h
  obtain ⟨h2, h⟩ := req_some h
  obtain ⟨x8, h3, h⟩ := bind_some h
  try dsimp only at h
  by_cases h4 : (decide (x8 < 0)) = true
  · rw [if_pos h4] at h
    obtain ⟨h5, h⟩ := req_some h
    obtain ⟨h6, h⟩ := req_some h
    obtain ⟨h7, h⟩ := req_some h
    obtain ⟨h8, h⟩ := req_some h
    obtain ⟨h9, h⟩ := req_some h
    obtain rfl := Option.some.inj h
    exact callOK cxOK cxW Try.func61 (by kernel_rfl) (f61_e0 x1 x2 x3 x4 x5 x6 x7 x8) ⟨ch1, h2, ⟨x8, h3, rfl⟩, h4, h5, h6, h7, h8, h2, h9, trivial⟩
  · rw [if_neg h4] at h
    have h4 := Bool.eq_false_iff.2 h4
    obtain ⟨h10, h⟩ := req_some h
    obtain ⟨h11, h⟩ := req_some h
    obtain ⟨h12, h⟩ := req_some h
    obtain ⟨h13, h⟩ := req_some h
    obtain ⟨h14, h⟩ := req_some h
    obtain rfl := Option.some.inj h
    exact callOK cxOK cxW Try.func61 (by kernel_rfl) (f61_e1 x1 x2 x3 x4 x5 x6 x7 x8) ⟨ch1, h2, ⟨x8, h3, rfl⟩, h4, h10, h11, h12, h13, h2, h14, trivial⟩

theorem f44_ok (F : Nat) (x1 : List Int) (r : (List Int)) (h : f44 F x1 = some r) : f44_C x1 r := by
  unfold f44 at h
  obtain ⟨h1, h⟩ := req_some h
  obtain ⟨h2, h⟩ := req_some h
  obtain rfl := Option.some.inj h
  exact callOK cxOK cxW Try.func44 (by kernel_rfl) (f44_e0 x1) ⟨h1, rfl, h2, (.inl rfl), trivial⟩

theorem f62_ok (F : Nat) (x1 : List Int) (x2 : Int) (x3 : Bool) (x4 : List Int) (x5 : List Int) (r : Int × Bool × (List Int)) (h : f62 F x1 x2 x3 x4 x5 = some r) : f62_C x1 x2 x3 x4 x5 r := by
  unfold f62 at h
  obtain ⟨rh1, h1, h⟩ := bind_some h
  have ch1 := f59_ok F x2 x3 x4 x5 _ h1
  obtain ⟨x6, rfl⟩ : ∃ z, z = rh1 := ⟨_, rfl⟩
  try dsimp only at h
  obtain ⟨h2, h⟩ := req_some h
  obtain ⟨rh3, h3, h⟩ := bind_some h
  have ch3 := f44_ok F (List.drop 0 (List.take (0 + (Int.toNat x6)) x1)) _ h3
  obtain ⟨x7, rfl⟩ : ∃ z, z = rh3 := ⟨_, rfl⟩
  try dsimp only at h
  obtain ⟨h4, h⟩ := req_some h
  obtain rfl := Option.some.inj h
  exact callOK cxOK cxW Try.func62 (by kernel_rfl) (f62_e0 x1 x2 x3 x4 x5 x6 x7) ⟨ch1, h2, ch3, h4, (Nat.le_of_eq (Nat.zero_add _)), trivial⟩

theorem f15_ok (F : Nat) (x1 : Int) (x2 : Bool) (x3 : List Int) (x4 : Int) (x5 : Int) (r : Int × Bool × (List Int) × Int) (h : f15 F x1 x2 x3 x4 x5 = some r) : f15_C x1 x2 x3 x4 x5 r := by
  unfold f15 at h
  obtain ⟨rh1, h1, h⟩ := bind_some h
  have ch1 := f57_ok F x1 x2 x3 _ h1
  cases rh1 with
  | c0 x6 =>
    try dsimp only at h
    by_cases h2 : (x6 != 0) = true
    · rw [if_pos h2] at h
      obtain rfl := Option.some.inj h
      exact callOK cxOK cxW Try.func15 (by kernel_rfl) (f15_e0 x1 x2 x3 x4 x5 x6) ⟨ch1, h2, trivial⟩
    · rw [if_neg h2] at h
      have h2 := Bool.eq_false_iff.2 h2
      cases h
  | c1 x7 x8 x9 x10 x11 =>
    try dsimp only at h
    by_cases h3 : (x7 != 0) = true
    · rw [if_pos h3] at h
      obtain rfl := Option.some.inj h
      exact callOK cxOK cxW Try.func15 (by kernel_rfl) (f15_e1 x1 x2 x3 x4 x5 x7 x8 x9 x10 x11) ⟨ch1, h3, trivial⟩
    · rw [if_neg h3] at h
      have h3 := Bool.eq_false_iff.2 h3
      obtain ⟨rh4, h4, h⟩ := bind_some h
      have ch4 := f58_ok F 1 x4 x8 _ h4
      obtain ⟨x12, rfl⟩ : ∃ z, z = rh4 := ⟨_, rfl⟩
      try dsimp only at h
      by_cases h5 : x12 = true
      · rw [if_pos h5] at h
        obtain ⟨rh6, h6, h⟩ := bind_some h
        have ch6 := f59_ok F x8 x9 x10 x11 _ h6
        obtain ⟨x13, rfl⟩ : ∃ z, z = rh6 := ⟨_, rfl⟩
        try dsimp only at h
        obtain ⟨rh7, h7, h⟩ := bind_some h
        have ch7 := f58_ok F 0 x5 (w64 (x13 - 1)) _ h7
        obtain ⟨x14, rfl⟩ : ∃ z, z = rh7 := ⟨_, rfl⟩
        try dsimp only at h
        by_cases h8 : x14 = true
        · rw [if_pos h8] at h
          obtain ⟨rh9, h9, h⟩ := bind_some h
          have ch9 := f60_ok F x4 x5 x8 x9 x10 x11 _ h9
          obtain ⟨x15, rfl⟩ : ∃ z, z = rh9 := ⟨_, rfl⟩
          try dsimp only at h
          by_cases h10 : (x15 != 0) = true
          · rw [if_pos h10] at h
            obtain rfl := Option.some.inj h
            exact callOK cxOK cxW Try.func15 (by kernel_rfl) (f15_e2 x1 x2 x3 x4 x5 x7 x8 x9 x10 x11 x12 x13 x14 x15) ⟨ch1, h3, ch4, (by rw [h5]; rfl), (by rw [h5]; rfl), (by rw [h5]; rfl), ch6, (by rw [h5]; rfl), (by rw [h5]; rfl), ch7, (by rw [h5]; rfl), (by rw [h5]; rfl), (by rw [h8]; rfl), ch9, h10, trivial⟩
          · rw [if_neg h10] at h
            have h10 := Bool.eq_false_iff.2 h10
            obtain ⟨rh11, h11, h⟩ := bind_some h
            have ch11 := f61_ok F x4 x5 x8 x9 x10 x11 _ h11
            obtain ⟨x16, x17, x18, x19⟩ := rh11
            try dsimp only at h
            obtain ⟨rh12, h12, h⟩ := bind_some h
            have ch12 := f62_ok F x18 x16 x17 x18 x19 _ h12
            obtain ⟨x20, x21, x22⟩ := rh12
            try dsimp only at h
            obtain rfl := Option.some.inj h
            exact callOK cxOK cxW Try.func15 (by kernel_rfl) (f15_e3 x1 x2 x3 x4 x5 x7 x8 x9 x10 x11 x12 x13 x14 x15 x16 x17 x18 x19 x20 x21 x22) ⟨ch1, h3, ch4, (by rw [h5]; rfl), (by rw [h5]; rfl), (by rw [h5]; rfl), ch6, (by rw [h5]; rfl), (by rw [h5]; rfl), ch7, (by rw [h5]; rfl), (by rw [h5]; rfl), (by rw [h8]; rfl), ch9, h10, ch11, ch12, trivial⟩
        · rw [if_neg h8] at h
          have h8 := Bool.eq_false_iff.2 h8
          obtain rfl := Option.some.inj h
          exact callOK cxOK cxW Try.func15 (by kernel_rfl) (f15_e4 x1 x2 x3 x4 x5 x7 x8 x9 x10 x11 x12 x13 x14) ⟨ch1, h3, ch4, (by rw [h5]; rfl), (by rw [h5]; rfl), (by rw [h5]; rfl), ch6, (by rw [h5]; rfl), (by rw [h5]; rfl), ch7, (by rw [h5]; rfl), (by rw [h5]; rfl), (by rw [h8]; rfl), trivial⟩
      · rw [if_neg h5] at h
        have h5 := Bool.eq_false_iff.2 h5
        obtain rfl := Option.some.inj h
        exact callOK cxOK cxW Try.func15 (by kernel_rfl) (f15_e5 x1 x2 x3 x4 x5 x7 x8 x9 x10 x11 x12) ⟨ch1, h3, ch4, (by rw [h5]; rfl), (by rw [h5]; rfl), (by rw [h5]; rfl), (by rw [h5]; rfl), (by rw [h5]; rfl), (by rw [h5]; rfl), (by rw [h5]; rfl), rfl, trivial⟩

theorem f68_ok (F : Nat) (x1 : Int) (x2 : Bool) (x3 : List Int) (x4 : Int) (r : f68_R) (h : f68 F x1 x2 x3 x4 = some r) : f68_C x1 x2 x3 x4 r := by
  unfold f68 at h
  obtain ⟨rh1, h1, h⟩ := bind_some h
  have ch1 := f57_ok F x1 x2 x3 _ h1
  cases rh1 with
  | c0 x5 =>
    try dsimp only at h
    by_cases h2 : (x5 != 0) = true
    · rw [if_pos h2] at h
      obtain rfl := Option.some.inj h
      exact callOK cxOK cxW Try.func68 (by kernel_rfl) (f68_e0 x1 x2 x3 x4 x5) ⟨ch1, h2, trivial⟩
    · rw [if_neg h2] at h
      have h2 := Bool.eq_false_iff.2 h2
      cases h
  | c1 x6 x7 x8 x9 x10 =>
    try dsimp only at h
    by_cases h3 : (x6 != 0) = true
    · rw [if_pos h3] at h
      obtain rfl := Option.some.inj h
      exact callOK cxOK cxW Try.func68 (by kernel_rfl) (f68_e1 x1 x2 x3 x4 x6 x7 x8 x9 x10) ⟨ch1, h3, trivial⟩
    · rw [if_neg h3] at h
      have h3 := Bool.eq_false_iff.2 h3
      obtain ⟨rh4, h4, h⟩ := bind_some h
      have ch4 := f58_ok F 1 x4 x7 _ h4
      obtain ⟨x11, rfl⟩ : ∃ z, z = rh4 := ⟨_, rfl⟩
      try dsimp only at h
      by_cases h5 : x11 = true
      · rw [if_pos h5] at h
        obtain ⟨h6, h⟩ := req_some h
        obtain ⟨x12, h7, h⟩ := bind_some h
        try dsimp only at h
        by_cases h8 : (decide (x12 < 0)) = true
        · rw [if_pos h8] at h
          obtain rfl := Option.some.inj h
          exact callOK cxOK cxW Try.func68 (by kernel_rfl) (f68_e2 x1 x2 x3 x4 x6 x7 x8 x9 x10 x11 x12) ⟨ch1, h3, ch4, (by rw [h5]; rfl), h6, ⟨x12, h7, rfl⟩, h8, trivial⟩
        · rw [if_neg h8] at h
          have h8 := Bool.eq_false_iff.2 h8
          obtain rfl := Option.some.inj h
          exact callOK cxOK cxW Try.func68 (by kernel_rfl) (f68_e3 x1 x2 x3 x4 x6 x7 x8 x9 x10 x11 x12) ⟨ch1, h3, ch4, (by rw [h5]; rfl), h6, ⟨x12, h7, rfl⟩, h8, trivial⟩
      · rw [if_neg h5] at h
        have h5 := Bool.eq_false_iff.2 h5
        obtain rfl := Option.some.inj h
        exact callOK cxOK cxW Try.func68 (by kernel_rfl) (f68_e4 x1 x2 x3 x4 x6 x7 x8 x9 x10 x11) ⟨ch1, h3, ch4, (by rw [h5]; rfl), trivial⟩

theorem f17_ok (F : Nat) (x1 : Int) (x2 : Bool) (x3 : List Int) (x4 : Int) (r : Int × Bool × (List Int) × Int) (h : f17 F x1 x2 x3 x4 = some r) : f17_C x1 x2 x3 x4 r := by
  unfold f17 at h
  obtain ⟨rh1, h1, h⟩ := bind_some h
  have ch1 := f68_ok F x1 x2 x3 x4 _ h1
  cases rh1 with
  | c0 x5 =>
    try dsimp only at h
    by_cases h2 : (x5 != 0) = true
    · rw [if_pos h2] at h
      obtain rfl := Option.some.inj h
      exact callOK cxOK cxW Try.func17 (by kernel_rfl) (f17_e0 x1 x2 x3 x4 x5) ⟨ch1, h2, trivial⟩
    · rw [if_neg h2] at h
      have h2 := Bool.eq_false_iff.2 h2
      cases h
  | c1 x6 x7 x8 x9 x10 =>
    try dsimp only at h
    by_cases h3 : (x6 != 0) = true
    · rw [if_pos h3] at h
      obtain rfl := Option.some.inj h
      exact callOK cxOK cxW Try.func17 (by kernel_rfl) (f17_e1 x1 x2 x3 x4 x6 x7 x8 x9 x10) ⟨ch1, h3, trivial⟩
    · rw [if_neg h3] at h
      have h3 := Bool.eq_false_iff.2 h3
      obtain ⟨h4, h⟩ := req_some h
      obtain ⟨x11, h5, h⟩ := bind_some h
      try dsimp only at h
      obtain ⟨rh6, h6, h⟩ := bind_some h
      have ch6 := f61_ok F x4 x11 x7 x8 x9 x10 _ h6
      obtain ⟨x12, x13, x14, x15⟩ := rh6
      try dsimp only at h
      obtain ⟨rh7, h7, h⟩ := bind_some h
      have ch7 := f62_ok F x14 x12 x13 x14 x15 _ h7
      obtain ⟨x16, x17, x18⟩ := rh7
      try dsimp only at h
      obtain rfl := Option.some.inj h
      exact callOK cxOK cxW Try.func17 (by kernel_rfl) (f17_e2 x1 x2 x3 x4 x6 x7 x8 x9 x10 x11 x12 x13 x14 x15 x16 x17 x18) ⟨ch1, h3, h4, ⟨x11, h5, rfl⟩, ch6, ch7, trivial⟩

theorem f59_1_ok (F : Nat) (r : f59_1_R) (h : f59_1 F = some r) : f59_1_C r := by
  unfold f59_1 at h
  cases h

theorem f23_ok (F : Nat) (x1 : Int) (x2 : Bool) (x3 : List Int) (x4 : Int) (r : Int × Int) (h : f23 F x1 x2 x3 x4 = some r) : f23_C x1 x2 x3 x4 r := by
  unfold f23 at h
  obtain ⟨rh1, h1, h⟩ := bind_some h
  have ch1 := f57_ok F x1 x2 x3 _ h1
  cases rh1 with
  | c0 x5 =>
    try dsimp only at h
    by_cases h2 : (x5 != 0) = true
    · rw [if_pos h2] at h
      obtain rfl := Option.some.inj h
      exact callOK cxOK cxW Try.func23 (by kernel_rfl) (f23_e0 x1 x2 x3 x4 x5) ⟨ch1, h2, trivial⟩
    · rw [if_neg h2] at h
      have h2 := Bool.eq_false_iff.2 h2
      obtain ⟨rh3, h3, h⟩ := bind_some h
      have ch3 := f59_1_ok F _ h3
      exact nomatch rh3
  | c1 x6 x7 x8 x9 x10 =>
    try dsimp only at h
    by_cases h4 : (x6 != 0) = true
    · rw [if_pos h4] at h
      obtain rfl := Option.some.inj h
      exact callOK cxOK cxW Try.func23 (by kernel_rfl) (f23_e1 x1 x2 x3 x4 x6 x7 x8 x9 x10) ⟨ch1, h4, trivial⟩
    · rw [if_neg h4] at h
      have h4 := Bool.eq_false_iff.2 h4
      obtain ⟨rh5, h5, h⟩ := bind_some h
      have ch5 := f59_ok F x7 x8 x9 x10 _ h5
      obtain ⟨x11, rfl⟩ : ∃ z, z = rh5 := ⟨_, rfl⟩
      try dsimp only at h
      obtain ⟨rh6, h6, h⟩ := bind_some h
      have ch6 := f58_ok F 0 x4 (w64 (x11 - 1)) _ h6
      obtain ⟨x12, rfl⟩ : ∃ z, z = rh6 := ⟨_, rfl⟩
      try dsimp only at h
      by_cases h7 : x12 = true
      · rw [if_pos h7] at h
        obtain ⟨h8, h⟩ := req_some h
        obtain ⟨x13, h9, h⟩ := bind_some h
        try dsimp only at h
        by_cases h10 : (x13 == 0) = true
        · rw [if_pos h10] at h
          obtain rfl := Option.some.inj h
          exact callOK cxOK cxW Try.func23 (by kernel_rfl) (f23_e2 x1 x2 x3 x4 x6 x7 x8 x9 x10 x11 x12 x13) ⟨ch1, h4, ch5, ch6, (by rw [h7]; rfl), h8, ⟨x13, h9, rfl⟩, h10, trivial⟩
        · rw [if_neg h10] at h
          have h10 := Bool.eq_false_iff.2 h10
          obtain ⟨h11, h⟩ := req_some h
          obtain ⟨x14, h12, h⟩ := bind_some h
          try dsimp only at h
          obtain ⟨rh13, h13, h⟩ := bind_some h
          have ch13 := f70_ok F x13 x7 x8 x9 x10 _ h13
          obtain ⟨x15, rfl⟩ : ∃ z, z = rh13 := ⟨_, rfl⟩
          try dsimp only at h
          obtain rfl := Option.some.inj h
          exact callOK cxOK cxW Try.func23 (by kernel_rfl) (f23_e3 x1 x2 x3 x4 x6 x7 x8 x9 x10 x11 x12 x13 x14 x15) ⟨ch1, h4, ch5, ch6, (by rw [h7]; rfl), h8, ⟨x13, h9, rfl⟩, h10, h8, ⟨x13, h9, rfl⟩, h11, ⟨x14, h12, rfl⟩, ch13, trivial⟩
      · rw [if_neg h7] at h
        have h7 := Bool.eq_false_iff.2 h7
        obtain rfl := Option.some.inj h
        exact callOK cxOK cxW Try.func23 (by kernel_rfl) (f23_e4 x1 x2 x3 x4 x6 x7 x8 x9 x10 x11 x12) ⟨ch1, h4, ch5, ch6, (by rw [h7]; rfl), trivial⟩

theorem f44_1_ok (F : Nat) (x1 : Nat) (x2 : Nat) (x3 : Int) (x4 : Bool) (x5 : List Int) (x6 : List Int) (r : (List Int)) (h : f44_1 F x1 x2 x3 x4 x5 x6 = some r) : f44_1_C x1 x2 x3 x4 x5 x6 r := by
  unfold f44_1 at h
  obtain ⟨h1, h⟩ := req_some h
  obtain ⟨h2, h⟩ := req_some h
  obtain rfl := Option.some.inj h
  exact callOK cxOK cxW Try.func44 (by kernel_rfl) (f44_1_e0 x1 x2 x3 x4 x5 x6) ⟨rfl, h1, h2, (.inl rfl), (Nat.le_of_eq (Nat.zero_add _)), trivial⟩

theorem f25_ok (F : Nat) (x1 : Int) (x2 : Bool) (x3 : List Int) (x4 : Int) (r : (List Int) × Int) (h : f25 F x1 x2 x3 x4 = some r) : f25_C x1 x2 x3 x4 r := by
  unfold f25 at h
  obtain ⟨rh1, h1, h⟩ := bind_some h
  have ch1 := f68_ok F x1 x2 x3 x4 _ h1
  cases rh1 with
  | c0 x5 =>
    try dsimp only at h
    by_cases h2 : (x5 != 0) = true
    · rw [if_pos h2] at h
      obtain rfl := Option.some.inj h
      exact callOK cxOK cxW Try.func25 (by kernel_rfl) (f25_e0 x1 x2 x3 x4 x5) ⟨ch1, h2, trivial⟩
    · rw [if_neg h2] at h
      have h2 := Bool.eq_false_iff.2 h2
      cases h
  | c1 x6 x7 x8 x9 x10 =>
    try dsimp only at h
    by_cases h3 : (x6 != 0) = true
    · rw [if_pos h3] at h
      obtain rfl := Option.some.inj h
      exact callOK cxOK cxW Try.func25 (by kernel_rfl) (f25_e1 x1 x2 x3 x4 x6 x7 x8 x9 x10) ⟨ch1, h3, trivial⟩
    · rw [if_neg h3] at h
      have h3 := Bool.eq_false_iff.2 h3
      obtain ⟨h4, h⟩ := req_some h
      obtain ⟨x11, h5, h⟩ := bind_some h
      try dsimp only at h
      obtain ⟨rh6, h6, h⟩ := bind_some h
      have ch6 := f70_ok F x4 x7 x8 x9 x10 _ h6
      obtain ⟨x12, rfl⟩ : ∃ z, z = rh6 := ⟨_, rfl⟩
      try dsimp only at h
      obtain ⟨h7, h⟩ := req_some h
      obtain ⟨rh8, h8, h⟩ := bind_some h
      have ch8 := f44_1_ok F (Int.toNat (w64 (x11 + 1))) ((Int.toNat x12) - (Int.toNat (w64 (x11 + 1)))) x7 x8 x9 x10 _ h8
      obtain ⟨x13, rfl⟩ : ∃ z, z = rh8 := ⟨_, rfl⟩
      try dsimp only at h
      obtain rfl := Option.some.inj h
      exact callOK cxOK cxW Try.func25 (by kernel_rfl) (f25_e2 x1 x2 x3 x4 x6 x7 x8 x9 x10 x11 x12 x13) ⟨ch1, h3, h4, ⟨x11, h5, rfl⟩, ch6, h7, ch8, trivial⟩

theorem f27_p6_1_ok (F : Nat) (x4 : Int) (x11 : Int) (x12 : Int) (x18 : List Int) (x19 : Int) (x22 : Bool) (x23 : Bool) (x7 : Int) (x8 : Bool) (x9 : List Int) (x10 : List Int) (r : (List Int)) (h : f27_p6_1 F x4 x11 x12 x18 x19 x22 x23 x7 x8 x9 x10 = some r) : f27_p6_1_P x4 x11 x12 x18 x19 x22 x23 x7 x8 x9 x10 r := by
  unfold f27_p6_1 at h
  by_cases h26 : (x22 == x23) = true
  · rw [if_pos h26] at h
    obtain rfl := Option.some.inj h
    exact gRun_ok cxOK (f27_p6_1_e0 x4 x7 x8 x9 x10 x11 x12 x18 x19 x22 x23) ⟨(by rw [h26]; rfl), trivial⟩
  · rw [if_neg h26] at h
    have h26 := Bool.eq_false_iff.2 h26
    obtain ⟨h27, h⟩ := req_some h
    obtain rfl := Option.some.inj h
    exact gRun_ok cxOK (f27_p6_1_e1 x4 x7 x8 x9 x10 x11 x12 x18 x19 x22 x23) ⟨(by rw [h26]; rfl), h27, rfl, trivial⟩
theorem f27_p2_ok (F : Nat) (x4 : Int) (x11 : Int) (x12 : Int) (x7 : Int) (x8 : Bool) (x9 : List Int) (x10 : List Int) : ∀ (k : Nat) (x19 : Int) (x18 : List Int) (r : (List Int)), f27_p2 F x4 x11 x12 x7 x8 x9 x10 k x19 x18 = some r → f27_p2_P x4 x11 x12 x7 x8 x9 x10 x19 x18 r
  | 0, _, _, _, h => by cases h
  | k + 1, x19, x18, r, h => by
    unfold f27_p2 at h
    by_cases h18 : (decide (x19 ≤ x7)) = true
    · rw [if_pos h18] at h
      obtain ⟨h19, h⟩ := req_some h
      obtain ⟨x20, h20, h⟩ := bind_some h
      try dsimp only at h
      by_cases h21 : (decide (x20 < 0)) = true
      · rw [if_pos h21] at h
        exact Lp.again (gRun_ok cxOK (f27_p2_e0 x4 x7 x8 x9 x10 x11 x12 x18 x19 x20) ⟨h18, h19, ⟨x20, h20, rfl⟩, h21, h21, h21, h21, rfl, trivial⟩) (f27_p2_ok F x4 x11 x12 x7 x8 x9 x10 k (w64 (x19 + 1)) x18 r h)
      · rw [if_neg h21] at h
        have h21 := Bool.eq_false_iff.2 h21
        by_cases h22 : (x19 == x4) = true
        · rw [if_pos h22] at h
          exact Lp.again (gRun_ok cxOK (f27_p2_e1 x4 x7 x8 x9 x10 x11 x12 x18 x19 x20) ⟨h18, h19, ⟨x20, h20, rfl⟩, h21, h21, h21, h21, h22, trivial⟩) (f27_p2_ok F x4 x11 x12 x7 x8 x9 x10 k (w64 (x19 + 1)) x18 r h)
        · rw [if_neg h22] at h
          have h22 := Bool.eq_false_iff.2 h22
          obtain ⟨rh23, h23, h⟩ := bind_some h
          have ch23 := f70_ok F x19 x7 x8 x9 x10 _ h23
          obtain ⟨x21, rfl⟩ : ∃ z, z = rh23 := ⟨_, rfl⟩
          try dsimp only at h
          obtain ⟨rh24, h24, h⟩ := bind_some h
          have ch24 := f58_ok F x11 x20 x12 _ h24
          obtain ⟨x22, rfl⟩ : ∃ z, z = rh24 := ⟨_, rfl⟩
          try dsimp only at h
          obtain ⟨rh25, h25, h⟩ := bind_some h
          have ch25 := f58_ok F x11 x21 x12 _ h25
          obtain ⟨x23, rfl⟩ : ∃ z, z = rh25 := ⟨_, rfl⟩
          try dsimp only at h
          obtain ⟨rh28, h28, h⟩ := bind_some h
          have ch28 := f27_p6_1_ok F x4 x11 x12 x18 x19 x22 x23 x7 x8 x9 x10 _ h28
          obtain ⟨x24, rfl⟩ : ∃ z, z = rh28 := ⟨_, rfl⟩
          try dsimp only at h
          exact Lp.again (gRun_ok cxOK (f27_p2_e2 x4 x7 x8 x9 x10 x11 x12 x18 x19 x20 x21 x22 x23 x24) ⟨h18, h19, ⟨x20, h20, rfl⟩, h21, h21, h21, h21, h22, h19, ⟨x20, h20, rfl⟩, ch23, ch24, ch25, ch28, trivial⟩) (f27_p2_ok F x4 x11 x12 x7 x8 x9 x10 k (w64 (x19 + 1)) x24 r h)
    · rw [if_neg h18] at h
      have h18 := Bool.eq_false_iff.2 h18
      obtain rfl := Option.some.inj h
      exact Lp.out (gRun_ok cxOK (f27_p2_e3 x4 x7 x8 x9 x10 x11 x12 x18 x19) ⟨h18, trivial⟩) (by intro hh; cases hh)
theorem f27_ok (F : Nat) (x1 : Int) (x2 : Bool) (x3 : List Int) (x4 : Int) (r : (List Int) × Int) (h : f27 F x1 x2 x3 x4 = some r) : f27_C x1 x2 x3 x4 r := by
  unfold f27 at h
  obtain ⟨rh1, h1, h⟩ := bind_some h
  have ch1 := f68_ok F x1 x2 x3 x4 _ h1
  cases rh1 with
  | c0 x5 =>
    try dsimp only at h
    by_cases h2 : (x5 != 0) = true
    · rw [if_pos h2] at h
      obtain rfl := Option.some.inj h
      exact callOK cxOK cxW Try.func27 (by kernel_rfl) (f27_e0 x1 x2 x3 x4 x5) ⟨ch1, h2, trivial⟩
    · rw [if_neg h2] at h
      have h2 := Bool.eq_false_iff.2 h2
      cases h
  | c1 x6 x7 x8 x9 x10 =>
    try dsimp only at h
    by_cases h3 : (x6 != 0) = true
    · rw [if_pos h3] at h
      obtain rfl := Option.some.inj h
      exact callOK cxOK cxW Try.func27 (by kernel_rfl) (f27_e1 x1 x2 x3 x4 x6 x7 x8 x9 x10) ⟨ch1, h3, trivial⟩
    · rw [if_neg h3] at h
      have h3 := Bool.eq_false_iff.2 h3
      obtain ⟨h4, h⟩ := req_some h
      obtain ⟨x11, h5, h⟩ := bind_some h
      try dsimp only at h
      obtain ⟨rh6, h6, h⟩ := bind_some h
      have ch6 := f70_ok F x4 x7 x8 x9 x10 _ h6
      obtain ⟨x12, rfl⟩ : ∃ z, z = rh6 := ⟨_, rfl⟩
      try dsimp only at h
      obtain ⟨rh29, h29, h⟩ := bind_some h
      have ch29 := f27_p2_ok F x4 x11 x12 x7 x8 x9 x10 F 1 ([] : List Int) _ h29
      obtain ⟨x25, rfl⟩ : ∃ z, z = rh29 := ⟨_, rfl⟩
      try dsimp only at h
      obtain rfl := Option.some.inj h
      exact callOK cxOK cxW Try.func27 (by kernel_rfl) (f27_e2 x1 x2 x3 x4 x6 x7 x8 x9 x10 x11 x12 x25) ⟨ch1, h3, h4, ⟨x11, h5, rfl⟩, ch6, ch29, (Nat.le_of_eq (Nat.zero_add _)), trivial⟩

theorem f72_ok (F : Nat) (x1 : Int) (x2 : Bool) (x3 : List Int) (r : f72_R) (h : f72 F x1 x2 x3 = some r) : f72_C x1 x2 x3 r := by
  unfold f72 at h
  cases h

theorem f79_ok (F : Nat) (x1 : Int) (r : Bool) (h : f79 F x1 = some r) : f79_C x1 r := by
  unfold f79 at h
  obtain rfl := Option.some.inj h
  exact callOK cxOK cxW Try.func79 (by kernel_rfl) (f79_e0 x1) trivial

theorem f75_ok (F : Nat) (x1 : Int) (x2 : Int) (r : Int) (h : f75 F x1 x2 = some r) : f75_C x1 x2 r := by
  unfold f75 at h
  obtain ⟨rh1, h1, h⟩ := bind_some h
  have ch1 := f79_ok F x1 _ h1
  obtain ⟨x3, rfl⟩ : ∃ z, z = rh1 := ⟨_, rfl⟩
  try dsimp only at h
  obtain ⟨rh2, h2, h⟩ := bind_some h
  have ch2 := f79_ok F x2 _ h2
  obtain ⟨x4, rfl⟩ : ∃ z, z = rh2 := ⟨_, rfl⟩
  try dsimp only at h
  by_cases h3 : x3 = true
  · rw [if_pos h3] at h
    by_cases h4 : x4 = true
    · rw [if_pos h4] at h
      obtain rfl := Option.some.inj h
      exact callOK cxOK cxW Try.func75 (by kernel_rfl) (f75_e0 x1 x2 x3 x4) ⟨ch1, ch2, h3, h4, trivial⟩
    · rw [if_neg h4] at h
      have h4 := Bool.eq_false_iff.2 h4
      obtain rfl := Option.some.inj h
      exact callOK cxOK cxW Try.func75 (by kernel_rfl) (f75_e1 x1 x2 x3 x4) ⟨ch1, ch2, h3, h4, trivial⟩
  · rw [if_neg h3] at h
    have h3 := Bool.eq_false_iff.2 h3
    by_cases h5 : x4 = true
    · rw [if_pos h5] at h
      obtain rfl := Option.some.inj h
      exact callOK cxOK cxW Try.func75 (by kernel_rfl) (f75_e2 x1 x2 x3 x4) ⟨ch1, ch2, h3, h5, trivial⟩
    · rw [if_neg h5] at h
      have h5 := Bool.eq_false_iff.2 h5
      by_cases h6 : (decide (x1 < x2)) = true
      · rw [if_pos h6] at h
        obtain rfl := Option.some.inj h
        exact callOK cxOK cxW Try.func75 (by kernel_rfl) (f75_e3 x1 x2 x3 x4) ⟨ch1, ch2, h3, h5, h6, trivial⟩
      · rw [if_neg h6] at h
        have h6 := Bool.eq_false_iff.2 h6
        by_cases h7 : (decide (x1 > x2)) = true
        · rw [if_pos h7] at h
          obtain rfl := Option.some.inj h
          exact callOK cxOK cxW Try.func75 (by kernel_rfl) (f75_e4 x1 x2 x3 x4) ⟨ch1, ch2, h3, h5, h6, h7, trivial⟩
        · rw [if_neg h7] at h
          have h7 := Bool.eq_false_iff.2 h7
          obtain rfl := Option.some.inj h
          exact callOK cxOK cxW Try.func75 (by kernel_rfl) (f75_e5 x1 x2 x3 x4) ⟨ch1, ch2, h3, h5, h6, h7, trivial⟩

theorem f42_p1_ok (F : Nat) (x1 : List Int) (x2 : List Int) : ∀ (k : Nat) (x3 : Int) (r : f42_p1_R), f42_p1 F x1 x2 k x3 = some r → f42_p1_P x1 x2 x3 r
  | 0, _, _, h => by cases h
  | k + 1, x3, r, h => by
    unfold f42_p1 at h
    by_cases h1 : (decide (x3 < ((List.length x1 : Nat) : Int))) = true
    · rw [if_pos h1] at h
      obtain ⟨x4, h2, h⟩ := bind_some h
      try dsimp only at h
      by_cases h3 : (decide (x3 ≥ ((List.length x2 : Nat) : Int))) = true
      · rw [if_pos h3] at h
        obtain rfl := Option.some.inj h
        exact Lp.out (gRun_ok cxOK (f42_p1_e0 x1 x2 x3 x4) ⟨h1, ⟨(at?_spec h2).1, x4, (at?_spec h2).2, rfl⟩, h3, trivial⟩) (by intro hh; cases hh)
      · rw [if_neg h3] at h
        have h3 := Bool.eq_false_iff.2 h3
        obtain ⟨x5, h4, h⟩ := bind_some h
        try dsimp only at h
        obtain ⟨rh5, h5, h⟩ := bind_some h
        have ch5 := f75_ok F x4 x5 _ h5
        obtain ⟨x6, rfl⟩ : ∃ z, z = rh5 := ⟨_, rfl⟩
        try dsimp only at h
        by_cases h6 : (x6 != 0) = true
        · rw [if_pos h6] at h
          obtain rfl := Option.some.inj h
          exact Lp.out (gRun_ok cxOK (f42_p1_e1 x1 x2 x3 x4 x5 x6) ⟨h1, ⟨(at?_spec h2).1, x4, (at?_spec h2).2, rfl⟩, h3, ⟨(at?_spec h4).1, x5, (at?_spec h4).2, rfl⟩, ch5, h6, trivial⟩) (by intro hh; cases hh)
        · rw [if_neg h6] at h
          have h6 := Bool.eq_false_iff.2 h6
          exact Lp.again (gRun_ok cxOK (f42_p1_e2 x1 x2 x3 x4 x5 x6) ⟨h1, ⟨(at?_spec h2).1, x4, (at?_spec h2).2, rfl⟩, h3, ⟨(at?_spec h4).1, x5, (at?_spec h4).2, rfl⟩, ch5, h6, trivial⟩) (f42_p1_ok F x1 x2 k (w64 (x3 + 1)) r h)
    · rw [if_neg h1] at h
      have h1 := Bool.eq_false_iff.2 h1
      obtain rfl := Option.some.inj h
      exact Lp.out (gRun_ok cxOK (f42_p1_e3 x1 x2 x3) ⟨h1, trivial⟩) (by intro hh; cases hh)
theorem f42_ok (F : Nat) (x1 : List Int) (x2 : List Int) (r : Int) (h : f42 F x1 x2 = some r) : f42_C x1 x2 r := by
  unfold f42 at h
  obtain ⟨rh7, h7, h⟩ := bind_some h
  have ch7 := f42_p1_ok F x1 x2 F 0 _ h7
  cases rh7 with
  | c0 x7 =>
    try dsimp only at h
    obtain rfl := Option.some.inj h
    exact callOK cxOK cxW Try.func42 (by kernel_rfl) (f42_e0 x1 x2 x7) ⟨ch7, trivial⟩
  | c1 =>
    try dsimp only at h
    by_cases h8 : (decide (((List.length x1 : Nat) : Int) < ((List.length x2 : Nat) : Int))) = true
    · rw [if_pos h8] at h
      obtain rfl := Option.some.inj h
      exact callOK cxOK cxW Try.func42 (by kernel_rfl) (f42_e1 x1 x2) ⟨ch7, h8, trivial⟩
    · rw [if_neg h8] at h
      have h8 := Bool.eq_false_iff.2 h8
      obtain rfl := Option.some.inj h
      exact callOK cxOK cxW Try.func42 (by kernel_rfl) (f42_e2 x1 x2) ⟨ch7, h8, trivial⟩

theorem f33_y0_ok (F : Nat) (x1 : List Int) (x2 : Int) (x3 : Bool) (x4 : List Int) (x5 : List Int) (x6 : Int) (x7 : Bool) (x8 : List Int) (r : (List Int)) (h : f33_y0 F x1 x2 x3 x4 x5 x6 x7 x8 = some r) : f33_y0_C x1 x2 x3 x4 x5 x6 x7 x8 r := by
  unfold f33_y0 at h
  by_cases h1 : (eqL x8 [0, 0, 0, 0, 0, 0, 0, 0, 0, 0, 0, 0, 0, 0, 0, 0]) = true
  · rw [if_pos h1] at h
    obtain rfl := Option.some.inj h
    exact yok (R := (f33_y0_Q x1 x2 x3 x4 x5 x6 x7 x8)) cxOK (by kernel_rfl) (by kernel_rfl) (by kernel_rfl) (f33_y0_e0 x1 x2 x3 x4 x5 x6 x7 x8) (fun _ => trivial) (f33_y0_e1 x1 x2 x3 x4 x5 x6 x7 x8) (fun l => ⟨h1, h1, h1, h1, h1, rfl, trivial⟩)
  · rw [if_neg h1] at h
    have h1 := Bool.eq_false_iff.2 h1
    obtain ⟨rh2, h2, h⟩ := bind_some h
    have ch2 := f42_ok F (List.drop 0 (List.take 16 x1)) (List.drop 0 (List.take 16 x8)) _ h2
    obtain ⟨x9, rfl⟩ : ∃ z, z = rh2 := ⟨_, rfl⟩
    try dsimp only at h
    obtain ⟨h3, h⟩ := req_some h
    obtain ⟨h4, h⟩ := req_some h
    by_cases h5 : (decide (x9 < 0)) = true
    · rw [if_pos h5] at h
      obtain rfl := Option.some.inj h
      exact yok (R := (f33_y0_Q x1 x2 x3 x4 x5 x6 x7 x8)) cxOK (by kernel_rfl) (by kernel_rfl) (by kernel_rfl) (f33_y0_e2 x1 x2 x3 x4 x5 x6 x7 x8) (fun _ => trivial) (f33_y0_e3 x1 x2 x3 x4 x5 x6 x7 x8 x9) (fun l => ⟨h1, (by decide), h1, (by decide), h1, ch2, h3, h4, h1, h1, h5, trivial⟩)
    · rw [if_neg h5] at h
      have h5 := Bool.eq_false_iff.2 h5
      obtain rfl := Option.some.inj h
      exact yok (R := (f33_y0_Q x1 x2 x3 x4 x5 x6 x7 x8)) cxOK (by kernel_rfl) (by kernel_rfl) (by kernel_rfl) (f33_y0_e4 x1 x2 x3 x4 x5 x6 x7 x8) (fun _ => trivial) (f33_y0_e5 x1 x2 x3 x4 x5 x6 x7 x8 x9) (fun l => ⟨h1, (by decide), h1, (by decide), h1, ch2, h3, h4, h1, h1, h5, trivial⟩)

theorem f78_p1_ok (F : Nat) (x2 : Int) (x3 : Bool) (x4 : List Int) (x5 : List Int) (x6 : Int) (x7 : Bool) (x8 : List Int) : ∀ (k : Nat) (x9 : Int) (r : Int), f78_p1 F x2 x3 x4 x5 x6 x7 x8 k x9 = some r → f78_p1_P x2 x3 x4 x5 x6 x7 x8 x9 r
  | 0, _, _, h => by cases h
  | k + 1, x9, r, h => by
    unfold f78_p1 at h
    by_cases h1 : (decide (x9 > 0)) = true
    · rw [if_pos h1] at h
      obtain ⟨h2, h⟩ := req_some h
      obtain ⟨x10, h3, h⟩ := bind_some h
      try dsimp only at h
      by_cases h4 : (decide (x10 ≥ 0)) = true
      · rw [if_pos h4] at h
        exact Lp.again (gRun_ok cxOK (f78_p1_e0 x2 x3 x4 x5 x6 x7 x8 x9 x10) ⟨h1, h1, h1, h1, h1, h2, h1, ⟨x10, h3, rfl⟩, h1, h1, h4, trivial⟩) (f78_p1_ok F x2 x3 x4 x5 x6 x7 x8 k (w64 (x9 - 1)) r h)
      · rw [if_neg h4] at h
        have h4 := Bool.eq_false_iff.2 h4
        obtain rfl := Option.some.inj h
        exact Lp.out (gRun_ok cxOK (f78_p1_e1 x2 x3 x4 x5 x6 x7 x8 x9 x10) ⟨h1, h1, h1, h1, h1, h2, h1, ⟨x10, h3, rfl⟩, h1, h1, h4, trivial⟩) (by intro hh; cases hh)
    · rw [if_neg h1] at h
      have h1 := Bool.eq_false_iff.2 h1
      obtain rfl := Option.some.inj h
      exact Lp.out (gRun_ok cxOK (f78_p1_e2 x2 x3 x4 x5 x6 x7 x8 x9) ⟨h1, h1, h1, h1, h1, h1, h1, h1, rfl, trivial⟩) (by intro hh; cases hh)
theorem f78_p6_ok (F : Nat) (rec : Int → Int → Bool → (List Int) → (List Int) → Int → Bool → (List Int) → Option (Bool × Int × Bool × (List Int) × (List Int) × (List Int))) (hrec : ∀ (x1 : Int) (x2 : Int) (x3 : Bool) (x4 : List Int) (x5 : List Int) (x6 : Int) (x7 : Bool) (x8 : List Int) (r : Bool × Int × Bool × (List Int) × (List Int) × (List Int)), rec x1 x2 x3 x4 x5 x6 x7 x8 = some r → f78_C x1 x2 x3 x4 x5 x6 x7 x8 r) (x11 : Int) (x13 : Int) (x6 : Int) (x7 : Bool) : ∀ (k : Nat) (x30 : Int) (x31 : Int) (x32 : Bool) (x33 : List Int) (x34 : List Int) (x35 : List Int) (r : f78_p6_R), f78_p6 F rec x11 x13 x6 x7 k x30 x31 x32 x33 x34 x35 = some r → f78_p6_P x11 x13 x6 x7 x30 x31 x32 x33 x34 x35 r
  | 0, _, _, _, _, _, _, _, h => by cases h
  | k + 1, x30, x31, x32, x33, x34, x35, r, h => by
    unfold f78_p6 at h
    by_cases h16 : (decide (x30 < x13)) = true
    · rw [if_pos h16] at h
      obtain ⟨rh17, h17, h⟩ := bind_some h
      have ch17 := f60_ok F x11 x30 x31 x32 x33 x34 _ h17
      obtain ⟨x36, rfl⟩ : ∃ z, z = rh17 := ⟨_, rfl⟩
      try dsimp only at h
      by_cases h18 : (x36 != 0) = true
      · rw [if_pos h18] at h
        exact Lp.again (gRun_ok cxOK (f78_p6_e0 x6 x7 x11 x13 x30 x31 x32 x33 x34 x35 x36) ⟨h16, ch17, h18, trivial⟩) (f78_p6_ok F rec hrec x11 x13 x6 x7 k (w64 (x30 + 1)) x31 x32 x33 x34 x35 r h)
      · rw [if_neg h18] at h
        have h18 := Bool.eq_false_iff.2 h18
        obtain ⟨rh19, h19, h⟩ := bind_some h
        have ch19 := f61_ok F x11 x30 x31 x32 x33 x34 _ h19
        obtain ⟨x37, x38, x39, x40⟩ := rh19
        try dsimp only at h
        obtain ⟨rh20, h20, h⟩ := bind_some h
        have ch20 := hrec (w64 (x11 - 1)) x37 x38 x39 x40 x6 x7 x35 _ h20
        obtain ⟨x41, x42, x43, x44, x45, x46⟩ := rh20
        try dsimp only at h
        obtain ⟨rh21, h21, h⟩ := bind_some h
        have ch21 := f61_ok F x11 x30 x42 x43 x44 x45 _ h21
        obtain ⟨x47, x48, x49, x50⟩ := rh21
        try dsimp only at h
        by_cases h22 : x41 = true
        · rw [if_pos h22] at h
          exact Lp.again (gRun_ok cxOK (f78_p6_e1 x6 x7 x11 x13 x30 x31 x32 x33 x34 x35 x36 x37 x38 x39 x40 x41 x42 x43 x44 x45 x46 x47 x48 x49 x50) ⟨h16, ch17, h18, ch19, ch20, ch21, (by rw [h22]; rfl), trivial⟩) (f78_p6_ok F rec hrec x11 x13 x6 x7 k (w64 (x30 + 1)) x47 x48 x49 x50 x46 r h)
        · rw [if_neg h22] at h
          have h22 := Bool.eq_false_iff.2 h22
          obtain rfl := Option.some.inj h
          exact Lp.out (gRun_ok cxOK (f78_p6_e2 x6 x7 x11 x13 x30 x31 x32 x33 x34 x35 x36 x37 x38 x39 x40 x41 x42 x43 x44 x45 x46 x47 x48 x49 x50) ⟨h16, ch17, h18, ch19, ch20, ch21, (by rw [h22]; rfl), trivial⟩) (by intro hh; cases hh)
    · rw [if_neg h16] at h
      have h16 := Bool.eq_false_iff.2 h16
      obtain rfl := Option.some.inj h
      exact Lp.out (gRun_ok cxOK (f78_p6_e3 x6 x7 x11 x13 x30 x31 x32 x33 x34 x35) ⟨h16, trivial⟩) (by intro hh; cases hh)
theorem f78_b_ok (F : Nat) (rec : Int → Int → Bool → (List Int) → (List Int) → Int → Bool → (List Int) → Option (Bool × Int × Bool × (List Int) × (List Int) × (List Int))) (hrec : ∀ (x1 : Int) (x2 : Int) (x3 : Bool) (x4 : List Int) (x5 : List Int) (x6 : Int) (x7 : Bool) (x8 : List Int) (r : Bool × Int × Bool × (List Int) × (List Int) × (List Int)), rec x1 x2 x3 x4 x5 x6 x7 x8 = some r → f78_C x1 x2 x3 x4 x5 x6 x7 x8 r) (x1 : Int) (x2 : Int) (x3 : Bool) (x4 : List Int) (x5 : List Int) (x6 : Int) (x7 : Bool) (x8 : List Int) (r : Bool × Int × Bool × (List Int) × (List Int) × (List Int)) (h : f78_b F rec x1 x2 x3 x4 x5 x6 x7 x8 = some r) : f78_C x1 x2 x3 x4 x5 x6 x7 x8 r := by
  unfold f78_b at h
  obtain ⟨rh5, h5, h⟩ := bind_some h
  have ch5 := f78_p1_ok F x2 x3 x4 x5 x6 x7 x8 F x1 _ h5
  obtain ⟨x11, rfl⟩ : ∃ z, z = rh5 := ⟨_, rfl⟩
  try dsimp only at h
  by_cases h6 : (x11 == 0) = true
  · rw [if_pos h6] at h
    obtain ⟨rh7, h7, h⟩ := bind_some h
    have ch7 := f33_y0_ok F x4 x2 x3 x4 x5 x6 x7 x8 _ h7
    obtain ⟨x12, rfl⟩ : ∃ z, z = rh7 := ⟨_, rfl⟩
    try dsimp only at h
    obtain rfl := Option.some.inj h
    exact callOK cxOK cxW Try.func78 (by kernel_rfl) (f78_e0 x1 x2 x3 x4 x5 x6 x7 x8 x11 x12) ⟨ch5, h6, ch7, trivial⟩
  · rw [if_neg h6] at h
    have h6 := Bool.eq_false_iff.2 h6
    obtain ⟨rh8, h8, h⟩ := bind_some h
    have ch8 := f59_ok F x2 x3 x4 x5 _ h8
    obtain ⟨x13, rfl⟩ : ∃ z, z = rh8 := ⟨_, rfl⟩
    try dsimp only at h
    obtain ⟨rh23, h23, h⟩ := bind_some h
    have ch23 := f78_p6_ok F rec hrec x11 x13 x6 x7 F 0 x2 x3 x4 x5 x8 _ h23
    cases rh23 with
    | c0 x51 x52 x53 x54 x55 =>
      try dsimp only at h
      obtain rfl := Option.some.inj h
      exact callOK cxOK cxW Try.func78 (by kernel_rfl) (f78_e1 x1 x2 x3 x4 x5 x6 x7 x8 x11 x13 x51 x52 x53 x54 x55) ⟨ch5, h6, ch8, ch23, trivial⟩
    | c1 x56 x57 x58 x59 x60 =>
      try dsimp only at h
      obtain rfl := Option.some.inj h
      exact callOK cxOK cxW Try.func78 (by kernel_rfl) (f78_e2 x1 x2 x3 x4 x5 x6 x7 x8 x11 x13 x56 x57 x58 x59 x60) ⟨ch5, h6, ch8, ch23, trivial⟩
theorem f78_ok (F : Nat) : ∀ (k : Nat) (x1 : Int) (x2 : Int) (x3 : Bool) (x4 : List Int) (x5 : List Int) (x6 : Int) (x7 : Bool) (x8 : List Int) (r : Bool × Int × Bool × (List Int) × (List Int) × (List Int)), f78 F k x1 x2 x3 x4 x5 x6 x7 x8 = some r → f78_C x1 x2 x3 x4 x5 x6 x7 x8 r
  | 0, _, _, _, _, _, _, _, _, _, h => by cases h
  | k + 1, x1, x2, x3, x4, x5, x6, x7, x8, r, h => f78_b_ok F (f78 F k) (f78_ok F k) x1 x2 x3 x4 x5 x6 x7 x8 r h

theorem f72_1_ok (F : Nat) (x1 : Int) (x2 : Bool) (x3 : List Int) (x4 : List Int) (x5 : Int) (x6 : Bool) (x7 : List Int) (r : Int × Bool × (List Int) × (List Int) × (List Int)) (h : f72_1 F x1 x2 x3 x4 x5 x6 x7 = some r) : f72_1_C x1 x2 x3 x4 x5 x6 x7 r := by
  unfold f72_1 at h
  obtain ⟨rh1, h1, h⟩ := bind_some h
  have ch1 := f78_ok F F x1 x1 x2 x3 x4 x5 x6 x7 _ h1
  obtain ⟨x8, x9, x10, x11, x12, x13⟩ := rh1
  try dsimp only at h
  obtain rfl := Option.some.inj h
  exact callOK cxOK cxW Try.func72 (by kernel_rfl) (f72_1_e0 x1 x2 x3 x4 x5 x6 x7 x8 x9 x10 x11 x12 x13) ⟨ch1, trivial⟩

theorem f33_ok (F : Nat) (x1 : Int) (x2 : Bool) (x3 : List Int) (r : Int × Bool × (List Int) × Int) (h : f33 F x1 x2 x3 = some r) : f33_C x1 x2 x3 r := by
  unfold f33 at h
  obtain ⟨rh1, h1, h⟩ := bind_some h
  have ch1 := f57_ok F x1 x2 x3 _ h1
  cases rh1 with
  | c0 x4 =>
    try dsimp only at h
    by_cases h2 : (x4 != 0) = true
    · rw [if_pos h2] at h
      obtain rfl := Option.some.inj h
      exact callOK cxOK cxW Try.func33 (by kernel_rfl) (f33_e0 x1 x2 x3 x4) ⟨ch1, h2, trivial⟩
    · rw [if_neg h2] at h
      have h2 := Bool.eq_false_iff.2 h2
      obtain ⟨rh3, h3, h⟩ := bind_some h
      have ch3 := f72_ok F 0 false (List.replicate 16 0) _ h3
      exact nomatch rh3
  | c1 x5 x6 x7 x8 x9 =>
    try dsimp only at h
    by_cases h4 : (x5 != 0) = true
    · rw [if_pos h4] at h
      obtain rfl := Option.some.inj h
      exact callOK cxOK cxW Try.func33 (by kernel_rfl) (f33_e1 x1 x2 x3 x5 x6 x7 x8 x9) ⟨ch1, h4, trivial⟩
    · rw [if_neg h4] at h
      have h4 := Bool.eq_false_iff.2 h4
      obtain ⟨rh5, h5, h⟩ := bind_some h
      have ch5 := f72_1_ok F x6 x7 x8 x9 0 false (List.replicate 16 0) _ h5
      obtain ⟨x10, x11, x12, x13, x14⟩ := rh5
      try dsimp only at h
      by_cases h6 : (eqL x14 [0, 0, 0, 0, 0, 0, 0, 0, 0, 0, 0, 0, 0, 0, 0, 0]) = true
      · rw [if_pos h6] at h
        obtain rfl := Option.some.inj h
        exact callOK cxOK cxW Try.func33 (by kernel_rfl) (f33_e2 x1 x2 x3 x5 x6 x7 x8 x9 x10 x11 x12 x13 x14) ⟨ch1, h4, cxW, ch5, h6, trivial⟩
      · rw [if_neg h6] at h
        have h6 := Bool.eq_false_iff.2 h6
        obtain ⟨rh7, h7, h⟩ := bind_some h
        have ch7 := f62_ok F x14 x10 x11 x12 x13 _ h7
        obtain ⟨x15, x16, x17⟩ := rh7
        try dsimp only at h
        obtain rfl := Option.some.inj h
        exact callOK cxOK cxW Try.func33 (by kernel_rfl) (f33_e3 x1 x2 x3 x5 x6 x7 x8 x9 x10 x11 x12 x13 x14 x15 x16 x17) ⟨ch1, h4, cxW, ch5, h6, ch7, trivial⟩

theorem f72_2_ok (F : Nat) (x1 : Int) (r : f72_2_R) (h : f72_2 F x1 = some r) : f72_2_C x1 r := by
  unfold f72_2 at h
  cases h

theorem f35_y0_ok (F : Nat) (x1 : List Int) (x2 : Int) (x3 : Bool) (x4 : List Int) (x5 : List Int) (x6 : Int) (r : Int) (h : f35_y0 F x1 x2 x3 x4 x5 x6 = some r) : f35_y0_C x1 x2 x3 x4 x5 x6 r := by
  unfold f35_y0 at h
  obtain rfl := Option.some.inj h
  exact yok (R := (f35_y0_Q x1 x2 x3 x4 x5 x6)) cxOK (by kernel_rfl) (by kernel_rfl) (by kernel_rfl) (f35_y0_e0 x1 x2 x3 x4 x5 x6) (fun _ => trivial) (f35_y0_e1 x1 x2 x3 x4 x5 x6) (fun _ => trivial)

theorem f78_1_p1_ok (F : Nat) (x2 : Int) (x3 : Bool) (x4 : List Int) (x5 : List Int) (x6 : Int) : ∀ (k : Nat) (x7 : Int) (r : Int), f78_1_p1 F x2 x3 x4 x5 x6 k x7 = some r → f78_1_p1_P x2 x3 x4 x5 x6 x7 r
  | 0, _, _, h => by cases h
  | k + 1, x7, r, h => by
    unfold f78_1_p1 at h
    by_cases h1 : (decide (x7 > 0)) = true
    · rw [if_pos h1] at h
      obtain ⟨h2, h⟩ := req_some h
      obtain ⟨x8, h3, h⟩ := bind_some h
      try dsimp only at h
      by_cases h4 : (decide (x8 ≥ 0)) = true
      · rw [if_pos h4] at h
        exact Lp.again (gRun_ok cxOK (f78_1_p1_e0 x2 x3 x4 x5 x6 x7 x8) ⟨h1, h1, h1, h1, h1, h2, h1, ⟨x8, h3, rfl⟩, h1, h1, h4, trivial⟩) (f78_1_p1_ok F x2 x3 x4 x5 x6 k (w64 (x7 - 1)) r h)
      · rw [if_neg h4] at h
        have h4 := Bool.eq_false_iff.2 h4
        obtain rfl := Option.some.inj h
        exact Lp.out (gRun_ok cxOK (f78_1_p1_e1 x2 x3 x4 x5 x6 x7 x8) ⟨h1, h1, h1, h1, h1, h2, h1, ⟨x8, h3, rfl⟩, h1, h1, h4, trivial⟩) (by intro hh; cases hh)
    · rw [if_neg h1] at h
      have h1 := Bool.eq_false_iff.2 h1
      obtain rfl := Option.some.inj h
      exact Lp.out (gRun_ok cxOK (f78_1_p1_e2 x2 x3 x4 x5 x6 x7) ⟨h1, h1, h1, h1, h1, h1, h1, h1, rfl, trivial⟩) (by intro hh; cases hh)
theorem f78_1_p6_ok (F : Nat) (rec : Int → Int → Bool → (List Int) → (List Int) → Int → Option (Bool × Int × Bool × (List Int) × (List Int) × Int)) (hrec : ∀ (x1 : Int) (x2 : Int) (x3 : Bool) (x4 : List Int) (x5 : List Int) (x6 : Int) (r : Bool × Int × Bool × (List Int) × (List Int) × Int), rec x1 x2 x3 x4 x5 x6 = some r → f78_1_C x1 x2 x3 x4 x5 x6 r) (x9 : Int) (x11 : Int) : ∀ (k : Nat) (x28 : Int) (x29 : Int) (x30 : Bool) (x31 : List Int) (x32 : List Int) (x33 : Int) (r : f78_1_p6_R), f78_1_p6 F rec x9 x11 k x28 x29 x30 x31 x32 x33 = some r → f78_1_p6_P x9 x11 x28 x29 x30 x31 x32 x33 r
  | 0, _, _, _, _, _, _, _, h => by cases h
  | k + 1, x28, x29, x30, x31, x32, x33, r, h => by
    unfold f78_1_p6 at h
    by_cases h16 : (decide (x28 < x11)) = true
    · rw [if_pos h16] at h
      obtain ⟨rh17, h17, h⟩ := bind_some h
      have ch17 := f60_ok F x9 x28 x29 x30 x31 x32 _ h17
      obtain ⟨x34, rfl⟩ : ∃ z, z = rh17 := ⟨_, rfl⟩
      try dsimp only at h
      by_cases h18 : (x34 != 0) = true
      · rw [if_pos h18] at h
        exact Lp.again (gRun_ok cxOK (f78_1_p6_e0 x9 x11 x28 x29 x30 x31 x32 x33 x34) ⟨h16, ch17, h18, trivial⟩) (f78_1_p6_ok F rec hrec x9 x11 k (w64 (x28 + 1)) x29 x30 x31 x32 x33 r h)
      · rw [if_neg h18] at h
        have h18 := Bool.eq_false_iff.2 h18
        obtain ⟨rh19, h19, h⟩ := bind_some h
        have ch19 := f61_ok F x9 x28 x29 x30 x31 x32 _ h19
        obtain ⟨x35, x36, x37, x38⟩ := rh19
        try dsimp only at h
        obtain ⟨rh20, h20, h⟩ := bind_some h
        have ch20 := hrec (w64 (x9 - 1)) x35 x36 x37 x38 x33 _ h20
        obtain ⟨x39, x40, x41, x42, x43, x44⟩ := rh20
        try dsimp only at h
        obtain ⟨rh21, h21, h⟩ := bind_some h
        have ch21 := f61_ok F x9 x28 x40 x41 x42 x43 _ h21
        obtain ⟨x45, x46, x47, x48⟩ := rh21
        try dsimp only at h
        by_cases h22 : x39 = true
        · rw [if_pos h22] at h
          exact Lp.again (gRun_ok cxOK (f78_1_p6_e1 x9 x11 x28 x29 x30 x31 x32 x33 x34 x35 x36 x37 x38 x39 x40 x41 x42 x43 x44 x45 x46 x47 x48) ⟨h16, ch17, h18, ch19, ch20, ch21, (by rw [h22]; rfl), trivial⟩) (f78_1_p6_ok F rec hrec x9 x11 k (w64 (x28 + 1)) x45 x46 x47 x48 x44 r h)
        · rw [if_neg h22] at h
          have h22 := Bool.eq_false_iff.2 h22
          obtain rfl := Option.some.inj h
          exact Lp.out (gRun_ok cxOK (f78_1_p6_e2 x9 x11 x28 x29 x30 x31 x32 x33 x34 x35 x36 x37 x38 x39 x40 x41 x42 x43 x44 x45 x46 x47 x48) ⟨h16, ch17, h18, ch19, ch20, ch21, (by rw [h22]; rfl), trivial⟩) (by intro hh; cases hh)
    · rw [if_neg h16] at h
      have h16 := Bool.eq_false_iff.2 h16
      obtain rfl := Option.some.inj h
      exact Lp.out (gRun_ok cxOK (f78_1_p6_e3 x9 x11 x28 x29 x30 x31 x32 x33) ⟨h16, trivial⟩) (by intro hh; cases hh)
theorem f78_1_b_ok (F : Nat) (rec : Int → Int → Bool → (List Int) → (List Int) → Int → Option (Bool × Int × Bool × (List Int) × (List Int) × Int)) (hrec : ∀ (x1 : Int) (x2 : Int) (x3 : Bool) (x4 : List Int) (x5 : List Int) (x6 : Int) (r : Bool × Int × Bool × (List Int) × (List Int) × Int), rec x1 x2 x3 x4 x5 x6 = some r → f78_1_C x1 x2 x3 x4 x5 x6 r) (x1 : Int) (x2 : Int) (x3 : Bool) (x4 : List Int) (x5 : List Int) (x6 : Int) (r : Bool × Int × Bool × (List Int) × (List Int) × Int) (h : f78_1_b F rec x1 x2 x3 x4 x5 x6 = some r) : f78_1_C x1 x2 x3 x4 x5 x6 r := by
  unfold f78_1_b at h
  obtain ⟨rh5, h5, h⟩ := bind_some h
  have ch5 := f78_1_p1_ok F x2 x3 x4 x5 x6 F x1 _ h5
  obtain ⟨x9, rfl⟩ : ∃ z, z = rh5 := ⟨_, rfl⟩
  try dsimp only at h
  by_cases h6 : (x9 == 0) = true
  · rw [if_pos h6] at h
    obtain ⟨rh7, h7, h⟩ := bind_some h
    have ch7 := f35_y0_ok F x4 x2 x3 x4 x5 x6 _ h7
    obtain ⟨x10, rfl⟩ : ∃ z, z = rh7 := ⟨_, rfl⟩
    try dsimp only at h
    obtain rfl := Option.some.inj h
    exact callOK cxOK cxW Try.func78 (by kernel_rfl) (f78_1_e0 x1 x2 x3 x4 x5 x6 x9 x10) ⟨ch5, h6, ch7, trivial⟩
  · rw [if_neg h6] at h
    have h6 := Bool.eq_false_iff.2 h6
    obtain ⟨rh8, h8, h⟩ := bind_some h
    have ch8 := f59_ok F x2 x3 x4 x5 _ h8
    obtain ⟨x11, rfl⟩ : ∃ z, z = rh8 := ⟨_, rfl⟩
    try dsimp only at h
    obtain ⟨rh23, h23, h⟩ := bind_some h
    have ch23 := f78_1_p6_ok F rec hrec x9 x11 F 0 x2 x3 x4 x5 x6 _ h23
    cases rh23 with
    | c0 x49 x50 x51 x52 x53 =>
      try dsimp only at h
      obtain rfl := Option.some.inj h
      exact callOK cxOK cxW Try.func78 (by kernel_rfl) (f78_1_e1 x1 x2 x3 x4 x5 x6 x9 x11 x49 x50 x51 x52 x53) ⟨ch5, h6, ch8, ch23, trivial⟩
    | c1 x54 x55 x56 x57 x58 =>
      try dsimp only at h
      obtain rfl := Option.some.inj h
      exact callOK cxOK cxW Try.func78 (by kernel_rfl) (f78_1_e2 x1 x2 x3 x4 x5 x6 x9 x11 x54 x55 x56 x57 x58) ⟨ch5, h6, ch8, ch23, trivial⟩
theorem f78_1_ok (F : Nat) : ∀ (k : Nat) (x1 : Int) (x2 : Int) (x3 : Bool) (x4 : List Int) (x5 : List Int) (x6 : Int) (r : Bool × Int × Bool × (List Int) × (List Int) × Int), f78_1 F k x1 x2 x3 x4 x5 x6 = some r → f78_1_C x1 x2 x3 x4 x5 x6 r
  | 0, _, _, _, _, _, _, _, h => by cases h
  | k + 1, x1, x2, x3, x4, x5, x6, r, h => f78_1_b_ok F (f78_1 F k) (f78_1_ok F k) x1 x2 x3 x4 x5 x6 r h

theorem f72_3_ok (F : Nat) (x1 : Int) (x2 : Bool) (x3 : List Int) (x4 : List Int) (x5 : Int) (r : Int × Bool × (List Int) × (List Int) × Int) (h : f72_3 F x1 x2 x3 x4 x5 = some r) : f72_3_C x1 x2 x3 x4 x5 r := by
  unfold f72_3 at h
  obtain ⟨rh1, h1, h⟩ := bind_some h
  have ch1 := f78_1_ok F F x1 x1 x2 x3 x4 x5 _ h1
  obtain ⟨x6, x7, x8, x9, x10, x11⟩ := rh1
  try dsimp only at h
  obtain rfl := Option.some.inj h
  exact callOK cxOK cxW Try.func72 (by kernel_rfl) (f72_3_e0 x1 x2 x3 x4 x5 x6 x7 x8 x9 x10 x11) ⟨ch1, trivial⟩

theorem f35_ok (F : Nat) (x1 : Int) (x2 : Bool) (x3 : List Int) (r : Int × Int) (h : f35 F x1 x2 x3 = some r) : f35_C x1 x2 x3 r := by
  unfold f35 at h
  obtain ⟨rh1, h1, h⟩ := bind_some h
  have ch1 := f57_ok F x1 x2 x3 _ h1
  cases rh1 with
  | c0 x4 =>
    try dsimp only at h
    by_cases h2 : (x4 != 0) = true
    · rw [if_pos h2] at h
      obtain rfl := Option.some.inj h
      exact callOK cxOK cxW Try.func35 (by kernel_rfl) (f35_e0 x1 x2 x3 x4) ⟨ch1, h2, trivial⟩
    · rw [if_neg h2] at h
      have h2 := Bool.eq_false_iff.2 h2
      obtain ⟨rh3, h3, h⟩ := bind_some h
      have ch3 := f72_2_ok F 0 _ h3
      exact nomatch rh3
  | c1 x5 x6 x7 x8 x9 =>
    try dsimp only at h
    by_cases h4 : (x5 != 0) = true
    · rw [if_pos h4] at h
      obtain rfl := Option.some.inj h
      exact callOK cxOK cxW Try.func35 (by kernel_rfl) (f35_e1 x1 x2 x3 x5 x6 x7 x8 x9) ⟨ch1, h4, trivial⟩
    · rw [if_neg h4] at h
      have h4 := Bool.eq_false_iff.2 h4
      obtain ⟨rh5, h5, h⟩ := bind_some h
      have ch5 := f72_3_ok F x6 x7 x8 x9 0 _ h5
      obtain ⟨x10, x11, x12, x13, x14⟩ := rh5
      try dsimp only at h
      obtain rfl := Option.some.inj h
      exact callOK cxOK cxW Try.func35 (by kernel_rfl) (f35_e2 x1 x2 x3 x5 x6 x7 x8 x9 x10 x11 x12 x13 x14) ⟨ch1, h4, cxW, ch5, trivial⟩

theorem f44_2_ok (F : Nat) (x1 : List Int) (r : (List Int)) (h : f44_2 F x1 = some r) : f44_2_C x1 r := by
  unfold f44_2 at h
  obtain ⟨h1, h⟩ := req_some h
  obtain ⟨h2, h⟩ := req_some h
  obtain rfl := Option.some.inj h
  exact callOK cxOK cxW Try.func44 (by kernel_rfl) (f44_2_e0 x1) ⟨h1, rfl, h2, (.inl rfl), trivial⟩

theorem f62_1_ok (F : Nat) (x1 : List Int) (x2 : Int) (x3 : Bool) (x4 : List Int) (x5 : List Int) (r : Int × Bool × (List Int)) (h : f62_1 F x1 x2 x3 x4 x5 = some r) : f62_1_C x1 x2 x3 x4 x5 r := by
  unfold f62_1 at h
  obtain ⟨rh1, h1, h⟩ := bind_some h
  have ch1 := f59_ok F x2 x3 x4 x5 _ h1
  obtain ⟨x6, rfl⟩ : ∃ z, z = rh1 := ⟨_, rfl⟩
  try dsimp only at h
  obtain ⟨h2, h⟩ := req_some h
  obtain ⟨rh3, h3, h⟩ := bind_some h
  have ch3 := f44_2_ok F (List.drop 0 (List.take (0 + (Int.toNat x6)) x1)) _ h3
  obtain ⟨x7, rfl⟩ : ∃ z, z = rh3 := ⟨_, rfl⟩
  try dsimp only at h
  obtain ⟨h4, h⟩ := req_some h
  obtain rfl := Option.some.inj h
  exact callOK cxOK cxW Try.func62 (by kernel_rfl) (f62_1_e0 x1 x2 x3 x4 x5 x6 x7) ⟨ch1, h2, ch3, h4, trivial⟩

theorem f76_p1_ok (F : Nat) (x1 : Nat) (x2 : Nat) : ∀ (k : Nat) (x9 : Int) (x10 : Int) (x8 : List Int) (r : (List Int)), f76_p1 F x1 x2 k x9 x10 x8 = some r → f76_p1_P x1 x2 x9 x10 x8 r
  | 0, _, _, _, _, h => by cases h
  | k + 1, x9, x10, x8, r, h => by
    unfold f76_p1 at h
    by_cases h8 : (decide (x9 < x10)) = true
    · rw [if_pos h8] at h
      obtain ⟨h9, h⟩ := req_some h
      obtain ⟨x11, h10, h⟩ := bind_some h
      try dsimp only at h
      obtain ⟨h11, h⟩ := req_some h
      obtain ⟨x12, h12, h⟩ := bind_some h
      try dsimp only at h
      obtain ⟨h13, h⟩ := req_some h
      obtain ⟨h14, h⟩ := req_some h
      exact Lp.again (gRun_ok cxOK (f76_p1_e0 x1 x2 x8 x9 x10 x11 x12) ⟨h8, h9, ⟨x11, h10, rfl⟩, h11, ⟨x12, h12, rfl⟩, h11, h13, h9, h14, trivial⟩) (f76_p1_ok F x1 x2 k (w64 (x9 + 1)) (w64 (x10 - 1)) (List.set (List.set x8 (x1 + (Int.toNat x9)) x11) (x1 + (Int.toNat x10)) x12) r h)
    · rw [if_neg h8] at h
      have h8 := Bool.eq_false_iff.2 h8
      obtain rfl := Option.some.inj h
      exact Lp.out (gRun_ok cxOK (f76_p1_e1 x1 x2 x8 x9 x10) ⟨h8, trivial⟩) (by intro hh; cases hh)
theorem f76_ok (F : Nat) (x1 : Nat) (x2 : Nat) (x3 : List Int) (r : (List Int)) (h : f76 F x1 x2 x3 = some r) : f76_C x1 x2 x3 r := by
  unfold f76 at h
  obtain ⟨rh15, h15, h⟩ := bind_some h
  have ch15 := f76_p1_ok F x1 x2 F 0 (w64 (((x2 : Nat) : Int) - 1)) x3 _ h15
  obtain ⟨x13, rfl⟩ : ∃ z, z = rh15 := ⟨_, rfl⟩
  try dsimp only at h
  obtain rfl := Option.some.inj h
  exact callOK cxOK cxW Try.func76 (by kernel_rfl) (f76_e0 x1 x2 x3 x13) ⟨ch15, trivial⟩

theorem f47_ok (F : Nat) (x1 : Int) (x2 : Bool) (x3 : List Int) (r : Int × Bool × (List Int) × Int) (h : f47 F x1 x2 x3 = some r) : f47_C x1 x2 x3 r := by
  unfold f47 at h
  obtain ⟨rh1, h1, h⟩ := bind_some h
  have ch1 := f57_ok F x1 x2 x3 _ h1
  cases rh1 with
  | c0 x4 =>
    try dsimp only at h
    by_cases h2 : (x4 != 0) = true
    · rw [if_pos h2] at h
      obtain rfl := Option.some.inj h
      exact callOK cxOK cxW Try.func47 (by kernel_rfl) (f47_e0 x1 x2 x3 x4) ⟨ch1, h2, trivial⟩
    · rw [if_neg h2] at h
      have h2 := Bool.eq_false_iff.2 h2
      cases h
  | c1 x5 x6 x7 x8 x9 =>
    try dsimp only at h
    by_cases h3 : (x5 != 0) = true
    · rw [if_pos h3] at h
      obtain rfl := Option.some.inj h
      exact callOK cxOK cxW Try.func47 (by kernel_rfl) (f47_e1 x1 x2 x3 x5 x6 x7 x8 x9) ⟨ch1, h3, trivial⟩
    · rw [if_neg h3] at h
      have h3 := Bool.eq_false_iff.2 h3
      obtain ⟨rh4, h4, h⟩ := bind_some h
      have ch4 := f62_1_ok F x8 x6 x7 x8 x9 _ h4
      obtain ⟨x10, x11, x12⟩ := rh4
      try dsimp only at h
      obtain ⟨rh5, h5, h⟩ := bind_some h
      have ch5 := f76_ok F 0 (List.length x12) x12 _ h5
      obtain ⟨x13, rfl⟩ : ∃ z, z = rh5 := ⟨_, rfl⟩
      try dsimp only at h
      obtain ⟨h6, h⟩ := req_some h
      obtain rfl := Option.some.inj h
      exact callOK cxOK cxW Try.func47 (by kernel_rfl) (f47_e2 x1 x2 x3 x5 x6 x7 x8 x9 x10 x11 x12 x13) ⟨ch1, h3, ch4, ch5, h6, trivial⟩

theorem f55_ok (F : Nat) (x1 : List Int) (r : (List Int)) (h : f55 F x1 = some r) : f55_C x1 r := by
  unfold f55 at h
  obtain rfl := Option.some.inj h
  exact callOK cxOK cxW Try.func55 (by kernel_rfl) (f55_e0 x1) trivial

theorem f22_p2_ok (F : Nat) (x1 : List Int) (x2 : List Int) : ∀ (k : Nat) (x3 : Int) (r : f22_p2_R), f22_p2 F x1 x2 k x3 = some r → f22_p2_P x1 x2 x3 r
  | 0, _, _, h => by cases h
  | k + 1, x3, r, h => by
    unfold f22_p2 at h
    by_cases h2 : (decide (x3 < ((List.length x1 : Nat) : Int))) = true
    · rw [if_pos h2] at h
      obtain ⟨x4, h3, h⟩ := bind_some h
      try dsimp only at h
      obtain ⟨x5, h4, h⟩ := bind_some h
      try dsimp only at h
      by_cases h5 : (x4 != x5) = true
      · rw [if_pos h5] at h
        obtain rfl := Option.some.inj h
        exact Lp.out (gRun_ok cxOK (f22_p2_e0 x1 x2 x3 x4 x5) ⟨h2, ⟨(at?_spec h3).1, x4, (at?_spec h3).2, rfl⟩, ⟨(at?_spec h4).1, x5, (at?_spec h4).2, rfl⟩, h5, trivial⟩) (by intro hh; cases hh)
      · rw [if_neg h5] at h
        have h5 := Bool.eq_false_iff.2 h5
        exact Lp.again (gRun_ok cxOK (f22_p2_e1 x1 x2 x3 x4 x5) ⟨h2, ⟨(at?_spec h3).1, x4, (at?_spec h3).2, rfl⟩, ⟨(at?_spec h4).1, x5, (at?_spec h4).2, rfl⟩, h5, trivial⟩) (f22_p2_ok F x1 x2 k (w64 (x3 + 1)) r h)
    · rw [if_neg h2] at h
      have h2 := Bool.eq_false_iff.2 h2
      obtain rfl := Option.some.inj h
      exact Lp.out (gRun_ok cxOK (f22_p2_e2 x1 x2 x3) ⟨h2, trivial⟩) (by intro hh; cases hh)
theorem f22_ok (F : Nat) (x1 : List Int) (x2 : List Int) (r : Bool) (h : f22 F x1 x2 = some r) : f22_C x1 x2 r := by
  unfold f22 at h
  by_cases h1 : (((List.length x1 : Nat) : Int) != ((List.length x2 : Nat) : Int)) = true
  · rw [if_pos h1] at h
    obtain rfl := Option.some.inj h
    exact callOK cxOK cxW Try.func22 (by kernel_rfl) (f22_e0 x1 x2) ⟨h1, trivial⟩
  · rw [if_neg h1] at h
    have h1 := Bool.eq_false_iff.2 h1
    obtain ⟨rh6, h6, h⟩ := bind_some h
    have ch6 := f22_p2_ok F x1 x2 F 0 _ h6
    cases rh6 with
    | c0 =>
      try dsimp only at h
      obtain rfl := Option.some.inj h
      exact callOK cxOK cxW Try.func22 (by kernel_rfl) (f22_e1 x1 x2) ⟨h1, ch6, trivial⟩
    | c1 =>
      try dsimp only at h
      obtain rfl := Option.some.inj h
      exact callOK cxOK cxW Try.func22 (by kernel_rfl) (f22_e2 x1 x2) ⟨h1, ch6, trivial⟩

theorem f14_ok (F : Nat) (r : Bool) (h : f14 F = some r) : f14_C r := by
  unfold f14 at h
  obtain ⟨rh1, h1, h⟩ := bind_some h
  have ch1 := f54_ok F _ h1
  obtain ⟨x1, x2, x3⟩ := rh1
  try dsimp only at h
  obtain ⟨rh2, h2, h⟩ := bind_some h
  have ch2 := f48_ok F x1 x2 x3 _ h2
  obtain ⟨x4, x5⟩ := rh2
  try dsimp only at h
  obtain ⟨rh3, h3, h⟩ := bind_some h
  have ch3 := f29_ok F 3 false _ h3
  obtain ⟨x6, x7⟩ := rh3
  try dsimp only at h
  obtain ⟨rh4, h4, h⟩ := bind_some h
  have ch4 := f31_ok F 4 false _ h4
  obtain ⟨x8, x9⟩ := rh4
  try dsimp only at h
  obtain ⟨rh5, h5, h⟩ := bind_some h
  have ch5 := f53_ok F _ h5
  obtain ⟨x10, x11, x12⟩ := rh5
  try dsimp only at h
  obtain ⟨rh6, h6, h⟩ := bind_some h
  have ch6 := f19_ok F x10 x11 x12 2 _ h6
  obtain ⟨x13, x14⟩ := rh6
  try dsimp only at h
  obtain ⟨rh7, h7, h⟩ := bind_some h
  have ch7 := f53_ok F _ h7
  obtain ⟨x15, x16, x17⟩ := rh7
  try dsimp only at h
  obtain ⟨rh8, h8, h⟩ := bind_some h
  have ch8 := f15_ok F x15 x16 x17 4 3 _ h8
  obtain ⟨x18, x19, x20, x21⟩ := rh8
  try dsimp only at h
  obtain ⟨rh9, h9, h⟩ := bind_some h
  have ch9 := f54_ok F _ h9
  obtain ⟨x22, x23, x24⟩ := rh9
  try dsimp only at h
  obtain ⟨rh10, h10, h⟩ := bind_some h
  have ch10 := f17_ok F x22 x23 x24 2 _ h10
  obtain ⟨x25, x26, x27, x28⟩ := rh10
  try dsimp only at h
  obtain ⟨rh11, h11, h⟩ := bind_some h
  have ch11 := f54_ok F _ h11
  obtain ⟨x29, x30, x31⟩ := rh11
  try dsimp only at h
  obtain ⟨rh12, h12, h⟩ := bind_some h
  have ch12 := f23_ok F x29 x30 x31 5 _ h12
  obtain ⟨x32, x33⟩ := rh12
  try dsimp only at h
  by_cases h13 : (x5 != 0) = true
  · rw [if_pos h13] at h
    cases h
  · rw [if_neg h13] at h
    have h13 := Bool.eq_false_iff.2 h13
    by_cases h14 : (x7 != 0) = true
    · rw [if_pos h14] at h
      cases h
    · rw [if_neg h14] at h
      have h14 := Bool.eq_false_iff.2 h14
      by_cases h15 : (x9 != 0) = true
      · rw [if_pos h15] at h
        cases h
      · rw [if_neg h15] at h
        have h15 := Bool.eq_false_iff.2 h15
        by_cases h16 : (x14 != 0) = true
        · rw [if_pos h16] at h
          cases h
        · rw [if_neg h16] at h
          have h16 := Bool.eq_false_iff.2 h16
          by_cases h17 : (x21 != 0) = true
          · rw [if_pos h17] at h
            cases h
          · rw [if_neg h17] at h
            have h17 := Bool.eq_false_iff.2 h17
            by_cases h18 : (x28 != 0) = true
            · rw [if_pos h18] at h
              cases h
            · rw [if_neg h18] at h
              have h18 := Bool.eq_false_iff.2 h18
              by_cases h19 : (x33 != 0) = true
              · rw [if_pos h19] at h
                cases h
              · rw [if_neg h19] at h
                have h19 := Bool.eq_false_iff.2 h19
                obtain ⟨rh20, h20, h⟩ := bind_some h
                have ch20 := f54_ok F _ h20
                obtain ⟨x34, x35, x36⟩ := rh20
                try dsimp only at h
                obtain ⟨rh21, h21, h⟩ := bind_some h
                have ch21 := f25_ok F x34 x35 x36 3 _ h21
                obtain ⟨x37, x38⟩ := rh21
                try dsimp only at h
                obtain ⟨rh22, h22, h⟩ := bind_some h
                have ch22 := f54_ok F _ h22
                obtain ⟨x39, x40, x41⟩ := rh22
                try dsimp only at h
                obtain ⟨rh23, h23, h⟩ := bind_some h
                have ch23 := f27_ok F x39 x40 x41 2 _ h23
                obtain ⟨x42, x43⟩ := rh23
                try dsimp only at h
                obtain ⟨rh24, h24, h⟩ := bind_some h
                have ch24 := f53_ok F _ h24
                obtain ⟨x44, x45, x46⟩ := rh24
                try dsimp only at h
                obtain ⟨rh25, h25, h⟩ := bind_some h
                have ch25 := f33_ok F x44 x45 x46 _ h25
                obtain ⟨x47, x48, x49, x50⟩ := rh25
                try dsimp only at h
                obtain ⟨rh26, h26, h⟩ := bind_some h
                have ch26 := f56_ok F true ([0, 0, 0, 0, 0, 0] : List Int) _ h26
                obtain ⟨x51, x52, x53⟩ := rh26
                try dsimp only at h
                obtain ⟨rh27, h27, h⟩ := bind_some h
                have ch27 := f35_ok F x51 x52 x53 _ h27
                obtain ⟨x54, x55⟩ := rh27
                try dsimp only at h
                obtain ⟨rh28, h28, h⟩ := bind_some h
                have ch28 := f54_ok F _ h28
                obtain ⟨x56, x57, x58⟩ := rh28
                try dsimp only at h
                obtain ⟨rh29, h29, h⟩ := bind_some h
                have ch29 := f47_ok F x56 x57 x58 _ h29
                obtain ⟨x59, x60, x61, x62⟩ := rh29
                try dsimp only at h
                obtain ⟨rh30, h30, h⟩ := bind_some h
                have ch30 := f56_ok F true ([0, 0, 0, 0] : List Int) _ h30
                obtain ⟨x63, x64, x65⟩ := rh30
                try dsimp only at h
                obtain ⟨rh31, h31, h⟩ := bind_some h
                have ch31 := f33_ok F x63 x64 x65 _ h31
                obtain ⟨x66, x67, x68, x69⟩ := rh31
                try dsimp only at h
                obtain ⟨rh32, h32, h⟩ := bind_some h
                have ch32 := f31_ok F 3 false _ h32
                obtain ⟨x70, x71⟩ := rh32
                try dsimp only at h
                by_cases h33 : (x38 == 0) = true
                · rw [if_pos h33] at h
                  by_cases h34 : (x43 == 0) = true
                  · rw [if_pos h34] at h
                    by_cases h35 : (x50 == 0) = true
                    · rw [if_pos h35] at h
                      by_cases h36 : (x55 == 0) = true
                      · rw [if_pos h36] at h
                        by_cases h37 : (x62 == 0) = true
                        · rw [if_pos h37] at h
                          by_cases h38 : (x69 == 12) = true
                          · rw [if_pos h38] at h
                            by_cases h39 : (x71 == 12) = true
                            · rw [if_pos h39] at h
                              by_cases h40 : x4 = true
                              · rw [if_pos h40] at h
                                by_cases h41 : x6 = true
                                · rw [if_pos h41] at h
                                  cases h
                                · rw [if_neg h41] at h
                                  have h41 := Bool.eq_false_iff.2 h41
                                  by_cases h42 : (x8 == 9) = true
                                  · rw [if_pos h42] at h
                                    obtain ⟨rh43, h43, h⟩ := bind_some h
                                    have ch43 := f55_ok F ([1, 4] : List Int) _ h43
                                    obtain ⟨x72, rfl⟩ : ∃ z, z = rh43 := ⟨_, rfl⟩
                                    try dsimp only at h
                                    obtain ⟨rh44, h44, h⟩ := bind_some h
                                    have ch44 := f22_ok F x13 x72 _ h44
                                    obtain ⟨x73, rfl⟩ : ∃ z, z = rh44 := ⟨_, rfl⟩
                                    try dsimp only at h
                                    by_cases h45 : x73 = true
                                    · rw [if_pos h45] at h
                                      obtain ⟨rh46, h46, h⟩ := bind_some h
                                      have ch46 := f55_ok F ([0, 0, 3, 4, 0, 3, 0, 4] : List Int) _ h46
                                      obtain ⟨x74, rfl⟩ : ∃ z, z = rh46 := ⟨_, rfl⟩
                                      try dsimp only at h
                                      obtain ⟨rh47, h47, h⟩ := bind_some h
                                      have ch47 := f22_ok F x20 x74 _ h47
                                      obtain ⟨x75, rfl⟩ : ∃ z, z = rh47 := ⟨_, rfl⟩
                                      try dsimp only at h
                                      by_cases h48 : x75 = true
                                      · rw [if_pos h48] at h
                                        obtain ⟨rh49, h49, h⟩ := bind_some h
                                        have ch49 := f55_ok F ([0, 3, 1, 0, 1, 3] : List Int) _ h49
                                        obtain ⟨x76, rfl⟩ : ∃ z, z = rh49 := ⟨_, rfl⟩
                                        try dsimp only at h
                                        obtain ⟨rh50, h50, h⟩ := bind_some h
                                        have ch50 := f22_ok F x27 x76 _ h50
                                        obtain ⟨x77, rfl⟩ : ∃ z, z = rh50 := ⟨_, rfl⟩
                                        try dsimp only at h
                                        by_cases h51 : x77 = true
                                        · rw [if_pos h51] at h
                                          by_cases h52 : (x32 == 1) = true
                                          · rw [if_pos h52] at h
                                            obtain ⟨rh53, h53, h⟩ := bind_some h
                                            have ch53 := f55_ok F ([1, 2, 1] : List Int) _ h53
                                            obtain ⟨x78, rfl⟩ : ∃ z, z = rh53 := ⟨_, rfl⟩
                                            try dsimp only at h
                                            obtain ⟨rh54, h54, h⟩ := bind_some h
                                            have ch54 := f22_ok F x37 x78 _ h54
                                            obtain ⟨x79, rfl⟩ : ∃ z, z = rh54 := ⟨_, rfl⟩
                                            try dsimp only at h
                                            by_cases h55 : x79 = true
                                            · rw [if_pos h55] at h
                                              obtain ⟨rh56, h56, h⟩ := bind_some h
                                              have ch56 := f55_ok F ([1, 3] : List Int) _ h56
                                              obtain ⟨x80, rfl⟩ : ∃ z, z = rh56 := ⟨_, rfl⟩
                                              try dsimp only at h
                                              obtain ⟨rh57, h57, h⟩ := bind_some h
                                              have ch57 := f22_ok F x42 x80 _ h57
                                              obtain ⟨x81, rfl⟩ : ∃ z, z = rh57 := ⟨_, rfl⟩
                                              try dsimp only at h
                                              by_cases h58 : x81 = true
                                              · rw [if_pos h58] at h
                                                obtain ⟨rh59, h59, h⟩ := bind_some h
                                                have ch59 := f55_ok F ([1, 1, 3, 4, 2, 3, 2, 4] : List Int) _ h59
                                                obtain ⟨x82, rfl⟩ : ∃ z, z = rh59 := ⟨_, rfl⟩
                                                try dsimp only at h
                                                obtain ⟨rh60, h60, h⟩ := bind_some h
                                                have ch60 := f22_ok F x49 x82 _ h60
                                                obtain ⟨x83, rfl⟩ : ∃ z, z = rh60 := ⟨_, rfl⟩
                                                try dsimp only at h
                                                by_cases h61 : x83 = true
                                                · rw [if_pos h61] at h
                                                  by_cases h62 : (x54 == 2) = true
                                                  · rw [if_pos h62] at h
                                                    obtain ⟨rh63, h63, h⟩ := bind_some h
                                                    have ch63 := f55_ok F ([3, 1, 2, 1, 3, 2] : List Int) _ h63
                                                    obtain ⟨x84, rfl⟩ : ∃ z, z = rh63 := ⟨_, rfl⟩
                                                    try dsimp only at h
                                                    obtain ⟨rh64, h64, h⟩ := bind_some h
                                                    have ch64 := f22_ok F x61 x84 _ h64
                                                    obtain ⟨x85, rfl⟩ : ∃ z, z = rh64 := ⟨_, rfl⟩
                                                    try dsimp only at h
                                                    obtain rfl := Option.some.inj h
                                                    exact callOK cxOK cxW Try.func14 (by kernel_rfl) (f14_e0 x1 x2 x3 x4 x5 x6 x7 x8 x9 x10 x11 x12 x13 x14 x15 x16 x17 x18 x19 x20 x21 x22 x23 x24 x25 x26 x27 x28 x29 x30 x31 x32 x33 x34 x35 x36 x37 x38 x39 x40 x41 x42 x43 x44 x45 x46 x47 x48 x49 x50 x51 x52 x53 x54 x55 x56 x57 x58 x59 x60 x61 x62 x63 x64 x65 x66 x67 x68 x69 x70 x71 x72 x73 x74 x75 x76 x77 x78 x79 x80 x81 x82 x83 x84 x85) ⟨ch1, ch2, ch3, ch4, ch5, ch6, ch7, ch8, ch9, ch10, ch11, ch12, h13, h13, h13, h14, h14, h14, h15, h15, h15, h16, h16, h16, h17, h17, h17, h18, h18, h18, h19, ch20, ch21, ch22, ch23, ch24, ch25, ch26, ch27, ch28, ch29, ch30, ch31, ch32, h33, h33, h33, h34, h34, h34, h35, h35, h35, h36, h36, h36, h37, h37, h37, h38, h38, h38, h39, h39, h40, h40, h40, (by rw [h41]; rfl), (by rw [h41]; rfl), (by rw [h41]; rfl), h42, h42, h42, ch43, h42, ch44, h42, h45, h45, h45, h45, ch46, h45, ch47, h45, h48, h48, h48, h48, ch49, h48, ch50, h48, h51, h51, h51, h52, h52, h52, ch53, h52, ch54, h52, h55, h55, h55, ch56, h55, ch57, h55, h58, h58, h58, h58, ch59, h58, ch60, h58, h61, h61, h61, h62, h62, h62, h62, ch63, h62, ch64, h62, trivial⟩
                                                  · rw [if_neg h62] at h
                                                    have h62 := Bool.eq_false_iff.2 h62
                                                    cases h
                                                · rw [if_neg h61] at h
                                                  have h61 := Bool.eq_false_iff.2 h61
                                                  cases h
                                              · rw [if_neg h58] at h
                                                have h58 := Bool.eq_false_iff.2 h58
                                                cases h
                                            · rw [if_neg h55] at h
                                              have h55 := Bool.eq_false_iff.2 h55
                                              cases h
                                          · rw [if_neg h52] at h
                                            have h52 := Bool.eq_false_iff.2 h52
                                            cases h
                                        · rw [if_neg h51] at h
                                          have h51 := Bool.eq_false_iff.2 h51
                                          cases h
                                      · rw [if_neg h48] at h
                                        have h48 := Bool.eq_false_iff.2 h48
                                        cases h
                                    · rw [if_neg h45] at h
                                      have h45 := Bool.eq_false_iff.2 h45
                                      cases h
                                  · rw [if_neg h42] at h
                                    have h42 := Bool.eq_false_iff.2 h42
                                    cases h
                              · rw [if_neg h40] at h
                                have h40 := Bool.eq_false_iff.2 h40
                                cases h
                            · rw [if_neg h39] at h
                              have h39 := Bool.eq_false_iff.2 h39
                              cases h
                          · rw [if_neg h38] at h
                            have h38 := Bool.eq_false_iff.2 h38
                            cases h
                        · rw [if_neg h37] at h
                          have h37 := Bool.eq_false_iff.2 h37
                          cases h
                      · rw [if_neg h36] at h
                        have h36 := Bool.eq_false_iff.2 h36
                        cases h
                    · rw [if_neg h35] at h
                      have h35 := Bool.eq_false_iff.2 h35
                      cases h
                  · rw [if_neg h34] at h
                    have h34 := Bool.eq_false_iff.2 h34
                    cases h
                · rw [if_neg h33] at h
                  have h33 := Bool.eq_false_iff.2 h33
                  cases h

theorem f37_ok (F : Nat) (x1 : Int) (x2 : Bool) (r : Int) (h : f37 F x1 x2 = some r) : f37_C x1 x2 r := by
  unfold f37 at h
  by_cases h1 : x2 = true
  · rw [if_pos h1] at h
    obtain rfl := Option.some.inj h
    exact callOK cxOK cxW Try.func37 (by kernel_rfl) (f37_e0 x1 x2) ⟨h1, trivial⟩
  · rw [if_neg h1] at h
    have h1 := Bool.eq_false_iff.2 h1
    obtain rfl := Option.some.inj h
    exact callOK cxOK cxW Try.func37 (by kernel_rfl) (f37_e1 x1 x2) ⟨h1, trivial⟩

theorem f42_1_p1_ok (F : Nat) (x1 : List Int) (x2 : Option (List Int)) : ∀ (k : Nat) (x3 : Int) (r : f42_1_p1_R), f42_1_p1 F x1 x2 k x3 = some r → f42_1_p1_P x1 x2 x3 r
  | 0, _, _, h => by cases h
  | k + 1, x3, r, h => by
    unfold f42_1_p1 at h
    by_cases h1 : (decide (x3 < ((List.length x1 : Nat) : Int))) = true
    · rw [if_pos h1] at h
      obtain ⟨x4, h2, h⟩ := bind_some h
      try dsimp only at h
      by_cases h3 : (decide (x3 ≥ ((List.length ((x2).getD []) : Nat) : Int))) = true
      · rw [if_pos h3] at h
        obtain rfl := Option.some.inj h
        exact Lp.out (gRun_ok cxOK (f42_1_p1_e0 x1 x2 x3 x4) ⟨h1, ⟨(at?_spec h2).1, x4, (at?_spec h2).2, rfl⟩, h3, trivial⟩) (by intro hh; cases hh)
      · rw [if_neg h3] at h
        have h3 := Bool.eq_false_iff.2 h3
        obtain ⟨x5, h4, h⟩ := bind_some h
        try dsimp only at h
        obtain ⟨rh5, h5, h⟩ := bind_some h
        have ch5 := f75_ok F x4 x5 _ h5
        obtain ⟨x6, rfl⟩ : ∃ z, z = rh5 := ⟨_, rfl⟩
        try dsimp only at h
        by_cases h6 : (x6 != 0) = true
        · rw [if_pos h6] at h
          obtain rfl := Option.some.inj h
          exact Lp.out (gRun_ok cxOK (f42_1_p1_e1 x1 x2 x3 x4 x5 x6) ⟨h1, ⟨(at?_spec h2).1, x4, (at?_spec h2).2, rfl⟩, h3, ⟨(at?_spec h4).1, x5, (at?_spec h4).2, rfl⟩, ch5, h6, trivial⟩) (by intro hh; cases hh)
        · rw [if_neg h6] at h
          have h6 := Bool.eq_false_iff.2 h6
          exact Lp.again (gRun_ok cxOK (f42_1_p1_e2 x1 x2 x3 x4 x5 x6) ⟨h1, ⟨(at?_spec h2).1, x4, (at?_spec h2).2, rfl⟩, h3, ⟨(at?_spec h4).1, x5, (at?_spec h4).2, rfl⟩, ch5, h6, trivial⟩) (f42_1_p1_ok F x1 x2 k (w64 (x3 + 1)) r h)
    · rw [if_neg h1] at h
      have h1 := Bool.eq_false_iff.2 h1
      obtain rfl := Option.some.inj h
      exact Lp.out (gRun_ok cxOK (f42_1_p1_e3 x1 x2 x3) ⟨h1, trivial⟩) (by intro hh; cases hh)
theorem f42_1_ok (F : Nat) (x1 : List Int) (x2 : Option (List Int)) (r : Int) (h : f42_1 F x1 x2 = some r) : f42_1_C x1 x2 r := by
  unfold f42_1 at h
  obtain ⟨rh7, h7, h⟩ := bind_some h
  have ch7 := f42_1_p1_ok F x1 x2 F 0 _ h7
  cases rh7 with
  | c0 x7 =>
    try dsimp only at h
    obtain rfl := Option.some.inj h
    exact callOK cxOK cxW Try.func42 (by kernel_rfl) (f42_1_e0 x1 x2 x7) ⟨ch7, trivial⟩
  | c1 =>
    try dsimp only at h
    by_cases h8 : (decide (((List.length x1 : Nat) : Int) < ((List.length ((x2).getD []) : Nat) : Int))) = true
    · rw [if_pos h8] at h
      obtain rfl := Option.some.inj h
      exact callOK cxOK cxW Try.func42 (by kernel_rfl) (f42_1_e1 x1 x2) ⟨ch7, h8, trivial⟩
    · rw [if_neg h8] at h
      have h8 := Bool.eq_false_iff.2 h8
      obtain rfl := Option.some.inj h
      exact callOK cxOK cxW Try.func42 (by kernel_rfl) (f42_1_e2 x1 x2) ⟨ch7, h8, trivial⟩

theorem f22_1_p2_ok (F : Nat) (x1 : List Int) (x2 : Option (List Int)) : ∀ (k : Nat) (x3 : Int) (r : f22_1_p2_R), f22_1_p2 F x1 x2 k x3 = some r → f22_1_p2_P x1 x2 x3 r
  | 0, _, _, h => by cases h
  | k + 1, x3, r, h => by
    unfold f22_1_p2 at h
    by_cases h2 : (decide (x3 < ((List.length x1 : Nat) : Int))) = true
    · rw [if_pos h2] at h
      obtain ⟨x4, h3, h⟩ := bind_some h
      try dsimp only at h
      obtain ⟨x5, h4, h⟩ := bind_some h
      try dsimp only at h
      by_cases h5 : (x4 != x5) = true
      · rw [if_pos h5] at h
        obtain rfl := Option.some.inj h
        exact Lp.out (gRun_ok cxOK (f22_1_p2_e0 x1 x2 x3 x4 x5) ⟨h2, ⟨(at?_spec h3).1, x4, (at?_spec h3).2, rfl⟩, ⟨(at?_spec h4).1, x5, (at?_spec h4).2, rfl⟩, h5, trivial⟩) (by intro hh; cases hh)
      · rw [if_neg h5] at h
        have h5 := Bool.eq_false_iff.2 h5
        exact Lp.again (gRun_ok cxOK (f22_1_p2_e1 x1 x2 x3 x4 x5) ⟨h2, ⟨(at?_spec h3).1, x4, (at?_spec h3).2, rfl⟩, ⟨(at?_spec h4).1, x5, (at?_spec h4).2, rfl⟩, h5, trivial⟩) (f22_1_p2_ok F x1 x2 k (w64 (x3 + 1)) r h)
    · rw [if_neg h2] at h
      have h2 := Bool.eq_false_iff.2 h2
      obtain rfl := Option.some.inj h
      exact Lp.out (gRun_ok cxOK (f22_1_p2_e2 x1 x2 x3) ⟨h2, trivial⟩) (by intro hh; cases hh)
theorem f22_1_ok (F : Nat) (x1 : List Int) (x2 : Option (List Int)) (r : Bool) (h : f22_1 F x1 x2 = some r) : f22_1_C x1 x2 r := by
  unfold f22_1 at h
  by_cases h1 : (((List.length x1 : Nat) : Int) != ((List.length ((x2).getD []) : Nat) : Int)) = true
  · rw [if_pos h1] at h
    obtain rfl := Option.some.inj h
    exact callOK cxOK cxW Try.func22 (by kernel_rfl) (f22_1_e0 x1 x2) ⟨h1, trivial⟩
  · rw [if_neg h1] at h
    have h1 := Bool.eq_false_iff.2 h1
    obtain ⟨rh6, h6, h⟩ := bind_some h
    have ch6 := f22_1_p2_ok F x1 x2 F 0 _ h6
    cases rh6 with
    | c0 =>
      try dsimp only at h
      obtain rfl := Option.some.inj h
      exact callOK cxOK cxW Try.func22 (by kernel_rfl) (f22_1_e1 x1 x2) ⟨h1, ch6, trivial⟩
    | c1 =>
      try dsimp only at h
      obtain rfl := Option.some.inj h
      exact callOK cxOK cxW Try.func22 (by kernel_rfl) (f22_1_e2 x1 x2) ⟨h1, ch6, trivial⟩

theorem f43_p4_1_ok (F : Nat) (x13 : Int) (x14 : Int) (x1 : Int) (x5 : Int) (x15 : Int) (x17 : Int) (x2 : Bool) (x3 : List Int) (x4 : Int) (x12 : List Int) (r : (List Int)) (h : f43_p4_1 F x13 x14 x1 x5 x15 x17 x2 x3 x4 x12 = some r) : f43_p4_1_P x13 x14 x1 x5 x15 x17 x2 x3 x4 x12 r := by
  unfold f43_p4_1 at h
  by_cases h35 : (x17 == 0) = true
  · rw [if_pos h35] at h
    obtain ⟨h36, h⟩ := req_some h
    obtain ⟨h37, h⟩ := req_some h
    obtain ⟨h38, h⟩ := req_some h
    obtain ⟨h39, h⟩ := req_some h
    obtain rfl := Option.some.inj h
    exact gRun_ok cxOK (f43_p4_1_e0 x1 x2 x3 x4 x5 x12 x13 x14 x15 x17) ⟨h35, h36, h37, h38, h39, trivial⟩
  · rw [if_neg h35] at h
    have h35 := Bool.eq_false_iff.2 h35
    obtain rfl := Option.some.inj h
    exact gRun_ok cxOK (f43_p4_1_e1 x1 x2 x3 x4 x5 x12 x13 x14 x15 x17) ⟨h35, trivial⟩
theorem f43_p1_ok (F : Nat) (x1 : Int) (x2 : Bool) (x3 : List Int) (x4 : Int) (x5 : Int) : ∀ (k : Nat) (x13 : Int) (x12 : List Int) (r : (List Int)), f43_p1 F x1 x2 x3 x4 x5 k x13 x12 = some r → f43_p1_P x1 x2 x3 x4 x5 x13 x12 r
  | 0, _, _, _, h => by cases h
  | k + 1, x13, x12, r, h => by
    unfold f43_p1 at h
    by_cases h22 : (decide (x13 > 0)) = true
    · rw [if_pos h22] at h
      obtain ⟨h23, h⟩ := req_some h
      obtain ⟨x14, h24, h⟩ := bind_some h
      try dsimp only at h
      obtain ⟨h25, h⟩ := req_some h
      obtain ⟨rh26, h26, h⟩ := bind_some h
      have ch26 := f37_ok F x13 x2 _ h26
      obtain ⟨x15, rfl⟩ : ∃ z, z = rh26 := ⟨_, rfl⟩
      try dsimp only at h
      obtain ⟨h27, h⟩ := req_some h
      by_cases h28 : ((iAnd .u8 (iShr .u8 x4 (w64 (x13 - 1))) 1) == 1) = true
      · rw [if_pos h28] at h
        by_cases h29 : (decide ((w64 ((Int.tmod (w64 (x14)) (((Int.toNat (w64 (2 * (w64 (1 + (Int.tmod (w64 (x1)) x5)))))) : Nat) : Int)) + x15)) < (((Int.toNat (w64 (2 * (w64 (1 + (Int.tmod (w64 (x1)) x5)))))) : Nat) : Int))) = true
        · rw [if_pos h29] at h
          obtain ⟨h30, h⟩ := req_some h
          obtain ⟨x16, h31, h⟩ := bind_some h
          try dsimp only at h
          by_cases h32 : (x16 == 0) = true
          · rw [if_pos h32] at h
            obtain ⟨h33, h⟩ := req_some h
            obtain ⟨x17, h34, h⟩ := bind_some h
            try dsimp only at h
            obtain ⟨rh40, h40, h⟩ := bind_some h
            have ch40 := f43_p4_1_ok F x13 x14 x1 x5 x15 x17 x2 x3 x4 x12 _ h40
            obtain ⟨x18, rfl⟩ : ∃ z, z = rh40 := ⟨_, rfl⟩
            try dsimp only at h
            exact Lp.again (gRun_ok cxOK (f43_p1_e0 x1 x2 x3 x4 x5 x12 x13 x14 x15 x16 x17 x18) ⟨h22, h23, ⟨x14, h24, rfl⟩, h25, ch26, h27, h28, h28, h28, h28, h28, h28, h29, h29, h29, h29, h30, h29, ⟨x16, h31, rfl⟩, h29, h29, h32, h32, h32, h32, h33, h32, ⟨x17, h34, rfl⟩, h32, h32, ch40, trivial⟩) (f43_p1_ok F x1 x2 x3 x4 x5 k (w64 (x13 - 1)) x18 r h)
          · rw [if_neg h32] at h
            have h32 := Bool.eq_false_iff.2 h32
            exact Lp.again (gRun_ok cxOK (f43_p1_e1 x1 x2 x3 x4 x5 x12 x13 x14 x15 x16) ⟨h22, h23, ⟨x14, h24, rfl⟩, h25, ch26, h27, h28, h28, h28, h28, h28, h28, h29, h29, h29, h29, h30, h29, ⟨x16, h31, rfl⟩, h29, h29, h32, h32, h32, h32, h32, h32, h32, rfl, trivial⟩) (f43_p1_ok F x1 x2 x3 x4 x5 k (w64 (x13 - 1)) x12 r h)
        · rw [if_neg h29] at h
          have h29 := Bool.eq_false_iff.2 h29
          exact Lp.again (gRun_ok cxOK (f43_p1_e2 x1 x2 x3 x4 x5 x12 x13 x14 x15) ⟨h22, h23, ⟨x14, h24, rfl⟩, h25, ch26, h27, h28, h28, h28, h28, h28, h28, h29, h29, h29, h29, h29, h29, h29, rfl, rfl, rfl, rfl, rfl, rfl, rfl, rfl, trivial⟩) (f43_p1_ok F x1 x2 x3 x4 x5 k (w64 (x13 - 1)) x12 r h)
      · rw [if_neg h28] at h
        have h28 := Bool.eq_false_iff.2 h28
        exact Lp.again (gRun_ok cxOK (f43_p1_e3 x1 x2 x3 x4 x5 x12 x13 x14 x15) ⟨h22, h23, ⟨x14, h24, rfl⟩, h25, ch26, h27, h28, h28, h28, h28, h28, h28, rfl, rfl, rfl, rfl, rfl, rfl, rfl, rfl, rfl, rfl, rfl, rfl, rfl, rfl, rfl, trivial⟩) (f43_p1_ok F x1 x2 x3 x4 x5 k (w64 (x13 - 1)) x12 r h)
    · rw [if_neg h22] at h
      have h22 := Bool.eq_false_iff.2 h22
      obtain rfl := Option.some.inj h
      exact Lp.out (gRun_ok cxOK (f43_p1_e4 x1 x2 x3 x4 x5 x12 x13) ⟨h22, trivial⟩) (by intro hh; cases hh)
theorem f43_ok (F : Nat) (x1 : Int) (x2 : Bool) (x3 : List Int) (x4 : Int) (x5 : Int) (r : Int × Bool × (List Int)) (h : f43 F x1 x2 x3 x4 x5 = some r) : f43_C x1 x2 x3 x4 x5 r := by
  unfold f43 at h
  obtain ⟨h1, h⟩ := req_some h
  obtain ⟨h2, h⟩ := req_some h
  obtain ⟨rh41, h41, h⟩ := bind_some h
  have ch41 := f43_p1_ok F x1 x2 x3 x4 x5 F (w64 (1 + (Int.tmod (w64 (x1)) x5))) (List.replicate (Int.toNat (w64 (2 * (w64 (1 + (Int.tmod (w64 (x1)) x5)))))) (0 : Int)) _ h41
  obtain ⟨x19, rfl⟩ : ∃ z, z = rh41 := ⟨_, rfl⟩
  try dsimp only at h
  obtain ⟨h42, h⟩ := req_some h
  obtain rfl := Option.some.inj h
  exact callOK cxOK cxW Try.func43 (by kernel_rfl) (f43_e0 x1 x2 x3 x4 x5 x19) ⟨h1, h2, ch41, h42, trivial⟩

theorem f44_4_ok (F : Nat) (x1 : List Int) (r : (List Int)) (h : f44_4 F x1 = some r) : f44_4_C x1 r := by
  unfold f44_4 at h
  obtain ⟨h1, h⟩ := req_some h
  obtain ⟨h2, h⟩ := req_some h
  obtain rfl := Option.some.inj h
  exact callOK cxOK cxW Try.func44 (by kernel_rfl) (f44_4_e0 x1) ⟨h1, rfl, h2, (.inl rfl), trivial⟩

theorem f44_5_ok (F : Nat) (x1 : List Int) (r : (List Int)) (h : f44_5 F x1 = some r) : f44_5_C x1 r := by
  unfold f44_5 at h
  obtain ⟨h1, h⟩ := req_some h
  obtain ⟨h2, h⟩ := req_some h
  obtain rfl := Option.some.inj h
  exact callOK cxOK cxW Try.func44 (by kernel_rfl) (f44_5_e0 x1) ⟨h1, rfl, h2, (.inl rfl), trivial⟩

theorem f45_p0_ok (F : Nat) (x1 : List Int) (x4 : Int) (x2 : Int) (x3 : Option (List Int)) (r : (Option (List Int))) (h : f45_p0 F x1 x4 x2 x3 = some r) : f45_p0_P x1 x4 x2 x3 r := by
  unfold f45_p0 at h
  by_cases h4 : (decide (x4 < 0)) = true
  · rw [if_pos h4] at h
    obtain ⟨h5, h⟩ := req_some h
    obtain rfl := Option.some.inj h
    exact gRun_ok cxOK (f45_p0_e0 x1 x2 x3 x4) ⟨h4, h5, trivial⟩
  · rw [if_neg h4] at h
    have h4 := Bool.eq_false_iff.2 h4
    obtain rfl := Option.some.inj h
    exact gRun_ok cxOK (f45_p0_e1 x1 x2 x3 x4) ⟨h4, trivial⟩
theorem f45_ok (F : Nat) (x1 : List Int) (x2 : Int) (x3 : Option (List Int)) (r : Int × (Option (List Int))) (h : f45 F x1 x2 x3 = some r) : f45_C x1 x2 x3 r := by
  unfold f45 at h
  by_cases h1 : (Option.isNone x3) = true
  · rw [if_pos h1] at h
    obtain ⟨h2, h⟩ := req_some h
    obtain rfl := Option.some.inj h
    exact callOK cxOK cxW Try.func45 (by kernel_rfl) (f45_e0 x1 x2 x3) ⟨h1, h1, h1, h1, h1, rfl, h2, trivial⟩
  · rw [if_neg h1] at h
    have h1 := Bool.eq_false_iff.2 h1
    obtain ⟨rh3, h3, h⟩ := bind_some h
    have ch3 := f42_1_ok F x1 x3 _ h3
    obtain ⟨x4, rfl⟩ : ∃ z, z = rh3 := ⟨_, rfl⟩
    try dsimp only at h
    obtain ⟨rh6, h6, h⟩ := bind_some h
    have ch6 := f45_p0_ok F x1 x4 x2 x3 _ h6
    obtain ⟨x5, rfl⟩ : ∃ z, z = rh6 := ⟨_, rfl⟩
    try dsimp only at h
    obtain rfl := Option.some.inj h
    exact callOK cxOK cxW Try.func45 (by kernel_rfl) (f45_e1 x1 x2 x3 x4 x5) ⟨h1, h1, h1, ch3, h1, h1, ch6, trivial⟩

theorem f38_1_p1_ok (F : Nat) (x1 : Nat) (x2 : Nat) (x3 : Int) (x4 : Bool) (x5 : Int) (x6 : Option (List Int)) (x7 : List Int) : ∀ (k : Nat) (x8 : Int) (r : Int), f38_1_p1 F x1 x2 x3 x4 x5 x6 x7 k x8 = some r → f38_1_p1_P x1 x2 x3 x4 x5 x6 x7 x8 r
  | 0, _, _, h => by cases h
  | k + 1, x8, r, h => by
    unfold f38_1_p1 at h
    by_cases h1 : (decide (x8 ≤ x3)) = true
    · rw [if_pos h1] at h
      obtain ⟨rh2, h2, h⟩ := bind_some h
      have ch2 := f46_ok F (List.drop x1 (List.take (x1 + x2) x7)) x8 _ h2
      obtain ⟨x9, rfl⟩ : ∃ z, z = rh2 := ⟨_, rfl⟩
      try dsimp only at h
      obtain ⟨h3, h⟩ := req_some h
      by_cases h4 : x9 = true
      · rw [if_pos h4] at h
        exact Lp.again (gRun_ok cxOK (f38_1_p1_e0 x1 x2 x3 x4 x5 x6 x7 x8 x9) ⟨h1, h1, h1, ch2, h3, h1, h4, trivial⟩) (f38_1_p1_ok F x1 x2 x3 x4 x5 x6 x7 k (w64 (x8 + 1)) r h)
      · rw [if_neg h4] at h
        have h4 := Bool.eq_false_iff.2 h4
        obtain rfl := Option.some.inj h
        exact Lp.out (gRun_ok cxOK (f38_1_p1_e1 x1 x2 x3 x4 x5 x6 x7 x8 x9) ⟨h1, h1, h1, ch2, h3, h1, h4, trivial⟩) (by intro hh; cases hh)
    · rw [if_neg h1] at h
      have h1 := Bool.eq_false_iff.2 h1
      obtain rfl := Option.some.inj h
      exact Lp.out (gRun_ok cxOK (f38_1_p1_e2 x1 x2 x3 x4 x5 x6 x7 x8) ⟨h1, h1, h1, h1, rfl, trivial⟩) (by intro hh; cases hh)
theorem f38_1_p9_1_ok (F : Nat) (rec : Nat → Nat → Int → Bool → Int → (Option (List Int)) → (List Int) → Option (Int × (Option (List Int)) × (List Int))) (hrec : ∀ (x1 : Nat) (x2 : Nat) (x3 : Int) (x4 : Bool) (x5 : Int) (x6 : Option (List Int)) (x7 : List Int) (r : Int × (Option (List Int)) × (List Int)), rec x1 x2 x3 x4 x5 x6 x7 = some r → f38_1_C x1 x2 x3 x4 x5 x6 x7 r) (x1 : Nat) (x2 : Nat) (x3 : Int) (x4 : Bool) (x10 : Int) (x27 : Int) (x31 : Int) (x33 : Int) (x28 : Int) (x29 : Option (List Int)) (x26 : List Int) (r : Int × (Option (List Int)) × (List Int)) (h : f38_1_p9_1 F rec x1 x2 x3 x4 x10 x27 x31 x33 x28 x29 x26 = some r) : f38_1_p9_1_P x1 x2 x3 x4 x10 x27 x31 x33 x28 x29 x26 r := by
  unfold f38_1_p9_1 at h
  by_cases h37 : (x33 == 0) = true
  · rw [if_pos h37] at h
    obtain ⟨h38, h⟩ := req_some h
    obtain ⟨h39, h⟩ := req_some h
    obtain ⟨h40, h⟩ := req_some h
    obtain ⟨h41, h⟩ := req_some h
    obtain ⟨rh42, h42, h⟩ := bind_some h
    have ch42 := hrec x1 x2 x3 x4 x28 x29 (List.set (List.set x26 (x1 + (Int.toNat x27)) x10) (x1 + (Int.toNat (w64 (x27 + x31)))) x10) _ h42
    obtain ⟨x34, x35, x36⟩ := rh42
    try dsimp only at h
    obtain ⟨h43, h⟩ := req_some h
    obtain ⟨h44, h⟩ := req_some h
    obtain rfl := Option.some.inj h
    exact gRun_ok cxOK (f38_1_p9_1_e0 x1 x2 x3 x4 x10 x26 x27 x28 x29 x31 x33 x34 x35 x36) ⟨h37, h38, h39, h40, h41, ch42, h38, h43, h40, h44, trivial⟩
  · rw [if_neg h37] at h
    have h37 := Bool.eq_false_iff.2 h37
    obtain rfl := Option.some.inj h
    exact gRun_ok cxOK (f38_1_p9_1_e1 x1 x2 x3 x4 x10 x26 x27 x28 x29 x31 x33) ⟨h37, trivial⟩
theorem f38_1_p6_ok (F : Nat) (rec : Nat → Nat → Int → Bool → Int → (Option (List Int)) → (List Int) → Option (Int × (Option (List Int)) × (List Int))) (hrec : ∀ (x1 : Nat) (x2 : Nat) (x3 : Int) (x4 : Bool) (x5 : Int) (x6 : Option (List Int)) (x7 : List Int) (r : Int × (Option (List Int)) × (List Int)), rec x1 x2 x3 x4 x5 x6 x7 = some r → f38_1_C x1 x2 x3 x4 x5 x6 x7 r) (x1 : Nat) (x2 : Nat) (x3 : Int) (x4 : Bool) (x10 : Int) : ∀ (k : Nat) (x27 : Int) (x28 : Int) (x29 : Option (List Int)) (x26 : List Int) (r : Int × (Option (List Int)) × (List Int)), f38_1_p6 F rec x1 x2 x3 x4 x10 k x27 x28 x29 x26 = some r → f38_1_p6_P x1 x2 x3 x4 x10 x27 x28 x29 x26 r
  | 0, _, _, _, _, _, h => by cases h
  | k + 1, x27, x28, x29, x26, r, h => by
    unfold f38_1_p6 at h
    obtain ⟨rh29, h29, h⟩ := bind_some h
    have ch29 := f37_ok F x10 x4 _ h29
    obtain ⟨x30, rfl⟩ : ∃ z, z = rh29 := ⟨_, rfl⟩
    try dsimp only at h
    by_cases h30 : (decide ((w64 (x27 + x30)) < ((x2 : Nat) : Int))) = true
    · rw [if_pos h30] at h
      obtain ⟨rh31, h31, h⟩ := bind_some h
      have ch31 := f37_ok F x10 x4 _ h31
      obtain ⟨x31, rfl⟩ : ∃ z, z = rh31 := ⟨_, rfl⟩
      try dsimp only at h
      obtain ⟨h32, h⟩ := req_some h
      obtain ⟨x32, h33, h⟩ := bind_some h
      try dsimp only at h
      by_cases h34 : (x32 == 0) = true
      · rw [if_pos h34] at h
        obtain ⟨h35, h⟩ := req_some h
        obtain ⟨x33, h36, h⟩ := bind_some h
        try dsimp only at h
        obtain ⟨rh45, h45, h⟩ := bind_some h
        have ch45 := f38_1_p9_1_ok F rec hrec x1 x2 x3 x4 x10 x27 x31 x33 x28 x29 x26 _ h45
        obtain ⟨x37, x38, x39⟩ := rh45
        try dsimp only at h
        exact Lp.again (gRun_ok cxOK (f38_1_p6_e0 x1 x2 x3 x4 x10 x26 x27 x28 x29 x30 x31 x32 x33 x37 x38 x39) ⟨ch29, h30, ch31, h32, ⟨x32, h33, rfl⟩, h34, h34, h34, h35, h34, ⟨x33, h36, rfl⟩, h34, h34, ch45, trivial⟩) (f38_1_p6_ok F rec hrec x1 x2 x3 x4 x10 k (w64 (x27 + 1)) x37 x38 x39 r h)
      · rw [if_neg h34] at h
        have h34 := Bool.eq_false_iff.2 h34
        exact Lp.again (gRun_ok cxOK (f38_1_p6_e1 x1 x2 x3 x4 x10 x26 x27 x28 x29 x30 x31 x32) ⟨ch29, h30, ch31, h32, ⟨x32, h33, rfl⟩, h34, h34, h34, h34, h34, h34, rfl, trivial⟩) (f38_1_p6_ok F rec hrec x1 x2 x3 x4 x10 k (w64 (x27 + 1)) x28 x29 x26 r h)
    · rw [if_neg h30] at h
      have h30 := Bool.eq_false_iff.2 h30
      obtain rfl := Option.some.inj h
      exact Lp.out (gRun_ok cxOK (f38_1_p6_e2 x1 x2 x3 x4 x10 x26 x27 x28 x29 x30) ⟨ch29, h30, trivial⟩) (by intro hh; cases hh)
theorem f38_1_b_ok (F : Nat) (rec : Nat → Nat → Int → Bool → Int → (Option (List Int)) → (List Int) → Option (Int × (Option (List Int)) × (List Int))) (hrec : ∀ (x1 : Nat) (x2 : Nat) (x3 : Int) (x4 : Bool) (x5 : Int) (x6 : Option (List Int)) (x7 : List Int) (r : Int × (Option (List Int)) × (List Int)), rec x1 x2 x3 x4 x5 x6 x7 = some r → f38_1_C x1 x2 x3 x4 x5 x6 x7 r) (x1 : Nat) (x2 : Nat) (x3 : Int) (x4 : Bool) (x5 : Int) (x6 : Option (List Int)) (x7 : List Int) (r : Int × (Option (List Int)) × (List Int)) (h : f38_1_b F rec x1 x2 x3 x4 x5 x6 x7 = some r) : f38_1_C x1 x2 x3 x4 x5 x6 x7 r := by
  unfold f38_1_b at h
  obtain ⟨rh5, h5, h⟩ := bind_some h
  have ch5 := f38_1_p1_ok F x1 x2 x3 x4 x5 x6 x7 F 1 _ h5
  obtain ⟨x10, rfl⟩ : ∃ z, z = rh5 := ⟨_, rfl⟩
  try dsimp only at h
  by_cases h6 : (decide (x10 > x3)) = true
  · rw [if_pos h6] at h
    obtain ⟨rh9, h9, h⟩ := bind_some h
    have ch9 := f44_5_ok F (List.drop x1 (List.take (x1 + x2) x7)) _ h9
    obtain ⟨x12, rfl⟩ : ∃ z, z = rh9 := ⟨_, rfl⟩
    try dsimp only at h
    obtain ⟨h10, h⟩ := req_some h
    obtain ⟨rh11, h11, h⟩ := bind_some h
    have ch11 := f45_ok F (List.drop 0 (List.take (0 + (List.length x12)) x12)) x5 x6 _ h11
    obtain ⟨x13, x14⟩ := rh11
    try dsimp only at h
    obtain rfl := Option.some.inj h
    exact callOK cxOK cxW Try.func38 (by kernel_rfl) (f38_1_e0 x1 x2 x3 x4 x5 x6 x7 x10 x12 x13 x14) ⟨ch5, h6, ch9, h10, (Nat.le_of_eq (Nat.zero_add _)), ch11, trivial⟩
  · rw [if_neg h6] at h
    have h6 := Bool.eq_false_iff.2 h6
    obtain ⟨rh46, h46, h⟩ := bind_some h
    have ch46 := f38_1_p6_ok F rec hrec x1 x2 x3 x4 x10 F 0 x5 x6 x7 _ h46
    obtain ⟨x40, x41, x42⟩ := rh46
    try dsimp only at h
    obtain rfl := Option.some.inj h
    exact callOK cxOK cxW Try.func38 (by kernel_rfl) (f38_1_e1 x1 x2 x3 x4 x5 x6 x7 x10 x40 x41 x42) ⟨ch5, h6, ch46, trivial⟩
theorem f38_1_ok (F : Nat) : ∀ (k : Nat) (x1 : Nat) (x2 : Nat) (x3 : Int) (x4 : Bool) (x5 : Int) (x6 : Option (List Int)) (x7 : List Int) (r : Int × (Option (List Int)) × (List Int)), f38_1 F k x1 x2 x3 x4 x5 x6 x7 = some r → f38_1_C x1 x2 x3 x4 x5 x6 x7 r
  | 0, _, _, _, _, _, _, _, _, h => by cases h
  | k + 1, x1, x2, x3, x4, x5, x6, x7, r, h => f38_1_b_ok F (f38_1 F k) (f38_1_ok F k) x1 x2 x3 x4 x5 x6 x7 r h

theorem f7_p1_ok (F : Nat) (x14 : Int) (x5 : Int) (x6 : Int) (x24 : Int) (x7 : Bool) (x8 : List Int) (x21 : Int) (x22 : Bool) (x23 : List Int) (r : f7_p1_R) (h : f7_p1 F x14 x5 x6 x24 x7 x8 x21 x22 x23 = some r) : f7_p1_P x14 x5 x6 x24 x7 x8 x21 x22 x23 r := by
  unfold f7_p1 at h
  by_cases h16 : (x24 == 12) = true
  · rw [if_pos h16] at h
    obtain ⟨rh17, h17, h⟩ := bind_some h
    have ch17 := f46_ok F x8 (w64 (1 + (Int.tmod (w64 (x5)) x6))) _ h17
    obtain ⟨x25, rfl⟩ : ∃ z, z = rh17 := ⟨_, rfl⟩
    try dsimp only at h
    by_cases h18 : x25 = true
    · rw [if_pos h18] at h
      obtain rfl := Option.some.inj h
      exact gRun_ok cxOK (f7_p1_e0 x5 x6 x7 x8 x14 x21 x22 x23 x24 x25) ⟨h16, ch17, h18, trivial⟩
    · rw [if_neg h18] at h
      have h18 := Bool.eq_false_iff.2 h18
      obtain rfl := Option.some.inj h
      exact gRun_ok cxOK (f7_p1_e1 x5 x6 x7 x8 x14 x21 x22 x23 x24 x25) ⟨h16, ch17, h18, trivial⟩
  · rw [if_neg h16] at h
    have h16 := Bool.eq_false_iff.2 h16
    by_cases h19 : (x24 != 0) = true
    · rw [if_pos h19] at h
      obtain rfl := Option.some.inj h
      exact gRun_ok cxOK (f7_p1_e2 x5 x6 x7 x8 x14 x21 x22 x23 x24) ⟨h16, h19, trivial⟩
    · rw [if_neg h19] at h
      have h19 := Bool.eq_false_iff.2 h19
      obtain rfl := Option.some.inj h
      exact gRun_ok cxOK (f7_p1_e3 x5 x6 x7 x8 x14 x21 x22 x23 x24) ⟨h16, h19, trivial⟩
theorem f7_p6_ok (F : Nat) (x5 : Int) (x6 : Int) (x29 : Int) (x31 : List Int) (x26 : Int) (x27 : Bool) (x28 : List Int) : ∀ (k : Nat) (x33 : Int) (x34 : Int) (r : f7_p6_R), f7_p6 F x5 x6 x29 x31 x26 x27 x28 k x33 x34 = some r → f7_p6_P x5 x6 x29 x31 x26 x27 x28 x33 x34 r
  | 0, _, _, _, h => by cases h
  | k + 1, x33, x34, r, h => by
    unfold f7_p6 at h
    by_cases h27 : (decide (x34 < ((List.length x31 : Nat) : Int))) = true
    · rw [if_pos h27] at h
      obtain ⟨x35, h28, h⟩ := bind_some h
      try dsimp only at h
      obtain ⟨rh29, h29, h⟩ := bind_some h
      have ch29 := f15_ok F x26 x27 x28 (w64 (1 + (Int.tmod (w64 (x5)) x6))) x35 _ h29
      obtain ⟨x36, x37, x38, x39⟩ := rh29
      try dsimp only at h
      obtain ⟨rh30, h30, h⟩ := bind_some h
      have ch30 := f35_ok F x36 x37 x38 _ h30
      obtain ⟨x40, x41⟩ := rh30
      try dsimp only at h
      by_cases h31 : (x39 != 0) = true
      · rw [if_pos h31] at h
        obtain rfl := Option.some.inj h
        exact Lp.out (gRun_ok cxOK (f7_p6_e0 x5 x6 x26 x27 x28 x29 x31 x33 x34 x35 x36 x37 x38 x39 x40 x41) ⟨h27, ⟨(at?_spec h28).1, x35, (at?_spec h28).2, rfl⟩, ch29, ch30, h31, h31, h31, rfl, rfl, rfl, rfl, rfl, rfl, trivial⟩) (by intro hh; cases hh)
      · rw [if_neg h31] at h
        have h31 := Bool.eq_false_iff.2 h31
        by_cases h32 : (x41 != 0) = true
        · rw [if_pos h32] at h
          obtain rfl := Option.some.inj h
          exact Lp.out (gRun_ok cxOK (f7_p6_e1 x5 x6 x26 x27 x28 x29 x31 x33 x34 x35 x36 x37 x38 x39 x40 x41) ⟨h27, ⟨(at?_spec h28).1, x35, (at?_spec h28).2, rfl⟩, ch29, ch30, h31, h31, h31, h32, h32, h32, h32, h32, rfl, trivial⟩) (by intro hh; cases hh)
        · rw [if_neg h32] at h
          have h32 := Bool.eq_false_iff.2 h32
          by_cases h33 : (decide (x34 > 0)) = true
          · rw [if_pos h33] at h
            obtain ⟨x42, h34, h⟩ := bind_some h
            try dsimp only at h
            by_cases h35 : (decide (x35 ≤ x42)) = true
            · rw [if_pos h35] at h
              obtain rfl := Option.some.inj h
              exact Lp.out (gRun_ok cxOK (f7_p6_e2 x5 x6 x26 x27 x28 x29 x31 x33 x34 x35 x36 x37 x38 x39 x40 x41 x42) ⟨h27, ⟨(at?_spec h28).1, x35, (at?_spec h28).2, rfl⟩, ch29, ch30, h31, h31, h31, h32, h32, h32, h33, h33, h33, h33, h33, ⟨(at?_spec h34).1, x42, (at?_spec h34).2, rfl⟩, h33, h33, h32, h33, h32, h35, trivial⟩) (by intro hh; cases hh)
            · rw [if_neg h35] at h
              have h35 := Bool.eq_false_iff.2 h35
              exact Lp.again (gRun_ok cxOK (f7_p6_e3 x5 x6 x26 x27 x28 x29 x31 x33 x34 x35 x36 x37 x38 x39 x40 x41 x42) ⟨h27, ⟨(at?_spec h28).1, x35, (at?_spec h28).2, rfl⟩, ch29, ch30, h31, h31, h31, h32, h32, h32, h33, h33, h33, h33, h33, ⟨(at?_spec h34).1, x42, (at?_spec h34).2, rfl⟩, h33, h33, h32, h33, h32, h35, trivial⟩) (f7_p6_ok F x5 x6 x29 x31 x26 x27 x28 k (w64 (x33 + x40)) (w64 (x34 + 1)) r h)
          · rw [if_neg h33] at h
            have h33 := Bool.eq_false_iff.2 h33
            exact Lp.again (gRun_ok cxOK (f7_p6_e4 x5 x6 x26 x27 x28 x29 x31 x33 x34 x35 x36 x37 x38 x39 x40 x41) ⟨h27, ⟨(at?_spec h28).1, x35, (at?_spec h28).2, rfl⟩, ch29, ch30, h31, h31, h31, h32, h32, h32, h33, h33, h33, h33, h33, h33, h33, h32, h33, h32, rfl, trivial⟩) (f7_p6_ok F x5 x6 x29 x31 x26 x27 x28 k (w64 (x33 + x40)) (w64 (x34 + 1)) r h)
    · rw [if_neg h27] at h
      have h27 := Bool.eq_false_iff.2 h27
      obtain rfl := Option.some.inj h
      exact Lp.out (gRun_ok cxOK (f7_p6_e5 x5 x6 x26 x27 x28 x29 x31 x33 x34) ⟨h27, trivial⟩) (by intro hh; cases hh)
theorem f7_p1_1_ok (F : Nat) (x14 : Int) (x5 : Int) (x6 : Int) (x49 : Int) (x7 : Bool) (x8 : List Int) (x46 : Int) (x47 : Bool) (x48 : List Int) (r : f7_p1_1_R) (h : f7_p1_1 F x14 x5 x6 x49 x7 x8 x46 x47 x48 = some r) : f7_p1_1_P x14 x5 x6 x49 x7 x8 x46 x47 x48 r := by
  unfold f7_p1_1 at h
  by_cases h43 : (x49 == 12) = true
  · rw [if_pos h43] at h
    obtain ⟨rh44, h44, h⟩ := bind_some h
    have ch44 := f46_ok F x8 (w64 (1 + (Int.tmod (w64 (x5)) x6))) _ h44
    obtain ⟨x50, rfl⟩ : ∃ z, z = rh44 := ⟨_, rfl⟩
    try dsimp only at h
    by_cases h45 : x50 = true
    · rw [if_pos h45] at h
      obtain rfl := Option.some.inj h
      exact gRun_ok cxOK (f7_p1_1_e0 x5 x6 x7 x8 x14 x46 x47 x48 x49 x50) ⟨h43, ch44, h45, trivial⟩
    · rw [if_neg h45] at h
      have h45 := Bool.eq_false_iff.2 h45
      obtain rfl := Option.some.inj h
      exact gRun_ok cxOK (f7_p1_1_e1 x5 x6 x7 x8 x14 x46 x47 x48 x49 x50) ⟨h43, ch44, h45, trivial⟩
  · rw [if_neg h43] at h
    have h43 := Bool.eq_false_iff.2 h43
    by_cases h46 : (x49 != 0) = true
    · rw [if_pos h46] at h
      obtain rfl := Option.some.inj h
      exact gRun_ok cxOK (f7_p1_1_e2 x5 x6 x7 x8 x14 x46 x47 x48 x49) ⟨h43, h46, trivial⟩
    · rw [if_neg h46] at h
      have h46 := Bool.eq_false_iff.2 h46
      obtain rfl := Option.some.inj h
      exact gRun_ok cxOK (f7_p1_1_e3 x5 x6 x7 x8 x14 x46 x47 x48 x49) ⟨h43, h46, trivial⟩
theorem f7_p6_1_ok (F : Nat) (x5 : Int) (x6 : Int) (x54 : Int) (x56 : List Int) (x51 : Int) (x52 : Bool) (x53 : List Int) : ∀ (k : Nat) (x58 : Int) (x59 : Int) (r : f7_p6_1_R), f7_p6_1 F x5 x6 x54 x56 x51 x52 x53 k x58 x59 = some r → f7_p6_1_P x5 x6 x54 x56 x51 x52 x53 x58 x59 r
  | 0, _, _, _, h => by cases h
  | k + 1, x58, x59, r, h => by
    unfold f7_p6_1 at h
    by_cases h54 : (decide (x59 < ((List.length x56 : Nat) : Int))) = true
    · rw [if_pos h54] at h
      obtain ⟨x60, h55, h⟩ := bind_some h
      try dsimp only at h
      obtain ⟨rh56, h56, h⟩ := bind_some h
      have ch56 := f15_ok F x51 x52 x53 (w64 (1 + (Int.tmod (w64 (x5)) x6))) x60 _ h56
      obtain ⟨x61, x62, x63, x64⟩ := rh56
      try dsimp only at h
      obtain ⟨rh57, h57, h⟩ := bind_some h
      have ch57 := f35_ok F x61 x62 x63 _ h57
      obtain ⟨x65, x66⟩ := rh57
      try dsimp only at h
      by_cases h58 : (x64 != 0) = true
      · rw [if_pos h58] at h
        obtain rfl := Option.some.inj h
        exact Lp.out (gRun_ok cxOK (f7_p6_1_e0 x5 x6 x51 x52 x53 x54 x56 x58 x59 x60 x61 x62 x63 x64 x65 x66) ⟨h54, ⟨(at?_spec h55).1, x60, (at?_spec h55).2, rfl⟩, ch56, ch57, h58, h58, h58, rfl, rfl, rfl, rfl, rfl, rfl, trivial⟩) (by intro hh; cases hh)
      · rw [if_neg h58] at h
        have h58 := Bool.eq_false_iff.2 h58
        by_cases h59 : (x66 != 0) = true
        · rw [if_pos h59] at h
          obtain rfl := Option.some.inj h
          exact Lp.out (gRun_ok cxOK (f7_p6_1_e1 x5 x6 x51 x52 x53 x54 x56 x58 x59 x60 x61 x62 x63 x64 x65 x66) ⟨h54, ⟨(at?_spec h55).1, x60, (at?_spec h55).2, rfl⟩, ch56, ch57, h58, h58, h58, h59, h59, h59, h59, h59, rfl, trivial⟩) (by intro hh; cases hh)
        · rw [if_neg h59] at h
          have h59 := Bool.eq_false_iff.2 h59
          by_cases h60 : (decide (x59 > 0)) = true
          · rw [if_pos h60] at h
            obtain ⟨x67, h61, h⟩ := bind_some h
            try dsimp only at h
            by_cases h62 : (decide (x60 ≤ x67)) = true
            · rw [if_pos h62] at h
              obtain rfl := Option.some.inj h
              exact Lp.out (gRun_ok cxOK (f7_p6_1_e2 x5 x6 x51 x52 x53 x54 x56 x58 x59 x60 x61 x62 x63 x64 x65 x66 x67) ⟨h54, ⟨(at?_spec h55).1, x60, (at?_spec h55).2, rfl⟩, ch56, ch57, h58, h58, h58, h59, h59, h59, h60, h60, h60, h60, h60, ⟨(at?_spec h61).1, x67, (at?_spec h61).2, rfl⟩, h60, h60, h59, h60, h59, h62, trivial⟩) (by intro hh; cases hh)
            · rw [if_neg h62] at h
              have h62 := Bool.eq_false_iff.2 h62
              exact Lp.again (gRun_ok cxOK (f7_p6_1_e3 x5 x6 x51 x52 x53 x54 x56 x58 x59 x60 x61 x62 x63 x64 x65 x66 x67) ⟨h54, ⟨(at?_spec h55).1, x60, (at?_spec h55).2, rfl⟩, ch56, ch57, h58, h58, h58, h59, h59, h59, h60, h60, h60, h60, h60, ⟨(at?_spec h61).1, x67, (at?_spec h61).2, rfl⟩, h60, h60, h59, h60, h59, h62, trivial⟩) (f7_p6_1_ok F x5 x6 x54 x56 x51 x52 x53 k (w64 (x58 + x65)) (w64 (x59 + 1)) r h)
          · rw [if_neg h60] at h
            have h60 := Bool.eq_false_iff.2 h60
            exact Lp.again (gRun_ok cxOK (f7_p6_1_e4 x5 x6 x51 x52 x53 x54 x56 x58 x59 x60 x61 x62 x63 x64 x65 x66) ⟨h54, ⟨(at?_spec h55).1, x60, (at?_spec h55).2, rfl⟩, ch56, ch57, h58, h58, h58, h59, h59, h59, h60, h60, h60, h60, h60, h60, h60, h59, h60, h59, rfl, trivial⟩) (f7_p6_1_ok F x5 x6 x54 x56 x51 x52 x53 k (w64 (x58 + x65)) (w64 (x59 + 1)) r h)
    · rw [if_neg h54] at h
      have h54 := Bool.eq_false_iff.2 h54
      obtain rfl := Option.some.inj h
      exact Lp.out (gRun_ok cxOK (f7_p6_1_e5 x5 x6 x51 x52 x53 x54 x56 x58 x59) ⟨h54, trivial⟩) (by intro hh; cases hh)
theorem f7_ok (F : Nat) (x1 : Int) (x2 : Bool) (x3 : List Int) (x4 : Int) (x5 : Int) (r : Bool) (h : f7 F x1 x2 x3 x4 x5 = some r) : f7_C x1 x2 x3 x4 x5 r := by
  unfold f7 at h
  obtain ⟨rh1, h1, h⟩ := bind_some h
  have ch1 := f43_ok F x1 x2 x3 x4 7 _ h1
  obtain ⟨x6, x7, x8⟩ := rh1
  try dsimp only at h
  obtain ⟨rh3, h3, h⟩ := bind_some h
  have ch3 := f44_4_ok F x8 _ h3
  obtain ⟨x10, rfl⟩ : ∃ z, z = rh3 := ⟨_, rfl⟩
  try dsimp only at h
  obtain ⟨rh4, h4, h⟩ := bind_some h
  have ch4 := f38_1_ok F F 0 (List.length x10) x6 x7 0 (none : Option (List Int)) x10 _ h4
  obtain ⟨x11, x12, x13⟩ := rh4
  try dsimp only at h
  obtain ⟨rh5, h5, h⟩ := bind_some h
  have ch5 := f35_ok F x6 x7 x8 _ h5
  obtain ⟨x14, x15⟩ := rh5
  try dsimp only at h
  obtain ⟨rh6, h6, h⟩ := bind_some h
  have ch6 := f33_ok F x6 x7 x8 _ h6
  obtain ⟨x16, x17, x18, x19⟩ := rh6
  try dsimp only at h
  by_cases h7 : (x15 != 0) = true
  · rw [if_pos h7] at h
    cases h
  · rw [if_neg h7] at h
    have h7 := Bool.eq_false_iff.2 h7
    by_cases h8 : (x14 != x11) = true
    · rw [if_pos h8] at h
      cases h
    · rw [if_neg h8] at h
      have h8 := Bool.eq_false_iff.2 h8
      by_cases h9 : ((x19 == 0) == (decide (x11 > 0))) = true
      · rw [if_pos h9] at h
        by_cases h10 : (x19 != 0) = true
        · rw [if_pos h10] at h
          by_cases h11 : (x19 != 12) = true
          · rw [if_pos h11] at h
            cases h
          · rw [if_neg h11] at h
            have h11 := Bool.eq_false_iff.2 h11
            obtain ⟨rh12, h12, h⟩ := bind_some h
            have ch12 := f22_1_ok F x18 x12 _ h12
            obtain ⟨x20, rfl⟩ : ∃ z, z = rh12 := ⟨_, rfl⟩
            try dsimp only at h
            by_cases h13 : x20 = true
            · rw [if_pos h13] at h
              obtain ⟨h14, h⟩ := req_some h
              obtain ⟨rh15, h15, h⟩ := bind_some h
              have ch15 := f17_ok F x6 x7 x8 (w64 (1 + (Int.tmod (w64 (x5)) x6))) _ h15
              obtain ⟨x21, x22, x23, x24⟩ := rh15
              try dsimp only at h
              obtain ⟨rh20, h20, h⟩ := bind_some h
              have ch20 := f7_p1_ok F x14 x5 x6 x24 x7 x8 x21 x22 x23 _ h20
              cases rh20 with
              | c0 =>
                try dsimp only at h
                cases h
              | c1 x26 x27 x28 =>
                try dsimp only at h
                obtain ⟨rh21, h21, h⟩ := bind_some h
                have ch21 := f35_ok F x26 x27 x28 _ h21
                obtain ⟨x29, x30⟩ := rh21
                try dsimp only at h
                obtain ⟨rh22, h22, h⟩ := bind_some h
                have ch22 := f19_ok F x26 x27 x28 (w64 (1 + (Int.tmod (w64 (x5)) x6))) _ h22
                obtain ⟨x31, x32⟩ := rh22
                try dsimp only at h
                by_cases h23 : (x30 != 0) = true
                · rw [if_pos h23] at h
                  cases h
                · rw [if_neg h23] at h
                  have h23 := Bool.eq_false_iff.2 h23
                  by_cases h24 : (x32 != 0) = true
                  · rw [if_pos h24] at h
                    cases h
                  · rw [if_neg h24] at h
                    have h24 := Bool.eq_false_iff.2 h24
                    by_cases h25 : (decide (x29 < x14)) = true
                    · rw [if_pos h25] at h
                      cases h
                    · rw [if_neg h25] at h
                      have h25 := Bool.eq_false_iff.2 h25
                      by_cases h26 : (decide (((List.length x31 : Nat) : Int) > ((List.length x8 : Nat) : Int))) = true
                      · rw [if_pos h26] at h
                        cases h
                      · rw [if_neg h26] at h
                        have h26 := Bool.eq_false_iff.2 h26
                        obtain ⟨rh36, h36, h⟩ := bind_some h
                        have ch36 := f7_p6_ok F x5 x6 x29 x31 x26 x27 x28 F 0 0 _ h36
                        cases rh36 with
                        | c0 =>
                          try dsimp only at h
                          cases h
                        | c1 x43 =>
                          try dsimp only at h
                          by_cases h37 : (x43 == x29) = true
                          · rw [if_pos h37] at h
                            obtain ⟨rh38, h38, h⟩ := bind_some h
                            have ch38 := f14_ok F _ h38
                            obtain ⟨x44, rfl⟩ : ∃ z, z = rh38 := ⟨_, rfl⟩
                            try dsimp only at h
                            obtain rfl := Option.some.inj h
                            exact callOK cxOK cxW Try.func7 (by kernel_rfl) (f7_e0 x1 x2 x3 x4 x5 x6 x7 x8 x10 x11 x12 x13 x14 x15 x16 x17 x18 x19 x20 x21 x22 x23 x24 x26 x27 x28 x29 x30 x31 x32 x43 x44) ⟨ch1, ch3, ch4, ch5, ch6, h7, h7, h7, h7, h8, h8, h8, h8, h8, h8, (by rw [h9]; rfl), (by rw [h9]; rfl), (by rw [h9]; rfl), h10, h10, (by rw [h9]; rfl), h10, (by rw [h9]; rfl), h11, h11, h11, h11, ch12, h11, h11, (by rw [h13]; rfl), h14, ch15, ch20, ch21, ch22, h23, h23, h23, h24, h24, h24, h24, h25, h25, h25, h25, h25, h25, h25, h26, ch36, h37, ch38, h37, trivial⟩
                          · rw [if_neg h37] at h
                            have h37 := Bool.eq_false_iff.2 h37
                            cases h
            · rw [if_neg h13] at h
              have h13 := Bool.eq_false_iff.2 h13
              cases h
        · rw [if_neg h10] at h
          have h10 := Bool.eq_false_iff.2 h10
          obtain ⟨rh39, h39, h⟩ := bind_some h
          have ch39 := f22_1_ok F x18 x12 _ h39
          obtain ⟨x45, rfl⟩ : ∃ z, z = rh39 := ⟨_, rfl⟩
          try dsimp only at h
          by_cases h40 : x45 = true
          · rw [if_pos h40] at h
            obtain ⟨h41, h⟩ := req_some h
            obtain ⟨rh42, h42, h⟩ := bind_some h
            have ch42 := f17_ok F x6 x7 x8 (w64 (1 + (Int.tmod (w64 (x5)) x6))) _ h42
            obtain ⟨x46, x47, x48, x49⟩ := rh42
            try dsimp only at h
            obtain ⟨rh47, h47, h⟩ := bind_some h
            have ch47 := f7_p1_1_ok F x14 x5 x6 x49 x7 x8 x46 x47 x48 _ h47
            cases rh47 with
            | c0 =>
              try dsimp only at h
              cases h
            | c1 x51 x52 x53 =>
              try dsimp only at h
              obtain ⟨rh48, h48, h⟩ := bind_some h
              have ch48 := f35_ok F x51 x52 x53 _ h48
              obtain ⟨x54, x55⟩ := rh48
              try dsimp only at h
              obtain ⟨rh49, h49, h⟩ := bind_some h
              have ch49 := f19_ok F x51 x52 x53 (w64 (1 + (Int.tmod (w64 (x5)) x6))) _ h49
              obtain ⟨x56, x57⟩ := rh49
              try dsimp only at h
              by_cases h50 : (x55 != 0) = true
              · rw [if_pos h50] at h
                cases h
              · rw [if_neg h50] at h
                have h50 := Bool.eq_false_iff.2 h50
                by_cases h51 : (x57 != 0) = true
                · rw [if_pos h51] at h
                  cases h
                · rw [if_neg h51] at h
                  have h51 := Bool.eq_false_iff.2 h51
                  by_cases h52 : (decide (x54 < x14)) = true
                  · rw [if_pos h52] at h
                    cases h
                  · rw [if_neg h52] at h
                    have h52 := Bool.eq_false_iff.2 h52
                    by_cases h53 : (decide (((List.length x56 : Nat) : Int) > ((List.length x8 : Nat) : Int))) = true
                    · rw [if_pos h53] at h
                      cases h
                    · rw [if_neg h53] at h
                      have h53 := Bool.eq_false_iff.2 h53
                      obtain ⟨rh63, h63, h⟩ := bind_some h
                      have ch63 := f7_p6_1_ok F x5 x6 x54 x56 x51 x52 x53 F 0 0 _ h63
                      cases rh63 with
                      | c0 =>
                        try dsimp only at h
                        cases h
                      | c1 x68 =>
                        try dsimp only at h
                        by_cases h64 : (x68 == x54) = true
                        · rw [if_pos h64] at h
                          obtain ⟨rh65, h65, h⟩ := bind_some h
                          have ch65 := f14_ok F _ h65
                          obtain ⟨x69, rfl⟩ : ∃ z, z = rh65 := ⟨_, rfl⟩
                          try dsimp only at h
                          obtain rfl := Option.some.inj h
                          exact callOK cxOK cxW Try.func7 (by kernel_rfl) (f7_e1 x1 x2 x3 x4 x5 x6 x7 x8 x10 x11 x12 x13 x14 x15 x16 x17 x18 x19 x45 x46 x47 x48 x49 x51 x52 x53 x54 x55 x56 x57 x68 x69) ⟨ch1, ch3, ch4, ch5, ch6, h7, h7, h7, h7, h8, h8, h8, h8, h8, h8, (by rw [h9]; rfl), (by rw [h9]; rfl), (by rw [h9]; rfl), h10, h10, (by rw [h9]; rfl), h10, (by rw [h9]; rfl), rfl, rfl, rfl, rfl, ch39, rfl, rfl, (by rw [h40]; rfl), h41, ch42, ch47, ch48, ch49, h50, h50, h50, h51, h51, h51, h51, h52, h52, h52, h52, h52, h52, h52, h53, ch63, h64, ch65, h64, trivial⟩
                        · rw [if_neg h64] at h
                          have h64 := Bool.eq_false_iff.2 h64
                          cases h
          · rw [if_neg h40] at h
            have h40 := Bool.eq_false_iff.2 h40
            cases h
      · rw [if_neg h9] at h
        have h9 := Bool.eq_false_iff.2 h9
        cases h

end Go.Gh.Fan
