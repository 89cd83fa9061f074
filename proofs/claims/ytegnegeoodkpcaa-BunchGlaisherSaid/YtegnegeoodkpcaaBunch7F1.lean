/- Bunch7F1: printed by wip/tool/gx.py -/
import Derived.Test.YtegnegeoodkpcaaBunch7F0
namespace Go.Gh.Bunch
set_option linter.unusedVariables false
set_option linter.unusedSimpArgs false
open Go.Proofs

theorem f51_p1_ok (F : Nat) (x1 : List Int) : ∀ (k : Nat) (x2 : Int) (r : f51_p1_R), f51_p1 F x1 k x2 = some r → f51_p1_P x1 x2 r
  | 0, _, _, h => by cases h
  | k + 1, x2, r, h => by
    unfold f51_p1 at h
    by_cases h1 : (decide (x2 < ((List.length x1 : Nat) : Int))) = true
    · rw [if_pos h1] at h
      obtain ⟨x3, h2, h⟩ := bind_some h
      try dsimp only at h
      obtain ⟨x4, h3, h⟩ := bind_some h
      try dsimp only at h
      by_cases h4 : (decide (x3 ≥ x4)) = true
      · rw [if_pos h4] at h
        obtain rfl := Option.some.inj h
        exact Lp.out (gRun_ok cxOK (f51_p1_e0 x1 x2 x3 x4) ⟨h1, ⟨(at?_spec h2).1, x3, (at?_spec h2).2, rfl⟩, ⟨(at?_spec h3).1, x4, (at?_spec h3).2, rfl⟩, h4, trivial⟩) (by intro hh; cases hh)
      · rw [if_neg h4] at h
        have h4 := Bool.eq_false_iff.2 h4
        exact Lp.again (gRun_ok cxOK (f51_p1_e1 x1 x2 x3 x4) ⟨h1, ⟨(at?_spec h2).1, x3, (at?_spec h2).2, rfl⟩, ⟨(at?_spec h3).1, x4, (at?_spec h3).2, rfl⟩, h4, trivial⟩) (f51_p1_ok F x1 k (w64 (x2 + 1)) r h)
    · rw [if_neg h1] at h
      have h1 := Bool.eq_false_iff.2 h1
      obtain rfl := Option.some.inj h
      exact Lp.out (gRun_ok cxOK (f51_p1_e2 x1 x2) ⟨h1, trivial⟩) (by intro hh; cases hh)
theorem f51_ok (F : Nat) (x1 : List Int) (r : Bool) (h : f51 F x1 = some r) : f51_C x1 r := by
  unfold f51 at h
  obtain ⟨rh5, h5, h⟩ := bind_some h
  have ch5 := f51_p1_ok F x1 F 1 _ h5
  cases rh5 with
  | c0 =>
    try dsimp only at h
    obtain rfl := Option.some.inj h
    exact callOK cxOK cxW Try.func51 (by kernel_rfl) (f51_e0 x1) ⟨ch5, trivial⟩
  | c1 =>
    try dsimp only at h
    obtain rfl := Option.some.inj h
    exact callOK cxOK cxW Try.func51 (by kernel_rfl) (f51_e1 x1) ⟨ch5, trivial⟩

theorem f7_p14_ok (F : Nat) (x1 : Int) (x3 : Int) (x4 : Int) (x6 : (List Int)) (x7 : List Int) (x9 : List Int) (x10 : Int) (x14 : Int) (x15 : Int) (x17 : Int) (x2 : List (List Int)) (x5 : Int) (x16 : Int) (r : Int) (h : f7_p14 F x1 x3 x4 x6 x7 x9 x10 x14 x15 x17 x2 x5 x16 = some r) : f7_p14_P x1 x3 x4 x6 x7 x9 x10 x14 x15 x17 x2 x5 x16 r := by
  unfold f7_p14 at h
  by_cases h16 : (x17 == x14) = true
  · rw [if_pos h16] at h
    obtain rfl := Option.some.inj h
    exact gRun_ok cxOK (f7_p14_e0 x1 x2 x3 x4 x5 x6 x7 x9 x10 x14 x15 x16 x17) ⟨h16, trivial⟩
  · rw [if_neg h16] at h
    have h16 := Bool.eq_false_iff.2 h16
    obtain rfl := Option.some.inj h
    exact gRun_ok cxOK (f7_p14_e1 x1 x2 x3 x4 x5 x6 x7 x9 x10 x14 x15 x16 x17) ⟨h16, trivial⟩
theorem f7_p11_ok (F : Nat) (x1 : Int) (x3 : Int) (x4 : Int) (x6 : (List Int)) (x7 : List Int) (x9 : List Int) (x10 : Int) (x14 : Int) (x2 : List (List Int)) (x5 : Int) : ∀ (k : Nat) (x15 : Int) (x16 : Int) (r : Int), f7_p11 F x1 x3 x4 x6 x7 x9 x10 x14 x2 x5 k x15 x16 = some r → f7_p11_P x1 x3 x4 x6 x7 x9 x10 x14 x2 x5 x15 x16 r
  | 0, _, _, _, h => by cases h
  | k + 1, x15, x16, r, h => by
    unfold f7_p11 at h
    by_cases h14 : (decide (x16 < ((List.length x6 : Nat) : Int))) = true
    · rw [if_pos h14] at h
      obtain ⟨x17, h15, h⟩ := bind_some h
      try dsimp only at h
      obtain ⟨rh17, h17, h⟩ := bind_some h
      have ch17 := f7_p14_ok F x1 x3 x4 x6 x7 x9 x10 x14 x15 x17 x2 x5 x16 _ h17
      obtain ⟨x18, rfl⟩ : ∃ z, z = rh17 := ⟨_, rfl⟩
      try dsimp only at h
      exact Lp.again (gRun_ok cxOK (f7_p11_e0 x1 x2 x3 x4 x5 x6 x7 x9 x10 x14 x15 x16 x17 x18) ⟨h14, ⟨(at?_spec h15).1, x17, (at?_spec h15).2, rfl⟩, ch17, trivial⟩) (f7_p11_ok F x1 x3 x4 x6 x7 x9 x10 x14 x2 x5 k x18 (w64 (x16 + 1)) r h)
    · rw [if_neg h14] at h
      have h14 := Bool.eq_false_iff.2 h14
      obtain rfl := Option.some.inj h
      exact Lp.out (gRun_ok cxOK (f7_p11_e1 x1 x2 x3 x4 x5 x6 x7 x9 x10 x14 x15 x16) ⟨h14, trivial⟩) (by intro hh; cases hh)
theorem f7_p19_ok (F : Nat) (x1 : Int) (x3 : Int) (x4 : Int) (x6 : (List Int)) (x7 : List Int) (x9 : List Int) (x10 : Int) (x14 : Int) (x19 : Int) (x20 : Int) (x22 : Int) (x2 : List (List Int)) (x5 : Int) (x21 : Int) (r : Int) (h : f7_p19 F x1 x3 x4 x6 x7 x9 x10 x14 x19 x20 x22 x2 x5 x21 = some r) : f7_p19_P x1 x3 x4 x6 x7 x9 x10 x14 x19 x20 x22 x2 x5 x21 r := by
  unfold f7_p19 at h
  by_cases h22 : ((w64 (Int.tdiv x22 (iAnd .i64 x22 (w64 (0 - x22))))) == x14) = true
  · rw [if_pos h22] at h
    obtain rfl := Option.some.inj h
    exact gRun_ok cxOK (f7_p19_e0 x1 x2 x3 x4 x5 x6 x7 x9 x10 x14 x19 x20 x21 x22) ⟨h22, trivial⟩
  · rw [if_neg h22] at h
    have h22 := Bool.eq_false_iff.2 h22
    obtain rfl := Option.some.inj h
    exact gRun_ok cxOK (f7_p19_e1 x1 x2 x3 x4 x5 x6 x7 x9 x10 x14 x19 x20 x21 x22) ⟨h22, trivial⟩
theorem f7_p16_ok (F : Nat) (x1 : Int) (x3 : Int) (x4 : Int) (x6 : (List Int)) (x7 : List Int) (x9 : List Int) (x10 : Int) (x14 : Int) (x19 : Int) (x2 : List (List Int)) (x5 : Int) : ∀ (k : Nat) (x20 : Int) (x21 : Int) (r : Int), f7_p16 F x1 x3 x4 x6 x7 x9 x10 x14 x19 x2 x5 k x20 x21 = some r → f7_p16_P x1 x3 x4 x6 x7 x9 x10 x14 x19 x2 x5 x20 x21 r
  | 0, _, _, _, h => by cases h
  | k + 1, x20, x21, r, h => by
    unfold f7_p16 at h
    by_cases h19 : (decide (x21 < ((List.length x7 : Nat) : Int))) = true
    · rw [if_pos h19] at h
      obtain ⟨x22, h20, h⟩ := bind_some h
      try dsimp only at h
      obtain ⟨h21, h⟩ := req_some h
      obtain ⟨rh23, h23, h⟩ := bind_some h
      have ch23 := f7_p19_ok F x1 x3 x4 x6 x7 x9 x10 x14 x19 x20 x22 x2 x5 x21 _ h23
      obtain ⟨x23, rfl⟩ : ∃ z, z = rh23 := ⟨_, rfl⟩
      try dsimp only at h
      exact Lp.again (gRun_ok cxOK (f7_p16_e0 x1 x2 x3 x4 x5 x6 x7 x9 x10 x14 x19 x20 x21 x22 x23) ⟨h19, ⟨(at?_spec h20).1, x22, (at?_spec h20).2, rfl⟩, h21, ch23, trivial⟩) (f7_p16_ok F x1 x3 x4 x6 x7 x9 x10 x14 x19 x2 x5 k x23 (w64 (x21 + 1)) r h)
    · rw [if_neg h19] at h
      have h19 := Bool.eq_false_iff.2 h19
      obtain rfl := Option.some.inj h
      exact Lp.out (gRun_ok cxOK (f7_p16_e1 x1 x2 x3 x4 x5 x6 x7 x9 x10 x14 x19 x20 x21) ⟨h19, trivial⟩) (by intro hh; cases hh)
theorem f7_p7_ok (F : Nat) (x1 : Int) (x3 : Int) (x4 : Int) (x6 : (List Int)) (x7 : List Int) (x9 : List Int) (x10 : Int) (x2 : List (List Int)) (x5 : Int) : ∀ (k : Nat) (x14 : Int) (r : f7_p7_R), f7_p7 F x1 x3 x4 x6 x7 x9 x10 x2 x5 k x14 = some r → f7_p7_P x1 x3 x4 x6 x7 x9 x10 x2 x5 x14 r
  | 0, _, _, h => by cases h
  | k + 1, x14, r, h => by
    unfold f7_p7 at h
    by_cases h13 : (decide (x14 ≤ (Int.tmod (w64 (x1)) 21))) = true
    · rw [if_pos h13] at h
      obtain ⟨rh18, h18, h⟩ := bind_some h
      have ch18 := f7_p11_ok F x1 x3 x4 x6 x7 x9 x10 x14 x2 x5 F 0 0 _ h18
      obtain ⟨x19, rfl⟩ : ∃ z, z = rh18 := ⟨_, rfl⟩
      try dsimp only at h
      obtain ⟨rh24, h24, h⟩ := bind_some h
      have ch24 := f7_p16_ok F x1 x3 x4 x6 x7 x9 x10 x14 x19 x2 x5 F 0 0 _ h24
      obtain ⟨x24, rfl⟩ : ∃ z, z = rh24 := ⟨_, rfl⟩
      try dsimp only at h
      by_cases h25 : (x19 != x24) = true
      · rw [if_pos h25] at h
        obtain rfl := Option.some.inj h
        exact Lp.out (gRun_ok cxOK (f7_p7_e0 x1 x2 x3 x4 x5 x6 x7 x9 x10 x14 x19 x24) ⟨h13, ch18, ch24, h25, trivial⟩) (by intro hh; cases hh)
      · rw [if_neg h25] at h
        have h25 := Bool.eq_false_iff.2 h25
        exact Lp.again (gRun_ok cxOK (f7_p7_e1 x1 x2 x3 x4 x5 x6 x7 x9 x10 x14 x19 x24) ⟨h13, ch18, ch24, h25, trivial⟩) (f7_p7_ok F x1 x3 x4 x6 x7 x9 x10 x2 x5 k (w64 (x14 + 2)) r h)
    · rw [if_neg h13] at h
      have h13 := Bool.eq_false_iff.2 h13
      obtain rfl := Option.some.inj h
      exact Lp.out (gRun_ok cxOK (f7_p7_e2 x1 x2 x3 x4 x5 x6 x7 x9 x10 x14) ⟨h13, trivial⟩) (by intro hh; cases hh)
theorem f7_p4_ok (F : Nat) (x1 : Int) (x3 : Int) (x4 : Int) (x6 : (List Int)) (x7 : List Int) (x8 : Int) (x9 : List Int) (x10 : Int) (x2 : List (List Int)) (x5 : Int) (x11 : Bool) (r : f7_p4_R) (h : f7_p4 F x1 x3 x4 x6 x7 x8 x9 x10 x2 x5 x11 = some r) : f7_p4_P x1 x3 x4 x6 x7 x8 x9 x10 x2 x5 x11 r := by
  unfold f7_p4 at h
  by_cases h7 : x11 = true
  · rw [if_pos h7] at h
    by_cases h8 : (x8 != 0) = true
    · rw [if_pos h8] at h
      obtain rfl := Option.some.inj h
      exact gRun_ok cxOK (f7_p4_e0 x1 x2 x3 x4 x5 x6 x7 x8 x9 x10 x11) ⟨h7, h8, h8, h8, h8, h8, rfl, rfl, rfl, rfl, rfl, trivial⟩
    · rw [if_neg h8] at h
      have h8 := Bool.eq_false_iff.2 h8
      obtain ⟨rh9, h9, h⟩ := bind_some h
      have ch9 := f50_ok F x7 (Int.tmod (w64 (x1)) 21) _ h9
      obtain ⟨x12, rfl⟩ : ∃ z, z = rh9 := ⟨_, rfl⟩
      try dsimp only at h
      by_cases h10 : x12 = true
      · rw [if_pos h10] at h
        obtain ⟨rh11, h11, h⟩ := bind_some h
        have ch11 := f51_ok F x7 _ h11
        obtain ⟨x13, rfl⟩ : ∃ z, z = rh11 := ⟨_, rfl⟩
        try dsimp only at h
        by_cases h12 : x13 = true
        · rw [if_pos h12] at h
          obtain ⟨rh26, h26, h⟩ := bind_some h
          have ch26 := f7_p7_ok F x1 x3 x4 x6 x7 x9 x10 x2 x5 F 1 _ h26
          cases rh26 with
          | c0 =>
            try dsimp only at h
            obtain rfl := Option.some.inj h
            exact gRun_ok cxOK (f7_p4_e1 x1 x2 x3 x4 x5 x6 x7 x8 x9 x10 x11 x12 x13) ⟨h7, h8, h8, h8, ch9, h8, h8, (by rw [h10]; rfl), (by rw [h10]; rfl), ch11, (by rw [h10]; rfl), (by rw [h10]; rfl), (by rw [h12]; rfl), ch26, trivial⟩
          | c1 =>
            try dsimp only at h
            obtain ⟨rh27, h27, h⟩ := bind_some h
            have ch27 := f29_ok F x7 _ h27
            obtain ⟨x25, x26⟩ := rh27
            try dsimp only at h
            by_cases h28 : (x26 != 0) = true
            · rw [if_pos h28] at h
              obtain rfl := Option.some.inj h
              exact gRun_ok cxOK (f7_p4_e2 x1 x2 x3 x4 x5 x6 x7 x8 x9 x10 x11 x12 x13 x25 x26) ⟨h7, h8, h8, h8, ch9, h8, h8, (by rw [h10]; rfl), (by rw [h10]; rfl), ch11, (by rw [h10]; rfl), (by rw [h10]; rfl), (by rw [h12]; rfl), ch26, ch27, h28, h28, h28, h28, h28, rfl, trivial⟩
            · rw [if_neg h28] at h
              have h28 := Bool.eq_false_iff.2 h28
              obtain ⟨rh29, h29, h⟩ := bind_some h
              have ch29 := f31_ok F x25 x6 _ h29
              obtain ⟨x27, rfl⟩ : ∃ z, z = rh29 := ⟨_, rfl⟩
              try dsimp only at h
              by_cases h30 : x27 = true
              · rw [if_pos h30] at h
                obtain rfl := Option.some.inj h
                exact gRun_ok cxOK (f7_p4_e3 x1 x2 x3 x4 x5 x6 x7 x8 x9 x10 x11 x12 x13 x25 x26 x27) ⟨h7, h8, h8, h8, ch9, h8, h8, (by rw [h10]; rfl), (by rw [h10]; rfl), ch11, (by rw [h10]; rfl), (by rw [h10]; rfl), (by rw [h12]; rfl), ch26, ch27, h28, h28, h28, ch29, h28, h28, (by rw [h30]; rfl), trivial⟩
              · rw [if_neg h30] at h
                have h30 := Bool.eq_false_iff.2 h30
                obtain rfl := Option.some.inj h
                exact gRun_ok cxOK (f7_p4_e4 x1 x2 x3 x4 x5 x6 x7 x8 x9 x10 x11 x12 x13 x25 x26 x27) ⟨h7, h8, h8, h8, ch9, h8, h8, (by rw [h10]; rfl), (by rw [h10]; rfl), ch11, (by rw [h10]; rfl), (by rw [h10]; rfl), (by rw [h12]; rfl), ch26, ch27, h28, h28, h28, ch29, h28, h28, (by rw [h30]; rfl), trivial⟩
        · rw [if_neg h12] at h
          have h12 := Bool.eq_false_iff.2 h12
          obtain rfl := Option.some.inj h
          exact gRun_ok cxOK (f7_p4_e5 x1 x2 x3 x4 x5 x6 x7 x8 x9 x10 x11 x12 x13) ⟨h7, h8, h8, h8, ch9, h8, h8, (by rw [h10]; rfl), (by rw [h10]; rfl), ch11, (by rw [h10]; rfl), (by rw [h10]; rfl), (by rw [h12]; rfl), trivial⟩
      · rw [if_neg h10] at h
        have h10 := Bool.eq_false_iff.2 h10
        obtain rfl := Option.some.inj h
        exact gRun_ok cxOK (f7_p4_e6 x1 x2 x3 x4 x5 x6 x7 x8 x9 x10 x11 x12) ⟨h7, h8, h8, h8, ch9, h8, h8, (by rw [h10]; rfl), (by rw [h10]; rfl), (by rw [h10]; rfl), (by rw [h10]; rfl), rfl, trivial⟩
  · rw [if_neg h7] at h
    have h7 := Bool.eq_false_iff.2 h7
    by_cases h31 : (x8 != 14) = true
    · rw [if_pos h31] at h
      obtain rfl := Option.some.inj h
      exact gRun_ok cxOK (f7_p4_e7 x1 x2 x3 x4 x5 x6 x7 x8 x9 x10 x11) ⟨h7, h31, h31, h31, h31, rfl, trivial⟩
    · rw [if_neg h31] at h
      have h31 := Bool.eq_false_iff.2 h31
      by_cases h32 : (decide (((List.length x7 : Nat) : Int) > 0)) = true
      · rw [if_pos h32] at h
        obtain rfl := Option.some.inj h
        exact gRun_ok cxOK (f7_p4_e8 x1 x2 x3 x4 x5 x6 x7 x8 x9 x10 x11) ⟨h7, h31, h31, h31, h31, h32, trivial⟩
      · rw [if_neg h32] at h
        have h32 := Bool.eq_false_iff.2 h32
        obtain rfl := Option.some.inj h
        exact gRun_ok cxOK (f7_p4_e9 x1 x2 x3 x4 x5 x6 x7 x8 x9 x10 x11) ⟨h7, h31, h31, h31, h31, h32, trivial⟩
theorem f7_p23_ok (F : Nat) (x1 : Int) (x28 : Int) (x4 : Int) (x6 : (List Int)) (x9 : List Int) (x10 : Int) (x2 : List (List Int)) (x5 : Int) (x29 : Bool) (r : f7_p23_R) (h : f7_p23 F x1 x28 x4 x6 x9 x10 x2 x5 x29 = some r) : f7_p23_P x1 x28 x4 x6 x9 x10 x2 x5 x29 r := by
  unfold f7_p23 at h
  by_cases h35 : x29 = true
  · rw [if_pos h35] at h
    by_cases h36 : (x10 != 0) = true
    · rw [if_pos h36] at h
      obtain rfl := Option.some.inj h
      exact gRun_ok cxOK (f7_p23_e0 x1 x2 x4 x5 x6 x9 x10 x28 x29) ⟨h35, h36, h36, h36, h36, h36, rfl, rfl, rfl, rfl, rfl, trivial⟩
    · rw [if_neg h36] at h
      have h36 := Bool.eq_false_iff.2 h36
      obtain ⟨rh37, h37, h⟩ := bind_some h
      have ch37 := f50_ok F x9 (Int.tmod (w64 (x1)) 21) _ h37
      obtain ⟨x30, rfl⟩ : ∃ z, z = rh37 := ⟨_, rfl⟩
      try dsimp only at h
      by_cases h38 : x30 = true
      · rw [if_pos h38] at h
        obtain ⟨rh39, h39, h⟩ := bind_some h
        have ch39 := f49_ok F x9 _ h39
        obtain ⟨x31, rfl⟩ : ∃ z, z = rh39 := ⟨_, rfl⟩
        try dsimp only at h
        by_cases h40 : x31 = true
        · rw [if_pos h40] at h
          obtain ⟨rh41, h41, h⟩ := bind_some h
          have ch41 := f27_ok F x9 _ h41
          obtain ⟨x32, x33⟩ := rh41
          try dsimp only at h
          by_cases h42 : (x33 != 0) = true
          · rw [if_pos h42] at h
            obtain rfl := Option.some.inj h
            exact gRun_ok cxOK (f7_p23_e1 x1 x2 x4 x5 x6 x9 x10 x28 x29 x30 x31 x32 x33) ⟨h35, h36, h36, h36, ch37, h36, h36, (by rw [h38]; rfl), (by rw [h38]; rfl), ch39, (by rw [h38]; rfl), (by rw [h38]; rfl), (by rw [h40]; rfl), ch41, h42, h42, h42, h42, h42, rfl, trivial⟩
          · rw [if_neg h42] at h
            have h42 := Bool.eq_false_iff.2 h42
            obtain ⟨rh43, h43, h⟩ := bind_some h
            have ch43 := f31_ok F x32 x6 _ h43
            obtain ⟨x34, rfl⟩ : ∃ z, z = rh43 := ⟨_, rfl⟩
            try dsimp only at h
            by_cases h44 : x34 = true
            · rw [if_pos h44] at h
              obtain rfl := Option.some.inj h
              exact gRun_ok cxOK (f7_p23_e2 x1 x2 x4 x5 x6 x9 x10 x28 x29 x30 x31 x32 x33 x34) ⟨h35, h36, h36, h36, ch37, h36, h36, (by rw [h38]; rfl), (by rw [h38]; rfl), ch39, (by rw [h38]; rfl), (by rw [h38]; rfl), (by rw [h40]; rfl), ch41, h42, h42, h42, ch43, h42, h42, (by rw [h44]; rfl), trivial⟩
            · rw [if_neg h44] at h
              have h44 := Bool.eq_false_iff.2 h44
              obtain rfl := Option.some.inj h
              exact gRun_ok cxOK (f7_p23_e3 x1 x2 x4 x5 x6 x9 x10 x28 x29 x30 x31 x32 x33 x34) ⟨h35, h36, h36, h36, ch37, h36, h36, (by rw [h38]; rfl), (by rw [h38]; rfl), ch39, (by rw [h38]; rfl), (by rw [h38]; rfl), (by rw [h40]; rfl), ch41, h42, h42, h42, ch43, h42, h42, (by rw [h44]; rfl), trivial⟩
        · rw [if_neg h40] at h
          have h40 := Bool.eq_false_iff.2 h40
          obtain rfl := Option.some.inj h
          exact gRun_ok cxOK (f7_p23_e4 x1 x2 x4 x5 x6 x9 x10 x28 x29 x30 x31) ⟨h35, h36, h36, h36, ch37, h36, h36, (by rw [h38]; rfl), (by rw [h38]; rfl), ch39, (by rw [h38]; rfl), (by rw [h38]; rfl), (by rw [h40]; rfl), trivial⟩
      · rw [if_neg h38] at h
        have h38 := Bool.eq_false_iff.2 h38
        obtain rfl := Option.some.inj h
        exact gRun_ok cxOK (f7_p23_e5 x1 x2 x4 x5 x6 x9 x10 x28 x29 x30) ⟨h35, h36, h36, h36, ch37, h36, h36, (by rw [h38]; rfl), (by rw [h38]; rfl), (by rw [h38]; rfl), (by rw [h38]; rfl), rfl, trivial⟩
  · rw [if_neg h35] at h
    have h35 := Bool.eq_false_iff.2 h35
    by_cases h45 : (x10 != 14) = true
    · rw [if_pos h45] at h
      obtain rfl := Option.some.inj h
      exact gRun_ok cxOK (f7_p23_e6 x1 x2 x4 x5 x6 x9 x10 x28 x29) ⟨h35, h45, h45, h45, h45, rfl, trivial⟩
    · rw [if_neg h45] at h
      have h45 := Bool.eq_false_iff.2 h45
      by_cases h46 : (decide (((List.length x9 : Nat) : Int) > 0)) = true
      · rw [if_pos h46] at h
        obtain rfl := Option.some.inj h
        exact gRun_ok cxOK (f7_p23_e7 x1 x2 x4 x5 x6 x9 x10 x28 x29) ⟨h35, h45, h45, h45, h45, h46, trivial⟩
      · rw [if_neg h46] at h
        have h46 := Bool.eq_false_iff.2 h46
        obtain rfl := Option.some.inj h
        exact gRun_ok cxOK (f7_p23_e8 x1 x2 x4 x5 x6 x9 x10 x28 x29) ⟨h35, h45, h45, h45, h45, h46, trivial⟩
theorem f7_p1_4_ok (F : Nat) (x1 : Int) (x2 : List (List Int)) : ∀ (k : Nat) (x3 : Int) (x4 : Int) (x5 : Int) (r : f7_p1_4_R), f7_p1_4 F x1 x2 k x3 x4 x5 = some r → f7_p1_4_P x1 x2 x3 x4 x5 r
  | 0, _, _, _, _, h => by cases h
  | k + 1, x3, x4, x5, r, h => by
    unfold f7_p1_4 at h
    by_cases h2 : (decide (x5 < ((List.length x2 : Nat) : Int))) = true
    · rw [if_pos h2] at h
      obtain ⟨x6, h3, h⟩ := bind_some h
      try dsimp only at h
      obtain ⟨rh4, h4, h⟩ := bind_some h
      have ch4 := f27_ok F x6 _ h4
      obtain ⟨x7, x8⟩ := rh4
      try dsimp only at h
      obtain ⟨rh5, h5, h⟩ := bind_some h
      have ch5 := f29_ok F x6 _ h5
      obtain ⟨x9, x10⟩ := rh5
      try dsimp only at h
      obtain ⟨rh6, h6, h⟩ := bind_some h
      have ch6 := f49_ok F x6 _ h6
      obtain ⟨x11, rfl⟩ : ∃ z, z = rh6 := ⟨_, rfl⟩
      try dsimp only at h
      obtain ⟨rh33, h33, h⟩ := bind_some h
      have ch33 := f7_p4_ok F x1 x3 x4 x6 x7 x8 x9 x10 x2 x5 x11 _ h33
      cases rh33 with
      | c0 =>
        try dsimp only at h
        obtain rfl := Option.some.inj h
        exact Lp.out (gRun_ok cxOK (f7_p1_4_e0 x1 x2 x3 x4 x5 x6 x7 x8 x9 x10 x11) ⟨h2, ⟨(at?_spec h3).1, x6, (at?_spec h3).2, rfl⟩, ch4, ch5, ch6, ch33, trivial⟩) (by intro hh; cases hh)
      | c1 x28 =>
        try dsimp only at h
        obtain ⟨rh34, h34, h⟩ := bind_some h
        have ch34 := f51_ok F x6 _ h34
        obtain ⟨x29, rfl⟩ : ∃ z, z = rh34 := ⟨_, rfl⟩
        try dsimp only at h
        obtain ⟨rh47, h47, h⟩ := bind_some h
        have ch47 := f7_p23_ok F x1 x28 x4 x6 x9 x10 x2 x5 x29 _ h47
        cases rh47 with
        | c0 =>
          try dsimp only at h
          obtain rfl := Option.some.inj h
          exact Lp.out (gRun_ok cxOK (f7_p1_4_e1 x1 x2 x3 x4 x5 x6 x7 x8 x9 x10 x11 x28 x29) ⟨h2, ⟨(at?_spec h3).1, x6, (at?_spec h3).2, rfl⟩, ch4, ch5, ch6, ch33, ch34, ch47, trivial⟩) (by intro hh; cases hh)
        | c1 x35 =>
          try dsimp only at h
          exact Lp.again (gRun_ok cxOK (f7_p1_4_e2 x1 x2 x3 x4 x5 x6 x7 x8 x9 x10 x11 x28 x29 x35) ⟨h2, ⟨(at?_spec h3).1, x6, (at?_spec h3).2, rfl⟩, ch4, ch5, ch6, ch33, ch34, ch47, trivial⟩) (f7_p1_4_ok F x1 x2 k x28 x35 (w64 (x5 + 1)) r h)
    · rw [if_neg h2] at h
      have h2 := Bool.eq_false_iff.2 h2
      obtain rfl := Option.some.inj h
      exact Lp.out (gRun_ok cxOK (f7_p1_4_e3 x1 x2 x3 x4 x5) ⟨h2, trivial⟩) (by intro hh; cases hh)
theorem f7_ok (F : Nat) (x1 : Int) (r : Bool) (h : f7 F x1 = some r) : f7_C x1 r := by
  unfold f7 at h
  obtain ⟨rh1, h1, h⟩ := bind_some h
  have ch1 := f48_ok F (Int.tmod (w64 (x1)) 21) _ h1
  obtain ⟨x2, rfl⟩ : ∃ z, z = rh1 := ⟨_, rfl⟩
  try dsimp only at h
  obtain ⟨rh48, h48, h⟩ := bind_some h
  have ch48 := f7_p1_4_ok F x1 x2 F 0 0 0 _ h48
  cases rh48 with
  | c0 =>
    try dsimp only at h
    cases h
  | c1 x36 x37 =>
    try dsimp only at h
    obtain ⟨rh49, h49, h⟩ := bind_some h
    have ch49 := f20_ok F (Int.tmod (w64 (x1)) 21) _ h49
    obtain ⟨x38, x39⟩ := rh49
    try dsimp only at h
    by_cases h50 : (x39 == 0) = true
    · rw [if_pos h50] at h
      by_cases h51 : (x36 == x37) = true
      · rw [if_pos h51] at h
        by_cases h52 : (x38 == x37) = true
        · rw [if_pos h52] at h
          obtain ⟨rh53, h53, h⟩ := bind_some h
          have ch53 := f19_ok F _ h53
          obtain ⟨x40, rfl⟩ : ∃ z, z = rh53 := ⟨_, rfl⟩
          try dsimp only at h
          obtain rfl := Option.some.inj h
          exact callOK cxOK cxW Try.func7 (by kernel_rfl) (f7_e0 x1 x2 x36 x37 x38 x39 x40) ⟨(by decide), ch1, ch48, ch49, h50, h50, h50, h50, h51, h51, h51, h51, h52, ch53, h52, trivial⟩
        · rw [if_neg h52] at h
          have h52 := Bool.eq_false_iff.2 h52
          cases h
      · rw [if_neg h51] at h
        have h51 := Bool.eq_false_iff.2 h51
        cases h
    · rw [if_neg h50] at h
      have h50 := Bool.eq_false_iff.2 h50
      cases h

end Go.Gh.Bunch
