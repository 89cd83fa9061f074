/- Near3F0: printed by wip/tool/gx.py -/
import Derived.Test.YtcaphjiiaclndaaNear3E0
import Derived.Test.YtcaphjiiaclndaaNear3E1
namespace Go.Gh.Near
set_option linter.unusedVariables false
set_option linter.unusedSimpArgs false
open Go.Proofs

theorem f13_p1_ok (F : Nat) (x2 x1 : Int) : ∀ (k : Nat) (x4 x5 : Int) (x6 : List Bool) (r : Int × (List Bool)), f13_p1 F x2 x1 k x4 x5 x6 = some r → f13_p1_P x2 x1 x4 x5 x6 r
  | 0, _, _, _, _, h => by cases h
  | k + 1, x4, x5, x6, r, h => by
    unfold f13_p1 at h
    by_cases h5 : (decide (x4 < x1)) = true
    · rw [if_pos h5] at h
      obtain ⟨h6, h⟩ := req_some h
      obtain ⟨h7, h⟩ := req_some h
      obtain ⟨h8, h⟩ := req_some h
      exact Lp.again (gRun_ok cxOK (f13_p1_e0 x1 x2 x4 x5 x6) ⟨h5, (by decide), h6, h7, h8, trivial⟩) (f13_p1_ok F x2 x1 k (w64 (x4 + 1)) x5 (List.set x6 (0 + ((Int.toNat x4) * 1)) ((iAnd .i64 (iShr .i64 (iXor .i64 x2 (iShr .i64 x2 1)) x4) 1) == 1)) r h)
    · rw [if_neg h5] at h
      have h5 := Bool.eq_false_iff.2 h5
      obtain rfl := Option.some.inj h
      exact Lp.out (gRun_ok cxOK (f13_p1_e1 x1 x2 x4 x5 x6) ⟨h5, trivial⟩) (by intro hh; cases hh)
theorem f13_ok (F : Nat) (x1 x2 : Int) (r : Int × (List Bool)) (h : f13 F x1 x2 = some r) : f13_C x1 x2 r := by
  unfold f13 at h
  obtain ⟨rh9, h9, h⟩ := bind_some h
  have ch9 := f13_p1_ok F x2 x1 F 0 x1 (List.replicate 16 false) _ h9
  obtain ⟨x7, x8⟩ := rh9
  try dsimp only at h
  obtain rfl := Option.some.inj h
  exact callOK cxOK cxW Try.func13 (by kernel_rfl) (f13_e0 x1 x2 x7 x8) ⟨ch9, trivial⟩

theorem f14_p4_1_ok (F : Nat) (x1 x7 : Int) (x8 : Bool) (x2 : List Bool) (x6 : List Int) (r : (List Int)) (h : f14_p4_1 F x1 x7 x8 x2 x6 = some r) : f14_p4_1_P x1 x7 x8 x2 x6 r := by
  unfold f14_p4_1 at h
  by_cases h12 : x8 = true
  · rw [if_pos h12] at h
    obtain ⟨h13, h⟩ := req_some h
    obtain ⟨h14, h⟩ := req_some h
    obtain rfl := Option.some.inj h
    exact gRun_ok cxOK (f14_p4_1_e0 x1 x2 x6 x7 x8) ⟨h12, h13, h14, trivial⟩
  · rw [if_neg h12] at h
    have h12 := Bool.eq_false_iff.2 h12
    obtain rfl := Option.some.inj h
    exact gRun_ok cxOK (f14_p4_1_e1 x1 x2 x6 x7 x8) ⟨h12, trivial⟩
theorem f14_p1_ok (F : Nat) (x1 : Int) (x2 : List Bool) : ∀ (k : Nat) (x7 : Int) (x6 : List Int) (r : (List Int)), f14_p1 F x1 x2 k x7 x6 = some r → f14_p1_P x1 x2 x7 x6 r
  | 0, _, _, _, h => by cases h
  | k + 1, x7, x6, r, h => by
    unfold f14_p1 at h
    by_cases h9 : (decide (x7 < (((Int.toNat x1) : Nat) : Int))) = true
    · rw [if_pos h9] at h
      obtain ⟨h10, h⟩ := req_some h
      obtain ⟨x8, h11, h⟩ := bind_some h
      try dsimp only at h
      obtain ⟨x9, h15, h⟩ := bind_some h
      have ch15 := f14_p4_1_ok F x1 x7 x8 x2 x6 _ h15
      try dsimp only at h
      exact Lp.again (gRun_ok cxOK (f14_p1_e0 x1 x2 x6 x7 x8 x9) ⟨h9, h10, ⟨x8, h11, rfl⟩, ch15, trivial⟩) (f14_p1_ok F x1 x2 k (w64 (x7 + 1)) x9 r h)
    · rw [if_neg h9] at h
      have h9 := Bool.eq_false_iff.2 h9
      obtain rfl := Option.some.inj h
      exact Lp.out (gRun_ok cxOK (f14_p1_e1 x1 x2 x6 x7) ⟨h9, trivial⟩) (by intro hh; cases hh)
theorem f14_ok (F : Nat) (x1 : Int) (x2 : List Bool) (r : (List Int)) (h : f14 F x1 x2 = some r) : f14_C x1 x2 r := by
  unfold f14 at h
  obtain ⟨h1, h⟩ := req_some h
  obtain ⟨x10, h16, h⟩ := bind_some h
  have ch16 := f14_p1_ok F x1 x2 F 0 (List.replicate (Int.toNat x1) (0 : Int)) _ h16
  try dsimp only at h
  obtain ⟨h17, h⟩ := req_some h
  obtain rfl := Option.some.inj h
  exact callOK cxOK cxW Try.func14 (by kernel_rfl) (f14_e0 x1 x2 x10) ⟨h1, ch16, h17, trivial⟩

theorem f4_ok (F : Nat) (x1 x2 : Int) (r : (List Int) × Int) (h : f4 F x1 x2 = some r) : f4_C x1 x2 r := by
  unfold f4 at h
  by_cases h1 : (decide (x1 < 1)) = true
  · rw [if_pos h1] at h
    obtain rfl := Option.some.inj h
    exact callOK cxOK cxW Try.func4 (by kernel_rfl) (f4_e0 x1 x2) ⟨h1, h1, h1, rfl, rfl, rfl, rfl, rfl, rfl, rfl, rfl, rfl, trivial⟩
  · rw [if_neg h1] at h
    have h1 := Bool.eq_false_iff.2 h1
    by_cases h2 : (decide (x1 > 16)) = true
    · rw [if_pos h2] at h
      obtain rfl := Option.some.inj h
      exact callOK cxOK cxW Try.func4 (by kernel_rfl) (f4_e1 x1 x2) ⟨h1, h1, h1, h2, h2, h2, rfl, rfl, rfl, rfl, rfl, rfl, trivial⟩
    · rw [if_neg h2] at h
      have h2 := Bool.eq_false_iff.2 h2
      by_cases h3 : (decide (x2 < 0)) = true
      · rw [if_pos h3] at h
        obtain rfl := Option.some.inj h
        exact callOK cxOK cxW Try.func4 (by kernel_rfl) (f4_e2 x1 x2) ⟨h1, h1, h1, h2, h2, h2, h3, h3, h3, h3, h3, rfl, trivial⟩
      · rw [if_neg h3] at h
        have h3 := Bool.eq_false_iff.2 h3
        obtain ⟨h4, h⟩ := req_some h
        by_cases h5 : (decide ((iShr .i64 x2 x1) > 0)) = true
        · rw [if_pos h5] at h
          obtain rfl := Option.some.inj h
          exact callOK cxOK cxW Try.func4 (by kernel_rfl) (f4_e3 x1 x2) ⟨h1, h1, h1, h2, h2, h2, h3, h3, h3, h4, h3, h3, h5, trivial⟩
        · rw [if_neg h5] at h
          have h5 := Bool.eq_false_iff.2 h5
          obtain ⟨rh6, h6, h⟩ := bind_some h
          have ch6 := f13_ok F x1 x2 _ h6
          obtain ⟨x3, x4⟩ := rh6
          try dsimp only at h
          obtain ⟨x5, h7, h⟩ := bind_some h
          have ch7 := f14_ok F x3 x4 _ h7
          try dsimp only at h
          obtain rfl := Option.some.inj h
          exact callOK cxOK cxW Try.func4 (by kernel_rfl) (f4_e4 x1 x2 x3 x4 x5) ⟨h1, h1, h1, h2, h2, h2, h3, h3, h3, h4, h3, h3, h5, ch6, ch7, trivial⟩

theorem f34_p8_2_ok (F : Nat) (x10 x15 : Int) (x1 : List Int) (x11 : Int) (x12 : List Bool) (x13 : Int) (x14 : List Bool) (r : Bool) (h : f34_p8_2 F x10 x15 x1 x11 x12 x13 x14 = some r) : f34_p8_2_P x10 x15 x1 x11 x12 x13 x14 r := by
  unfold f34_p8_2 at h
  by_cases h19 : (x15 == 0) = true
  · rw [if_pos h19] at h
    obtain rfl := Option.some.inj h
    exact gRun_ok cxOK (f34_p8_2_e0 x1 x10 x11 x12 x13 x14 x15) ⟨h19, trivial⟩
  · rw [if_neg h19] at h
    have h19 := Bool.eq_false_iff.2 h19
    obtain rfl := Option.some.inj h
    exact gRun_ok cxOK (f34_p8_2_e1 x1 x10 x11 x12 x13 x14 x15) ⟨h19, trivial⟩
theorem f34_p4_ok (F : Nat) (x1 : List Int) : ∀ (k : Nat) (x10 x11 : Int) (x12 : List Bool) (x13 : Int) (x14 : List Bool) (r : f34_p4_R), f34_p4 F x1 k x10 x11 x12 x13 x14 = some r → f34_p4_P x1 x10 x11 x12 x13 x14 r
  | 0, _, _, _, _, _, _, h => by cases h
  | k + 1, x10, x11, x12, x13, x14, r, h => by
    unfold f34_p4 at h
    by_cases h17 : (decide (x10 < ((List.length x1 : Nat) : Int))) = true
    · rw [if_pos h17] at h
      obtain ⟨x15, h18, h⟩ := bind_some h
      try dsimp only at h
      obtain ⟨x16, h20, h⟩ := bind_some h
      have ch20 := f34_p8_2_ok F x10 x15 x1 x11 x12 x13 x14 _ h20
      try dsimp only at h
      by_cases h21 : x16 = true
      · rw [if_pos h21] at h
        obtain ⟨h22, h⟩ := req_some h
        obtain ⟨h23, h⟩ := req_some h
        exact Lp.again (gRun_ok cxOK (f34_p4_e0 x1 x10 x11 x12 x13 x14 x15 x16) ⟨h17, ⟨(at?_spec h18).1, x15, (at?_spec h18).2, rfl⟩, ch20, h21, h22, h23, trivial⟩) (f34_p4_ok F x1 k (w64 (x10 + 1)) x11 x12 x13 (List.set x14 (0 + ((Int.toNat x10) * 1)) (x15 == 1)) r h)
      · rw [if_neg h21] at h
        have h21 := Bool.eq_false_iff.2 h21
        obtain rfl := Option.some.inj h
        exact Lp.out (gRun_ok cxOK (f34_p4_e1 x1 x10 x11 x12 x13 x14 x15 x16) ⟨h17, ⟨(at?_spec h18).1, x15, (at?_spec h18).2, rfl⟩, ch20, h21, trivial⟩) (by intro hh; cases hh)
    · rw [if_neg h17] at h
      have h17 := Bool.eq_false_iff.2 h17
      obtain rfl := Option.some.inj h
      exact Lp.out (gRun_ok cxOK (f34_p4_e2 x1 x10 x11 x12 x13 x14) ⟨h17, trivial⟩) (by intro hh; cases hh)
theorem f34_ok (F : Nat) (x1 : List Int) (r : Int × (List Bool) × Int) (h : f34 F x1 = some r) : f34_C x1 r := by
  unfold f34 at h
  by_cases h1 : (((List.length x1 : Nat) : Int) == 0) = true
  · rw [if_pos h1] at h
    obtain rfl := Option.some.inj h
    exact callOK cxOK cxW Try.func34 (by kernel_rfl) (f34_e0 x1) ⟨h1, trivial⟩
  · rw [if_neg h1] at h
    have h1 := Bool.eq_false_iff.2 h1
    by_cases h2 : (decide (((List.length x1 : Nat) : Int) > 16)) = true
    · rw [if_pos h2] at h
      obtain rfl := Option.some.inj h
      exact callOK cxOK cxW Try.func34 (by kernel_rfl) (f34_e1 x1) ⟨h1, h2, trivial⟩
    · rw [if_neg h2] at h
      have h2 := Bool.eq_false_iff.2 h2
      obtain ⟨rh24, h24, h⟩ := bind_some h
      have ch24 := f34_p4_ok F x1 F 0 0 (List.replicate 16 false) ((List.length x1 : Nat) : Int) (List.replicate 16 false) _ h24
      cases rh24 with
      | c0 =>
        try dsimp only at h
        obtain rfl := Option.some.inj h
        exact callOK cxOK cxW Try.func34 (by kernel_rfl) (f34_e2 x1) ⟨h1, h2, ch24, trivial⟩
      | c1 x17 x18 x19 x20 =>
        try dsimp only at h
        obtain rfl := Option.some.inj h
        exact callOK cxOK cxW Try.func34 (by kernel_rfl) (f34_e3 x1 x17 x18 x19 x20) ⟨h1, h2, ch24, trivial⟩

theorem f35_p4_ok (F : Nat) (x3 x4 : Int) (x2 : List Bool) (r : Int) (h : f35_p4 F x3 x4 x2 = some r) : f35_p4_P x3 x4 x2 r := by
  unfold f35_p4 at h
  by_cases h3 : ((x2)[(Int.toNat x4)]?.getD false) = true
  · rw [if_pos h3] at h
    obtain ⟨h4, h⟩ := req_some h
    obtain rfl := Option.some.inj h
    exact gRun_ok cxOK (f35_p4_e0 x2 x3 x4) ⟨h3, h4, trivial⟩
  · rw [if_neg h3] at h
    have h3 := Bool.eq_false_iff.2 h3
    obtain rfl := Option.some.inj h
    exact gRun_ok cxOK (f35_p4_e1 x2 x3 x4) ⟨h3, trivial⟩
theorem f35_p1_ok (F : Nat) (x2 : List Bool) : ∀ (k : Nat) (x3 x4 : Int) (r : Int), f35_p1 F x2 k x3 x4 = some r → f35_p1_P x2 x3 x4 r
  | 0, _, _, _, h => by cases h
  | k + 1, x3, x4, r, h => by
    unfold f35_p1 at h
    by_cases h1 : (decide (x4 < 16)) = true
    · rw [if_pos h1] at h
      obtain ⟨h2, h⟩ := req_some h
      obtain ⟨x5, h5, h⟩ := bind_some h
      have ch5 := f35_p4_ok F x3 x4 x2 _ h5
      try dsimp only at h
      exact Lp.again (gRun_ok cxOK (f35_p1_e0 x2 x3 x4 x5) ⟨h1, h2, ch5, trivial⟩) (f35_p1_ok F x2 k x5 (w64 (x4 + 1)) r h)
    · rw [if_neg h1] at h
      have h1 := Bool.eq_false_iff.2 h1
      obtain rfl := Option.some.inj h
      exact Lp.out (gRun_ok cxOK (f35_p1_e1 x2 x3 x4) ⟨h1, trivial⟩) (by intro hh; cases hh)
theorem f35_p6_ok (F : Nat) : ∀ (k : Nat) (x7 x8 : Int) (r : Int), f35_p6 F k x7 x8 = some r → f35_p6_P x7 x8 r
  | 0, _, _, _, h => by cases h
  | k + 1, x7, x8, r, h => by
    unfold f35_p6 at h
    by_cases h7 : (decide (x8 < 16)) = true
    · rw [if_pos h7] at h
      obtain ⟨h8, h⟩ := req_some h
      exact Lp.again (gRun_ok cxOK (f35_p6_e0 x7 x8) ⟨h7, h8, trivial⟩) (f35_p6_ok F k (iXor .i64 x7 (iShr .i64 x7 x8)) (w64 (x8 * 2)) r h)
    · rw [if_neg h7] at h
      have h7 := Bool.eq_false_iff.2 h7
      obtain rfl := Option.some.inj h
      exact Lp.out (gRun_ok cxOK (f35_p6_e1 x7 x8) ⟨h7, trivial⟩) (by intro hh; cases hh)
theorem f35_ok (F : Nat) (x1 : Int) (x2 : List Bool) (r : Int) (h : f35 F x1 x2 = some r) : f35_C x1 x2 r := by
  unfold f35 at h
  obtain ⟨x6, h6, h⟩ := bind_some h
  have ch6 := f35_p1_ok F x2 F 0 0 _ h6
  try dsimp only at h
  obtain ⟨x9, h9, h⟩ := bind_some h
  have ch9 := f35_p6_ok F F x6 1 _ h9
  try dsimp only at h
  obtain rfl := Option.some.inj h
  exact callOK cxOK cxW Try.func35 (by kernel_rfl) (f35_e0 x1 x2 x6 x9) ⟨ch6, ch9, trivial⟩

theorem f15_ok (F : Nat) (x1 x2 : List Int) (r : Int × Int × Int × Int) (h : f15 F x1 x2 = some r) : f15_C x1 x2 r := by
  unfold f15 at h
  obtain ⟨rh1, h1, h⟩ := bind_some h
  have ch1 := f34_ok F x1 _ h1
  obtain ⟨x3, x4, x5⟩ := rh1
  try dsimp only at h
  by_cases h2 : (x5 != 0) = true
  · rw [if_pos h2] at h
    obtain rfl := Option.some.inj h
    exact callOK cxOK cxW Try.func15 (by kernel_rfl) (f15_e0 x1 x2 x3 x4 x5) ⟨ch1, h2, trivial⟩
  · rw [if_neg h2] at h
    have h2 := Bool.eq_false_iff.2 h2
    obtain ⟨rh3, h3, h⟩ := bind_some h
    have ch3 := f34_ok F x2 _ h3
    obtain ⟨x6, x7, x8⟩ := rh3
    try dsimp only at h
    by_cases h4 : (x8 != 0) = true
    · rw [if_pos h4] at h
      obtain rfl := Option.some.inj h
      exact callOK cxOK cxW Try.func15 (by kernel_rfl) (f15_e1 x1 x2 x3 x4 x5 x6 x7 x8) ⟨ch1, h2, ch3, h4, trivial⟩
    · rw [if_neg h4] at h
      have h4 := Bool.eq_false_iff.2 h4
      by_cases h5 : (x3 != x6) = true
      · rw [if_pos h5] at h
        obtain rfl := Option.some.inj h
        exact callOK cxOK cxW Try.func15 (by kernel_rfl) (f15_e2 x1 x2 x3 x4 x5 x6 x7 x8) ⟨ch1, h2, ch3, h4, h5, trivial⟩
      · rw [if_neg h5] at h
        have h5 := Bool.eq_false_iff.2 h5
        obtain ⟨x9, h6, h⟩ := bind_some h
        have ch6 := f35_ok F x3 x4 _ h6
        try dsimp only at h
        obtain ⟨x10, h7, h⟩ := bind_some h
        have ch7 := f35_ok F x6 x7 _ h7
        try dsimp only at h
        obtain rfl := Option.some.inj h
        exact callOK cxOK cxW Try.func15 (by kernel_rfl) (f15_e3 x1 x2 x3 x4 x5 x6 x7 x8 x9 x10) ⟨ch1, h2, ch3, h4, h5, ch6, ch7, trivial⟩

theorem f16_ok (F : Nat) (x1 x2 x3 : Int) (r : Int) (h : f16 F x1 x2 x3 = some r) : f16_C x1 x2 x3 r := by
  unfold f16 at h
  obtain rfl := Option.some.inj h
  exact callOK cxOK cxW Try.func16 (by kernel_rfl) (f16_e0 x1 x2 x3) trivial

theorem f5_ok (F : Nat) (x1 x2 : List Int) (r : Int × Int) (h : f5 F x1 x2 = some r) : f5_C x1 x2 r := by
  unfold f5 at h
  obtain ⟨rh1, h1, h⟩ := bind_some h
  have ch1 := f15_ok F x1 x2 _ h1
  obtain ⟨x3, x4, x5, x6⟩ := rh1
  try dsimp only at h
  by_cases h2 : (x6 != 0) = true
  · rw [if_pos h2] at h
    obtain rfl := Option.some.inj h
    exact callOK cxOK cxW Try.func5 (by kernel_rfl) (f5_e0 x1 x2 x3 x4 x5 x6) ⟨ch1, h2, trivial⟩
  · rw [if_neg h2] at h
    have h2 := Bool.eq_false_iff.2 h2
    obtain ⟨x7, h3, h⟩ := bind_some h
    have ch3 := f16_ok F x3 x4 x5 _ h3
    try dsimp only at h
    obtain rfl := Option.some.inj h
    exact callOK cxOK cxW Try.func5 (by kernel_rfl) (f5_e1 x1 x2 x3 x4 x5 x6 x7) ⟨ch1, h2, ch3, trivial⟩

theorem f20_ok (F : Nat) (x1 x2 x3 : Int) (r : Bool) (h : f20 F x1 x2 x3 = some r) : f20_C x1 x2 x3 r := by
  unfold f20 at h
  by_cases h1 : (decide (x1 ≤ x2)) = true
  · rw [if_pos h1] at h
    obtain rfl := Option.some.inj h
    exact callOK cxOK cxW Try.func20 (by kernel_rfl) (f20_e0 x1 x2 x3) ⟨h1, h1, h1, h1, trivial⟩
  · rw [if_neg h1] at h
    have h1 := Bool.eq_false_iff.2 h1
    obtain rfl := Option.some.inj h
    exact callOK cxOK cxW Try.func20 (by kernel_rfl) (f20_e1 x1 x2 x3) ⟨h1, h1, h1, h1, trivial⟩

theorem f61_ok (F : Nat) (x1 : Int) (r : Bool) (h : f61 F x1 = some r) : f61_C x1 r := by
  unfold f61 at h
  obtain ⟨x2, h1, h⟩ := bind_some h
  have ch1 := f20_ok F 0 x1 99 _ h1
  try dsimp only at h
  obtain rfl := Option.some.inj h
  exact callOK cxOK cxW Try.func61 (by kernel_rfl) (f61_e0 x1 x2) ⟨ch1, trivial⟩

theorem f68_p1_ok (F : Nat) (x1 : List Int) : ∀ (k : Nat) (x2 : Int) (r : f68_p1_R), f68_p1 F x1 k x2 = some r → f68_p1_P x1 x2 r
  | 0, _, _, h => by cases h
  | k + 1, x2, r, h => by
    unfold f68_p1 at h
    by_cases h1 : (decide (x2 < ((List.length x1 : Nat) : Int))) = true
    · rw [if_pos h1] at h
      obtain ⟨x3, h2, h⟩ := bind_some h
      try dsimp only at h
      obtain ⟨x4, h3, h⟩ := bind_some h
      have ch3 := f61_ok F x3 _ h3
      try dsimp only at h
      by_cases h4 : x4 = true
      · rw [if_pos h4] at h
        obtain rfl := Option.some.inj h
        exact Lp.out (gRun_ok cxOK (f68_p1_e0 x1 x2 x3 x4) ⟨h1, ⟨(at?_spec h2).1, x3, (at?_spec h2).2, rfl⟩, ch3, h4, trivial⟩) (by intro hh; cases hh)
      · rw [if_neg h4] at h
        have h4 := Bool.eq_false_iff.2 h4
        exact Lp.again (gRun_ok cxOK (f68_p1_e1 x1 x2 x3 x4) ⟨h1, ⟨(at?_spec h2).1, x3, (at?_spec h2).2, rfl⟩, ch3, h4, trivial⟩) (f68_p1_ok F x1 k (w64 (x2 + 1)) r h)
    · rw [if_neg h1] at h
      have h1 := Bool.eq_false_iff.2 h1
      obtain rfl := Option.some.inj h
      exact Lp.out (gRun_ok cxOK (f68_p1_e2 x1 x2) ⟨h1, trivial⟩) (by intro hh; cases hh)
theorem f68_ok (F : Nat) (x1 : List Int) (r : Int) (h : f68 F x1 = some r) : f68_C x1 r := by
  unfold f68 at h
  obtain ⟨rh5, h5, h⟩ := bind_some h
  have ch5 := f68_p1_ok F x1 F 0 _ h5
  cases rh5 with
  | c0 x5 =>
    try dsimp only at h
    obtain rfl := Option.some.inj h
    exact callOK cxOK cxW Try.func68 (by kernel_rfl) (f68_e0 x1 x5) ⟨ch5, trivial⟩
  | c1 =>
    try dsimp only at h
    obtain rfl := Option.some.inj h
    exact callOK cxOK cxW Try.func68 (by kernel_rfl) (f68_e1 x1) ⟨ch5, trivial⟩

theorem f60_ok (F : Nat) (x1 : List Int) (r : Bool) (h : f60 F x1 = some r) : f60_C x1 r := by
  unfold f60 at h
  obtain ⟨x2, h1, h⟩ := bind_some h
  have ch1 := f68_ok F x1 _ h1
  try dsimp only at h
  obtain rfl := Option.some.inj h
  exact callOK cxOK cxW Try.func60 (by kernel_rfl) (f60_e0 x1 x2) ⟨ch1, trivial⟩

theorem f49_ok (F : Nat) (x1 : List Int) (x2 : Int) (r : Int) (h : f49 F x1 x2 = some r) : f49_C x1 x2 r := by
  unfold f49 at h
  by_cases h1 : (((List.length x1 : Nat) : Int) != x2) = true
  · rw [if_pos h1] at h
    obtain rfl := Option.some.inj h
    exact callOK cxOK cxW Try.func49 (by kernel_rfl) (f49_e0 x1 x2) ⟨h1, trivial⟩
  · rw [if_neg h1] at h
    have h1 := Bool.eq_false_iff.2 h1
    obtain ⟨x3, h2, h⟩ := bind_some h
    have ch2 := f60_ok F x1 _ h2
    try dsimp only at h
    by_cases h3 : x3 = true
    · rw [if_pos h3] at h
      obtain rfl := Option.some.inj h
      exact callOK cxOK cxW Try.func49 (by kernel_rfl) (f49_e1 x1 x2 x3) ⟨h1, ch2, h3, trivial⟩
    · rw [if_neg h3] at h
      have h3 := Bool.eq_false_iff.2 h3
      obtain rfl := Option.some.inj h
      exact callOK cxOK cxW Try.func49 (by kernel_rfl) (f49_e2 x1 x2 x3) ⟨h1, ch2, h3, trivial⟩

theorem f36_p4_ok (F : Nat) (x1 : List (List Int)) : ∀ (k : Nat) (x3 : Int) (r : f36_p4_R), f36_p4 F x1 k x3 = some r → f36_p4_P x1 x3 r
  | 0, _, _, h => by cases h
  | k + 1, x3, r, h => by
    unfold f36_p4 at h
    by_cases h5 : (decide (x3 < ((List.length x1 : Nat) : Int))) = true
    · rw [if_pos h5] at h
      obtain ⟨x4, h6, h⟩ := bind_some h
      try dsimp only at h
      obtain ⟨x5, h7, h⟩ := bind_some h
      try dsimp only at h
      obtain ⟨x6, h8, h⟩ := bind_some h
      have ch8 := f49_ok F x4 ((List.length x5 : Nat) : Int) _ h8
      try dsimp only at h
      by_cases h9 : (x6 != 0) = true
      · rw [if_pos h9] at h
        obtain rfl := Option.some.inj h
        exact Lp.out (gRun_ok cxOK (f36_p4_e0 x1 x3 x4 x5 x6) ⟨h5, ⟨(at?_spec h6).1, x4, (at?_spec h6).2, rfl⟩, ⟨(at?_spec h7).1, x5, (at?_spec h7).2, rfl⟩, ch8, h9, trivial⟩) (by intro hh; cases hh)
      · rw [if_neg h9] at h
        have h9 := Bool.eq_false_iff.2 h9
        exact Lp.again (gRun_ok cxOK (f36_p4_e1 x1 x3 x4 x5 x6) ⟨h5, ⟨(at?_spec h6).1, x4, (at?_spec h6).2, rfl⟩, ⟨(at?_spec h7).1, x5, (at?_spec h7).2, rfl⟩, ch8, h9, trivial⟩) (f36_p4_ok F x1 k (w64 (x3 + 1)) r h)
    · rw [if_neg h5] at h
      have h5 := Bool.eq_false_iff.2 h5
      obtain rfl := Option.some.inj h
      exact Lp.out (gRun_ok cxOK (f36_p4_e2 x1 x3) ⟨h5, trivial⟩) (by intro hh; cases hh)
theorem f36_ok (F : Nat) (x1 : List (List Int)) (r : Int) (h : f36 F x1 = some r) : f36_C x1 r := by
  unfold f36 at h
  by_cases h1 : (((List.length x1 : Nat) : Int) == 0) = true
  · rw [if_pos h1] at h
    obtain rfl := Option.some.inj h
    exact callOK cxOK cxW Try.func36 (by kernel_rfl) (f36_e0 x1) ⟨h1, trivial⟩
  · rw [if_neg h1] at h
    have h1 := Bool.eq_false_iff.2 h1
    by_cases h2 : (decide (((List.length x1 : Nat) : Int) > 5)) = true
    · rw [if_pos h2] at h
      obtain rfl := Option.some.inj h
      exact callOK cxOK cxW Try.func36 (by kernel_rfl) (f36_e1 x1) ⟨h1, h2, h2, h2, h2, h2, h2, rfl, trivial⟩
    · rw [if_neg h2] at h
      have h2 := Bool.eq_false_iff.2 h2
      obtain ⟨x2, h3, h⟩ := bind_some h
      try dsimp only at h
      by_cases h4 : (decide (((List.length x2 : Nat) : Int) > 5)) = true
      · rw [if_pos h4] at h
        obtain rfl := Option.some.inj h
        exact callOK cxOK cxW Try.func36 (by kernel_rfl) (f36_e2 x1 x2) ⟨h1, h2, h2, ⟨(at?_spec h3).1, x2, (at?_spec h3).2, rfl⟩, h2, h2, h2, h2, h4, trivial⟩
      · rw [if_neg h4] at h
        have h4 := Bool.eq_false_iff.2 h4
        obtain ⟨rh10, h10, h⟩ := bind_some h
        have ch10 := f36_p4_ok F x1 F 0 _ h10
        cases rh10 with
        | c0 x7 =>
          try dsimp only at h
          obtain rfl := Option.some.inj h
          exact callOK cxOK cxW Try.func36 (by kernel_rfl) (f36_e3 x1 x2 x7) ⟨h1, h2, h2, ⟨(at?_spec h3).1, x2, (at?_spec h3).2, rfl⟩, h2, h2, h2, h2, h4, ch10, trivial⟩
        | c1 =>
          try dsimp only at h
          obtain rfl := Option.some.inj h
          exact callOK cxOK cxW Try.func36 (by kernel_rfl) (f36_e4 x1 x2) ⟨h1, h2, h2, ⟨(at?_spec h3).1, x2, (at?_spec h3).2, rfl⟩, h2, h2, h2, h2, h4, ch10, trivial⟩

theorem f17_ok (F : Nat) (x1 : List (List Int)) (r : f17_R) (h : f17 F x1 = some r) : f17_C x1 r := by
  unfold f17 at h
  obtain ⟨x2, h1, h⟩ := bind_some h
  have ch1 := f36_ok F x1 _ h1
  try dsimp only at h
  by_cases h2 : (x2 != 0) = true
  · rw [if_pos h2] at h
    obtain rfl := Option.some.inj h
    exact callOK cxOK cxW Try.func17 (by kernel_rfl) (f17_e0 x1 x2) ⟨ch1, h2, trivial⟩
  · rw [if_neg h2] at h
    have h2 := Bool.eq_false_iff.2 h2
    obtain ⟨x3, h3, h⟩ := bind_some h
    try dsimp only at h
    obtain rfl := Option.some.inj h
    exact callOK cxOK cxW Try.func17 (by kernel_rfl) (f17_e1 x1 x2 x3) ⟨ch1, h2, ⟨(at?_spec h3).1, x3, (at?_spec h3).2, rfl⟩, trivial⟩

theorem f19_ok (F : Nat) (r : f19_R) (h : f19 F = some r) : f19_C r := by
  unfold f19 at h
  cases h

theorem f18_ok (F : Nat) (r : f18_R) (h : f18 F = some r) : f18_C r := by
  unfold f18 at h
  obtain ⟨rh1, h1, h⟩ := bind_some h
  have ch1 := f19_ok F _ h1
  exact nomatch rh1

theorem f19_1_ok (F : Nat) (x1 : Mm) (x2 : List (List Int)) (x3 : Int) (r : Int) (h : f19_1 F x1 x2 x3 = some r) : f19_1_C x1 x2 x3 r := by
  unfold f19_1 at h
  obtain ⟨h1, h⟩ := req_some h
  obtain rfl := Option.some.inj h
  exact callOK cxOK cxW Try.func19 (by kernel_rfl) (f19_1_e0 x1 x2 x3) ⟨h1, trivial⟩

theorem f21_ok (F : Nat) (x1 x2 : Int) (r : Int × Bool) (h : f21 F x1 x2 = some r) : f21_C x1 x2 r := by
  unfold f21 at h
  by_cases h1 : (decide (x2 < 0)) = true
  · rw [if_pos h1] at h
    obtain rfl := Option.some.inj h
    exact callOK cxOK cxW Try.func21 (by kernel_rfl) (f21_e0 x1 x2) ⟨h1, trivial⟩
  · rw [if_neg h1] at h
    have h1 := Bool.eq_false_iff.2 h1
    obtain ⟨h2, h⟩ := req_some h
    obtain rfl := Option.some.inj h
    exact callOK cxOK cxW Try.func21 (by kernel_rfl) (f21_e1 x1 x2) ⟨h1, h2, h2, trivial⟩

theorem f22_ok (F : Nat) (x1 x2 : Int) (x3 : Mm) (x4 : List (List Int)) (x5 : Int) (r : Int) (h : f22 F x1 x2 x3 x4 x5 = some r) : f22_C x1 x2 x3 x4 x5 r := by
  unfold f22 at h
  by_cases h1 : (decide (x2 < 0)) = true
  · rw [if_pos h1] at h
    obtain rfl := Option.some.inj h
    exact callOK cxOK cxW Try.func22 (by kernel_rfl) (f22_e0 x1 x2 x3 x4 x5) ⟨h1, trivial⟩
  · rw [if_neg h1] at h
    have h1 := Bool.eq_false_iff.2 h1
    obtain ⟨x6, h2, h⟩ := bind_some h
    try dsimp only at h
    obtain ⟨x7, h3, h⟩ := bind_some h
    try dsimp only at h
    obtain rfl := Option.some.inj h
    exact callOK cxOK cxW Try.func22 (by kernel_rfl) (f22_e1 x1 x2 x3 x4 x5 x6 x7) ⟨h1, ⟨(at?_spec h2).1, x6, (at?_spec h2).2, rfl⟩, ⟨(at?_spec h3).1, x7, (at?_spec h3).2, rfl⟩, trivial⟩

theorem f37_p9_1_ok (F : Nat) (x17 x23 : Int) (x26 x19 : Int) (x25 : Mm) (x5 : List (List Int)) (x6 x1 : Int) (x2 x3 : Int) (x20 x24 : Int) (r : Int) (h : f37_p9_1 F x17 x23 x26 x19 x25 x5 x6 x1 x2 x3 x20 x24 = some r) : f37_p9_1_P x17 x23 x26 x19 x25 x5 x6 x1 x2 x3 x20 x24 r := by
  unfold f37_p9_1 at h
  by_cases h22 : ((w64 (x23 + x26)) == x19) = true
  · rw [if_pos h22] at h
    obtain rfl := Option.some.inj h
    exact gRun_ok cxOK (f37_p9_1_e0 x1 x2 x3 x5 x6 x17 x19 x20 x23 x24 x25 x26) ⟨h22, trivial⟩
  · rw [if_neg h22] at h
    have h22 := Bool.eq_false_iff.2 h22
    obtain rfl := Option.some.inj h
    exact gRun_ok cxOK (f37_p9_1_e1 x1 x2 x3 x5 x6 x17 x19 x20 x23 x24 x25 x26) ⟨h22, trivial⟩
theorem f37_p8_1_ok (F : Nat) (x17 x23 : Int) (x26 x19 : Int) (x25 : Mm) (x5 : List (List Int)) (x6 x1 : Int) (x2 x3 : Int) (x20 x24 : Int) (r : Int × Int) (h : f37_p8_1 F x17 x23 x26 x19 x25 x5 x6 x1 x2 x3 x20 x24 = some r) : f37_p8_1_P x17 x23 x26 x19 x25 x5 x6 x1 x2 x3 x20 x24 r := by
  unfold f37_p8_1 at h
  by_cases h21 : (decide ((w64 (x23 + x26)) > x19)) = true
  · rw [if_pos h21] at h
    obtain rfl := Option.some.inj h
    exact gRun_ok cxOK (f37_p8_1_e0 x1 x2 x3 x5 x6 x17 x19 x20 x23 x24 x25 x26) ⟨h21, trivial⟩
  · rw [if_neg h21] at h
    have h21 := Bool.eq_false_iff.2 h21
    obtain ⟨x27, h23, h⟩ := bind_some h
    have ch23 := f37_p9_1_ok F x17 x23 x26 x19 x25 x5 x6 x1 x2 x3 x20 x24 _ h23
    try dsimp only at h
    obtain rfl := Option.some.inj h
    exact gRun_ok cxOK (f37_p8_1_e1 x1 x2 x3 x5 x6 x17 x19 x20 x23 x24 x25 x26 x27) ⟨h21, ch23, trivial⟩
theorem f37_p9_2_ok (F : Nat) (x17 x30 : Int) (x33 x19 : Int) (x32 : Mm) (x5 : List (List Int)) (x6 x1 : Int) (x2 x3 : Int) (x20 x31 : Int) (r : Int) (h : f37_p9_2 F x17 x30 x33 x19 x32 x5 x6 x1 x2 x3 x20 x31 = some r) : f37_p9_2_P x17 x30 x33 x19 x32 x5 x6 x1 x2 x3 x20 x31 r := by
  unfold f37_p9_2 at h
  by_cases h28 : ((w64 (x30 + x33)) == x19) = true
  · rw [if_pos h28] at h
    obtain rfl := Option.some.inj h
    exact gRun_ok cxOK (f37_p9_2_e0 x1 x2 x3 x5 x6 x17 x19 x20 x30 x31 x32 x33) ⟨h28, trivial⟩
  · rw [if_neg h28] at h
    have h28 := Bool.eq_false_iff.2 h28
    obtain rfl := Option.some.inj h
    exact gRun_ok cxOK (f37_p9_2_e1 x1 x2 x3 x5 x6 x17 x19 x20 x30 x31 x32 x33) ⟨h28, trivial⟩
theorem f37_p8_2_ok (F : Nat) (x17 x30 : Int) (x33 x19 : Int) (x32 : Mm) (x5 : List (List Int)) (x6 x1 : Int) (x2 x3 : Int) (x20 x31 : Int) (r : Int × Int) (h : f37_p8_2 F x17 x30 x33 x19 x32 x5 x6 x1 x2 x3 x20 x31 = some r) : f37_p8_2_P x17 x30 x33 x19 x32 x5 x6 x1 x2 x3 x20 x31 r := by
  unfold f37_p8_2 at h
  by_cases h27 : (decide ((w64 (x30 + x33)) > x19)) = true
  · rw [if_pos h27] at h
    obtain rfl := Option.some.inj h
    exact gRun_ok cxOK (f37_p8_2_e0 x1 x2 x3 x5 x6 x17 x19 x20 x30 x31 x32 x33) ⟨h27, trivial⟩
  · rw [if_neg h27] at h
    have h27 := Bool.eq_false_iff.2 h27
    obtain ⟨x34, h29, h⟩ := bind_some h
    have ch29 := f37_p9_2_ok F x17 x30 x33 x19 x32 x5 x6 x1 x2 x3 x20 x31 _ h29
    try dsimp only at h
    obtain rfl := Option.some.inj h
    exact gRun_ok cxOK (f37_p8_2_e1 x1 x2 x3 x5 x6 x17 x19 x20 x30 x31 x32 x33 x34) ⟨h27, ch29, trivial⟩
theorem f37_p3_ok (F : Nat) (rec : Int → Int → Int → Mm → (List (List Int)) → Int → Option (Int × Int × Mm)) (hrec : ∀ (x1 x2 x3 : Int) (x4 : Mm) (x5 : List (List Int)) (x6 : Int) (r : Int × Int × Mm), rec x1 x2 x3 x4 x5 x6 = some r → f37_C x1 x2 x3 x4 x5 x6 r) (x5 : List (List Int)) (x6 x1 : Int) (x2 x3 : Int) : ∀ (k : Nat) (x17 : Int) (x18 : Mm) (x19 x20 : Int) (r : Mm × Int × Int), f37_p3 F rec x5 x6 x1 x2 x3 k x17 x18 x19 x20 = some r → f37_p3_P x5 x6 x1 x2 x3 x17 x18 x19 x20 r
  | 0, _, _, _, _, _, h => by cases h
  | k + 1, x17, x18, x19, x20, r, h => by
    unfold f37_p3 at h
    by_cases h14 : (decide (x17 < x6)) = true
    · rw [if_pos h14] at h
      obtain ⟨rh15, h15, h⟩ := bind_some h
      have ch15 := f21_ok F x3 x17 _ h15
      obtain ⟨x21, x22⟩ := rh15
      try dsimp only at h
      by_cases h16 : x22 = true
      · rw [if_pos h16] at h
        by_cases h17 : (decide (x17 ≥ 0)) = true
        · rw [if_pos h17] at h
          by_cases h18 : (x1 == x2) = true
          · rw [if_pos h18] at h
            exact Lp.again (gRun_ok cxOK (f37_p3_e0 x1 x2 x3 x5 x6 x17 x18 x19 x20 x21 x22) ⟨h14, ch15, (by rw [h16]; rfl), (by rw [h16]; rfl), (by rw [h16]; rfl), h17, h17, h17, h17, h17, (by rw [h16]; rfl), h17, (by rw [h16]; rfl), h18, trivial⟩) (f37_p3_ok F rec hrec x5 x6 x1 x2 x3 k (w64 (x17 + 1)) x18 x19 x20 r h)
          · rw [if_neg h18] at h
            have h18 := Bool.eq_false_iff.2 h18
            obtain ⟨rh19, h19, h⟩ := bind_some h
            have ch19 := hrec (w64 (x1 + 1)) x2 x21 x18 x5 x6 _ h19
            obtain ⟨x23, x24, x25⟩ := rh19
            try dsimp only at h
            obtain ⟨x26, h20, h⟩ := bind_some h
            have ch20 := f22_ok F x1 x17 x25 x5 x6 _ h20
            try dsimp only at h
            obtain ⟨rh24, h24, h⟩ := bind_some h
            have ch24 := f37_p8_1_ok F x17 x23 x26 x19 x25 x5 x6 x1 x2 x3 x20 x24 _ h24
            obtain ⟨x28, x29⟩ := rh24
            try dsimp only at h
            exact Lp.again (gRun_ok cxOK (f37_p3_e1 x1 x2 x3 x5 x6 x17 x18 x19 x20 x21 x22 x23 x24 x25 x26 x28 x29) ⟨h14, ch15, (by rw [h16]; rfl), (by rw [h16]; rfl), (by rw [h16]; rfl), h17, h17, h17, h17, h17, (by rw [h16]; rfl), h17, (by rw [h16]; rfl), h18, ch19, ch20, ch24, trivial⟩) (f37_p3_ok F rec hrec x5 x6 x1 x2 x3 k (w64 (x17 + 1)) x25 x28 x29 r h)
        · rw [if_neg h17] at h
          have h17 := Bool.eq_false_iff.2 h17
          obtain ⟨rh25, h25, h⟩ := bind_some h
          have ch25 := hrec (w64 (x1 + 1)) x2 x21 x18 x5 x6 _ h25
          obtain ⟨x30, x31, x32⟩ := rh25
          try dsimp only at h
          obtain ⟨x33, h26, h⟩ := bind_some h
          have ch26 := f22_ok F x1 x17 x32 x5 x6 _ h26
          try dsimp only at h
          obtain ⟨rh30, h30, h⟩ := bind_some h
          have ch30 := f37_p8_2_ok F x17 x30 x33 x19 x32 x5 x6 x1 x2 x3 x20 x31 _ h30
          obtain ⟨x35, x36⟩ := rh30
          try dsimp only at h
          exact Lp.again (gRun_ok cxOK (f37_p3_e2 x1 x2 x3 x5 x6 x17 x18 x19 x20 x21 x22 x30 x31 x32 x33 x35 x36) ⟨h14, ch15, (by rw [h16]; rfl), (by rw [h16]; rfl), (by rw [h16]; rfl), h17, h17, h17, h17, h17, (by rw [h16]; rfl), h17, (by rw [h16]; rfl), rfl, ch25, ch26, ch30, trivial⟩) (f37_p3_ok F rec hrec x5 x6 x1 x2 x3 k (w64 (x17 + 1)) x32 x35 x36 r h)
      · rw [if_neg h16] at h
        have h16 := Bool.eq_false_iff.2 h16
        exact Lp.again (gRun_ok cxOK (f37_p3_e3 x1 x2 x3 x5 x6 x17 x18 x19 x20 x21 x22) ⟨h14, ch15, (by rw [h16]; rfl), (by rw [h16]; rfl), (by rw [h16]; rfl), (by rw [h16]; rfl), (by rw [h16]; rfl), rfl, trivial⟩) (f37_p3_ok F rec hrec x5 x6 x1 x2 x3 k (w64 (x17 + 1)) x18 x19 x20 r h)
    · rw [if_neg h14] at h
      have h14 := Bool.eq_false_iff.2 h14
      obtain rfl := Option.some.inj h
      exact Lp.out (gRun_ok cxOK (f37_p3_e4 x1 x2 x3 x5 x6 x17 x18 x19 x20) ⟨h14, trivial⟩) (by intro hh; cases hh)
theorem f37_b_ok (F : Nat) (rec : Int → Int → Int → Mm → (List (List Int)) → Int → Option (Int × Int × Mm)) (hrec : ∀ (x1 x2 x3 : Int) (x4 : Mm) (x5 : List (List Int)) (x6 : Int) (r : Int × Int × Mm), rec x1 x2 x3 x4 x5 x6 = some r → f37_C x1 x2 x3 x4 x5 x6 r) (x1 x2 x3 : Int) (x4 : Mm) (x5 : List (List Int)) (x6 : Int) (r : Int × Int × Mm) (h : f37_b F rec x1 x2 x3 x4 x5 x6 = some r) : f37_C x1 x2 x3 x4 x5 x6 r := by
  unfold f37_b at h
  by_cases h1 : (x1 == ((List.length x5 : Nat) : Int)) = true
  · rw [if_pos h1] at h
    obtain rfl := Option.some.inj h
    exact callOK cxOK cxW Try.func37 (by kernel_rfl) (f37_e0 x1 x2 x3 x4 x5 x6) ⟨h1, trivial⟩
  · rw [if_neg h1] at h
    have h1 := Bool.eq_false_iff.2 h1
    by_cases h2 : (Option.isSome (mget x4 (x1, (x2, (x3, ()))))) = true
    · rw [if_pos h2] at h
      obtain rfl := Option.some.inj h
      exact callOK cxOK cxW Try.func37 (by kernel_rfl) (f37_e1 x1 x2 x3 x4 x5 x6) ⟨h1, (by kernel_rfl), h2, trivial⟩
    · rw [if_neg h2] at h
      have h2 := Bool.eq_false_iff.2 h2
      obtain ⟨rh31, h31, h⟩ := bind_some h
      have ch31 := f37_p3_ok F rec hrec x5 x6 x1 x2 x3 F (-1) x4 (-1) 0 _ h31
      obtain ⟨x37, x38, x39⟩ := rh31
      try dsimp only at h
      obtain rfl := Option.some.inj h
      exact callOK cxOK cxW Try.func37 (by kernel_rfl) (f37_e2 x1 x2 x3 x4 x5 x6 x37 x38 x39) ⟨h1, (by kernel_rfl), h2, ch31, (by kernel_rfl), trivial⟩
theorem f37_ok (F : Nat) : ∀ (k : Nat) (x1 x2 x3 : Int) (x4 : Mm) (x5 : List (List Int)) (x6 : Int) (r : Int × Int × Mm), f37 F k x1 x2 x3 x4 x5 x6 = some r → f37_C x1 x2 x3 x4 x5 x6 r
  | 0, _, _, _, _, _, _, _, h => by cases h
  | k + 1, x1, x2, x3, x4, x5, x6, r, h => f37_b_ok F (f37 F k) (f37_ok F k) x1 x2 x3 x4 x5 x6 r h

theorem f18_1_p5_2_ok (F : Nat) (x64 : Int) (x2 : List (List Int)) (x3 : Int) : ∀ (k : Nat) (x79 x80 : Int) (x81 : Mm) (x78 : List Int) (r : Int × Mm × (List Int)), f18_1_p5_2 F x64 x2 x3 k x79 x80 x81 x78 = some r → f18_1_p5_2_P x64 x2 x3 x79 x80 x81 x78 r
  | 0, _, _, _, _, _, h => by cases h
  | k + 1, x79, x80, x81, x78, r, h => by
    unfold f18_1_p5_2 at h
    by_cases h47 : (decide (x80 < x3)) = true
    · rw [if_pos h47] at h
      obtain ⟨rh48, h48, h⟩ := bind_some h
      have ch48 := f21_ok F x79 x80 _ h48
      obtain ⟨x82, x83⟩ := rh48
      try dsimp only at h
      by_cases h49 : x83 = true
      · rw [if_pos h49] at h
        obtain ⟨rh50, h50, h⟩ := bind_some h
        have ch50 := f37_ok F F (w64 (x64 + 1)) (-1) x82 x81 x2 x3 _ h50
        obtain ⟨x84, x85, x86⟩ := rh50
        try dsimp only at h
        obtain ⟨x87, h51, h⟩ := bind_some h
        have ch51 := f22_ok F x64 x80 x86 x2 x3 _ h51
        try dsimp only at h
        obtain ⟨rh52, h52, h⟩ := bind_some h
        have ch52 := f37_ok F F x64 (-1) x79 x86 x2 x3 _ h52
        obtain ⟨x88, x89, x90⟩ := rh52
        try dsimp only at h
        by_cases h53 : ((w64 (x84 + x87)) == x88) = true
        · rw [if_pos h53] at h
          obtain ⟨h54, h⟩ := req_some h
          obtain rfl := Option.some.inj h
          exact Lp.out (gRun_ok cxOK (f18_1_p5_2_e0 x2 x3 x64 x78 x79 x80 x81 x82 x83 x84 x85 x86 x87 x88 x89 x90) ⟨h47, ch48, h49, h49, h49, h49, h49, h49, ch50, h49, h49, h49, h49, h49, ch51, h49, h49, h49, h49, h49, h49, ch52, h49, h49, h49, h53, h54, rfl, trivial⟩) (by intro hh; cases hh)
        · rw [if_neg h53] at h
          have h53 := Bool.eq_false_iff.2 h53
          exact Lp.again (gRun_ok cxOK (f18_1_p5_2_e1 x2 x3 x64 x78 x79 x80 x81 x82 x83 x84 x85 x86 x87 x88 x89 x90) ⟨h47, ch48, h49, h49, h49, h49, h49, h49, ch50, h49, h49, h49, h49, h49, ch51, h49, h49, h49, h49, h49, h49, ch52, h49, h49, h49, h53, trivial⟩) (f18_1_p5_2_ok F x64 x2 x3 k x79 (w64 (x80 + 1)) x90 x78 r h)
      · rw [if_neg h49] at h
        have h49 := Bool.eq_false_iff.2 h49
        exact Lp.again (gRun_ok cxOK (f18_1_p5_2_e2 x2 x3 x64 x78 x79 x80 x81 x82 x83) ⟨h47, ch48, h49, h49, h49, h49, h49, h49, h49, h49, h49, h49, h49, h49, h49, h49, h49, h49, h49, h49, h49, h49, rfl, trivial⟩) (f18_1_p5_2_ok F x64 x2 x3 k x79 (w64 (x80 + 1)) x81 x78 r h)
    · rw [if_neg h47] at h
      have h47 := Bool.eq_false_iff.2 h47
      obtain rfl := Option.some.inj h
      exact Lp.out (gRun_ok cxOK (f18_1_p5_2_e3 x2 x3 x64 x78 x79 x80 x81) ⟨h47, trivial⟩) (by intro hh; cases hh)
theorem f18_1_p1_ok (F : Nat) (x2 : List (List Int)) (x3 : Int) : ∀ (k : Nat) (x63 x64 : Int) (x65 : Mm) (x62 : List Int) (r : Mm × (List Int)), f18_1_p1 F x2 x3 k x63 x64 x65 x62 = some r → f18_1_p1_P x2 x3 x63 x64 x65 x62 r
  | 0, _, _, _, _, _, h => by cases h
  | k + 1, x63, x64, x65, x62, r, h => by
    unfold f18_1_p1 at h
    by_cases h38 : (decide (x64 < ((List.length x2 : Nat) : Int))) = true
    · rw [if_pos h38] at h
      obtain ⟨rh55, h55, h⟩ := bind_some h
      have ch55 := f18_1_p5_2_ok F x64 x2 x3 F x63 (-1) x65 x62 _ h55
      obtain ⟨x91, x92, x93⟩ := rh55
      try dsimp only at h
      exact Lp.again (gRun_ok cxOK (f18_1_p1_e0 x2 x3 x62 x63 x64 x65 x91 x92 x93) ⟨h38, ch55, trivial⟩) (f18_1_p1_ok F x2 x3 k x91 (w64 (x64 + 1)) x92 x93 r h)
    · rw [if_neg h38] at h
      have h38 := Bool.eq_false_iff.2 h38
      obtain rfl := Option.some.inj h
      exact Lp.out (gRun_ok cxOK (f18_1_p1_e1 x2 x3 x62 x63 x64 x65) ⟨h38, trivial⟩) (by intro hh; cases hh)
theorem f18_1_ok (F : Nat) (x1 : Mm) (x2 : List (List Int)) (x3 : Int) (r : (List Int) × Mm) (h : f18_1 F x1 x2 x3 = some r) : f18_1_C x1 x2 x3 r := by
  unfold f18_1 at h
  obtain ⟨x4, h1, h⟩ := bind_some h
  have ch1 := f19_1_ok F x1 x2 x3 _ h1
  try dsimp only at h
  obtain ⟨rh56, h56, h⟩ := bind_some h
  have ch56 := f18_1_p1_ok F x2 x3 F x4 0 x1 ([] : List Int) _ h56
  obtain ⟨x94, x95⟩ := rh56
  try dsimp only at h
  obtain rfl := Option.some.inj h
  exact callOK cxOK cxW Try.func18 (by kernel_rfl) (f18_1_e0 x1 x2 x3 x4 x94 x95) ⟨ch1, ch56, (Nat.le_of_eq (Nat.zero_add _)), trivial⟩

theorem f6_1_ok (F : Nat) (x1 : List (List Int)) (r : (List Int) × Int) (h : f6_1 F x1 = some r) : f6_1_C x1 r := by
  unfold f6_1 at h
  obtain ⟨rh1, h1, h⟩ := bind_some h
  have ch1 := f17_ok F x1 _ h1
  cases rh1 with
  | c0 x2 =>
    try dsimp only at h
    by_cases h2 : (x2 != 0) = true
    · rw [if_pos h2] at h
      obtain rfl := Option.some.inj h
      exact callOK cxOK cxW Try.func6 (by kernel_rfl) (f6_1_e0 x1 x2) ⟨ch1, h2, trivial⟩
    · rw [if_neg h2] at h
      have h2 := Bool.eq_false_iff.2 h2
      obtain ⟨rh3, h3, h⟩ := bind_some h
      have ch3 := f18_ok F _ h3
      exact nomatch rh3
  | c1 x3 x4 x5 x6 =>
    try dsimp only at h
    by_cases h4 : (x3 != 0) = true
    · rw [if_pos h4] at h
      obtain rfl := Option.some.inj h
      exact callOK cxOK cxW Try.func6 (by kernel_rfl) (f6_1_e1 x1 x3 x4 x5 x6) ⟨ch1, h4, trivial⟩
    · rw [if_neg h4] at h
      have h4 := Bool.eq_false_iff.2 h4
      obtain ⟨rh5, h5, h⟩ := bind_some h
      have ch5 := f18_1_ok F x4 x5 x6 _ h5
      obtain ⟨x7, x8⟩ := rh5
      try dsimp only at h
      obtain rfl := Option.some.inj h
      exact callOK cxOK cxW Try.func6 (by kernel_rfl) (f6_1_e2 x1 x3 x4 x5 x6 x7 x8) ⟨ch1, h4, ch5, trivial⟩

theorem f7_p4_ok (F : Nat) (x2 : List Int) (x5 : Mm) (x6 : List (List Int)) (x7 : Int) : ∀ (k : Nat) (x9 x10 x11 : Int) (r : f7_p4_R), f7_p4 F x2 x5 x6 x7 k x9 x10 x11 = some r → f7_p4_P x2 x5 x6 x7 x9 x10 x11 r
  | 0, _, _, _, _, h => by cases h
  | k + 1, x9, x10, x11, r, h => by
    unfold f7_p4 at h
    by_cases h8 : (decide (x11 < ((List.length x2 : Nat) : Int))) = true
    · rw [if_pos h8] at h
      obtain ⟨x12, h9, h⟩ := bind_some h
      try dsimp only at h
      obtain ⟨x13, h10, h⟩ := bind_some h
      have ch10 := f20_ok F (-1) x12 (w64 (x7 - 1)) _ h10
      try dsimp only at h
      by_cases h11 : x13 = true
      · rw [if_pos h11] at h
        obtain ⟨rh12, h12, h⟩ := bind_some h
        have ch12 := f21_ok F x9 x12 _ h12
        obtain ⟨x14, x15⟩ := rh12
        try dsimp only at h
        by_cases h13 : x15 = true
        · rw [if_pos h13] at h
          obtain ⟨x16, h14, h⟩ := bind_some h
          have ch14 := f22_ok F x11 x12 x5 x6 x7 _ h14
          try dsimp only at h
          exact Lp.again (gRun_ok cxOK (f7_p4_e0 x2 x5 x6 x7 x9 x10 x11 x12 x13 x14 x15 x16) ⟨h8, ⟨(at?_spec h9).1, x12, (at?_spec h9).2, rfl⟩, ch10, (by rw [h11]; rfl), ch12, (by rw [h13]; rfl), ch14, trivial⟩) (f7_p4_ok F x2 x5 x6 x7 k x14 (w64 (x10 + x16)) (w64 (x11 + 1)) r h)
        · rw [if_neg h13] at h
          have h13 := Bool.eq_false_iff.2 h13
          obtain rfl := Option.some.inj h
          exact Lp.out (gRun_ok cxOK (f7_p4_e1 x2 x5 x6 x7 x9 x10 x11 x12 x13 x14 x15) ⟨h8, ⟨(at?_spec h9).1, x12, (at?_spec h9).2, rfl⟩, ch10, (by rw [h11]; rfl), ch12, (by rw [h13]; rfl), trivial⟩) (by intro hh; cases hh)
      · rw [if_neg h11] at h
        have h11 := Bool.eq_false_iff.2 h11
        obtain rfl := Option.some.inj h
        exact Lp.out (gRun_ok cxOK (f7_p4_e2 x2 x5 x6 x7 x9 x10 x11 x12 x13) ⟨h8, ⟨(at?_spec h9).1, x12, (at?_spec h9).2, rfl⟩, ch10, (by rw [h11]; rfl), trivial⟩) (by intro hh; cases hh)
    · rw [if_neg h8] at h
      have h8 := Bool.eq_false_iff.2 h8
      obtain rfl := Option.some.inj h
      exact Lp.out (gRun_ok cxOK (f7_p4_e3 x2 x5 x6 x7 x9 x10 x11) ⟨h8, trivial⟩) (by intro hh; cases hh)
theorem f7_ok (F : Nat) (x1 : List (List Int)) (x2 : List Int) (r : Int × Int) (h : f7 F x1 x2 = some r) : f7_C x1 x2 r := by
  unfold f7 at h
  obtain ⟨rh1, h1, h⟩ := bind_some h
  have ch1 := f17_ok F x1 _ h1
  cases rh1 with
  | c0 x3 =>
    try dsimp only at h
    by_cases h2 : (x3 != 0) = true
    · rw [if_pos h2] at h
      obtain rfl := Option.some.inj h
      exact callOK cxOK cxW Try.func7 (by kernel_rfl) (f7_e0 x1 x2 x3) ⟨ch1, h2, trivial⟩
    · rw [if_neg h2] at h
      have h2 := Bool.eq_false_iff.2 h2
      by_cases h3 : (((List.length x2 : Nat) : Int) != ((List.length x1 : Nat) : Int)) = true
      · rw [if_pos h3] at h
        obtain rfl := Option.some.inj h
        exact callOK cxOK cxW Try.func7 (by kernel_rfl) (f7_e1 x1 x2 x3) ⟨ch1, h2, h3, trivial⟩
      · rw [if_neg h3] at h
        have h3 := Bool.eq_false_iff.2 h3
        obtain ⟨rh4, h4, h⟩ := bind_some h
        have ch4 := f19_ok F _ h4
        exact nomatch rh4
  | c1 x4 x5 x6 x7 =>
    try dsimp only at h
    by_cases h5 : (x4 != 0) = true
    · rw [if_pos h5] at h
      obtain rfl := Option.some.inj h
      exact callOK cxOK cxW Try.func7 (by kernel_rfl) (f7_e2 x1 x2 x4 x5 x6 x7) ⟨ch1, h5, trivial⟩
    · rw [if_neg h5] at h
      have h5 := Bool.eq_false_iff.2 h5
      by_cases h6 : (((List.length x2 : Nat) : Int) != ((List.length x1 : Nat) : Int)) = true
      · rw [if_pos h6] at h
        obtain rfl := Option.some.inj h
        exact callOK cxOK cxW Try.func7 (by kernel_rfl) (f7_e3 x1 x2 x4 x5 x6 x7) ⟨ch1, h5, h6, trivial⟩
      · rw [if_neg h6] at h
        have h6 := Bool.eq_false_iff.2 h6
        obtain ⟨x8, h7, h⟩ := bind_some h
        have ch7 := f19_1_ok F x5 x6 x7 _ h7
        try dsimp only at h
        obtain ⟨rh15, h15, h⟩ := bind_some h
        have ch15 := f7_p4_ok F x2 x5 x6 x7 F x8 0 0 _ h15
        cases rh15 with
        | c0 x17 =>
          try dsimp only at h
          obtain rfl := Option.some.inj h
          exact callOK cxOK cxW Try.func7 (by kernel_rfl) (f7_e4 x1 x2 x4 x5 x6 x7 x8 x17) ⟨ch1, h5, h6, ch7, ch15, trivial⟩
        | c1 x18 =>
          try dsimp only at h
          obtain rfl := Option.some.inj h
          exact callOK cxOK cxW Try.func7 (by kernel_rfl) (f7_e5 x1 x2 x4 x5 x6 x7 x8 x18) ⟨ch1, h5, h6, ch7, ch15, trivial⟩

theorem f23_p1_ok (F : Nat) (x1 : List Int) (x2 : Int) : ∀ (k : Nat) (x3 : Int) (r : f23_p1_R), f23_p1 F x1 x2 k x3 = some r → f23_p1_P x1 x2 x3 r
  | 0, _, _, h => by cases h
  | k + 1, x3, r, h => by
    unfold f23_p1 at h
    by_cases h1 : (decide (x3 < ((List.length x1 : Nat) : Int))) = true
    · rw [if_pos h1] at h
      obtain ⟨x4, h2, h⟩ := bind_some h
      try dsimp only at h
      by_cases h3 : (x2 == x4) = true
      · rw [if_pos h3] at h
        obtain rfl := Option.some.inj h
        exact Lp.out (gRun_ok cxOK (f23_p1_e0 x1 x2 x3 x4) ⟨h1, ⟨(at?_spec h2).1, x4, (at?_spec h2).2, rfl⟩, h3, trivial⟩) (by intro hh; cases hh)
      · rw [if_neg h3] at h
        have h3 := Bool.eq_false_iff.2 h3
        exact Lp.again (gRun_ok cxOK (f23_p1_e1 x1 x2 x3 x4) ⟨h1, ⟨(at?_spec h2).1, x4, (at?_spec h2).2, rfl⟩, h3, trivial⟩) (f23_p1_ok F x1 x2 k (w64 (x3 + 1)) r h)
    · rw [if_neg h1] at h
      have h1 := Bool.eq_false_iff.2 h1
      obtain rfl := Option.some.inj h
      exact Lp.out (gRun_ok cxOK (f23_p1_e2 x1 x2 x3) ⟨h1, trivial⟩) (by intro hh; cases hh)
theorem f23_ok (F : Nat) (x1 : List Int) (x2 : Int) (r : Int) (h : f23 F x1 x2 = some r) : f23_C x1 x2 r := by
  unfold f23 at h
  obtain ⟨rh4, h4, h⟩ := bind_some h
  have ch4 := f23_p1_ok F x1 x2 F 0 _ h4
  cases rh4 with
  | c0 x5 =>
    try dsimp only at h
    obtain rfl := Option.some.inj h
    exact callOK cxOK cxW Try.func23 (by kernel_rfl) (f23_e0 x1 x2 x5) ⟨ch4, trivial⟩
  | c1 =>
    try dsimp only at h
    obtain rfl := Option.some.inj h
    exact callOK cxOK cxW Try.func23 (by kernel_rfl) (f23_e1 x1 x2) ⟨ch4, trivial⟩

theorem f8_ok (F : Nat) (x1 : List Int) (x2 : Int) (r : Bool) (h : f8 F x1 x2 = some r) : f8_C x1 x2 r := by
  unfold f8 at h
  obtain ⟨x3, h1, h⟩ := bind_some h
  have ch1 := f23_ok F x1 x2 _ h1
  try dsimp only at h
  obtain rfl := Option.some.inj h
  exact callOK cxOK cxW Try.func8 (by kernel_rfl) (f8_e0 x1 x2 x3) ⟨ch1, trivial⟩

theorem f48_p0_ok (F : Nat) (x1 : Int) (r : Int × Int) (h : f48_p0 F x1 = some r) : f48_p0_P x1 r := by
  unfold f48_p0 at h
  by_cases h1 : (decide (x1 ≥ 4294967296)) = true
  · rw [if_pos h1] at h
    obtain rfl := Option.some.inj h
    exact gRun_ok cxOK (f48_p0_e0 x1) ⟨h1, (by decide), trivial⟩
  · rw [if_neg h1] at h
    have h1 := Bool.eq_false_iff.2 h1
    obtain rfl := Option.some.inj h
    exact gRun_ok cxOK (f48_p0_e1 x1) ⟨h1, trivial⟩
theorem f48_p1_ok (F : Nat) (x2 x3 : Int) (r : Int × Int) (h : f48_p1 F x2 x3 = some r) : f48_p1_P x2 x3 r := by
  unfold f48_p1 at h
  by_cases h3 : (decide (x2 ≥ 65536)) = true
  · rw [if_pos h3] at h
    obtain rfl := Option.some.inj h
    exact gRun_ok cxOK (f48_p1_e0 x2 x3) ⟨h3, (by decide), trivial⟩
  · rw [if_neg h3] at h
    have h3 := Bool.eq_false_iff.2 h3
    obtain rfl := Option.some.inj h
    exact gRun_ok cxOK (f48_p1_e1 x2 x3) ⟨h3, trivial⟩
theorem f48_p2_ok (F : Nat) (x4 x5 : Int) (r : Int × Int) (h : f48_p2 F x4 x5 = some r) : f48_p2_P x4 x5 r := by
  unfold f48_p2 at h
  by_cases h5 : (decide (x4 ≥ 256)) = true
  · rw [if_pos h5] at h
    obtain rfl := Option.some.inj h
    exact gRun_ok cxOK (f48_p2_e0 x4 x5) ⟨h5, (by decide), trivial⟩
  · rw [if_neg h5] at h
    have h5 := Bool.eq_false_iff.2 h5
    obtain rfl := Option.some.inj h
    exact gRun_ok cxOK (f48_p2_e1 x4 x5) ⟨h5, trivial⟩
theorem f48_ok (F : Nat) (x1 : Int) (r : Int) (h : f48 F x1 = some r) : f48_C x1 r := by
  unfold f48 at h
  obtain ⟨rh2, h2, h⟩ := bind_some h
  have ch2 := f48_p0_ok F x1 _ h2
  obtain ⟨x2, x3⟩ := rh2
  try dsimp only at h
  obtain ⟨rh4, h4, h⟩ := bind_some h
  have ch4 := f48_p1_ok F x2 x3 _ h4
  obtain ⟨x4, x5⟩ := rh4
  try dsimp only at h
  obtain ⟨rh6, h6, h⟩ := bind_some h
  have ch6 := f48_p2_ok F x4 x5 _ h6
  obtain ⟨x6, x7⟩ := rh6
  try dsimp only at h
  obtain ⟨h7, h⟩ := req_some h
  obtain rfl := Option.some.inj h
  exact callOK cxOK cxW Try.func48 (by kernel_rfl) (f48_e0 x1 x2 x3 x4 x5 x6 x7) ⟨ch2, ch4, ch6, h7, trivial⟩

theorem f25_ok (F : Nat) (x1 : Int) (r : Int) (h : f25 F x1 = some r) : f25_C x1 r := by
  unfold f25 at h
  obtain ⟨x2, h1, h⟩ := bind_some h
  have ch1 := f48_ok F x1 _ h1
  try dsimp only at h
  obtain rfl := Option.some.inj h
  exact callOK cxOK cxW Try.func25 (by kernel_rfl) (f25_e0 x1 x2) ⟨rfl, ch1, trivial⟩

theorem f59_ok (F : Nat) (x1 : Int) (r : Bool) (h : f59 F x1 = some r) : f59_C x1 r := by
  unfold f59 at h
  obtain rfl := Option.some.inj h
  exact callOK cxOK cxW Try.func59 (by kernel_rfl) (f59_e0 x1) trivial

theorem f44_ok (F : Nat) (x1 x2 : Int) (r : Bool) (h : f44 F x1 x2 = some r) : f44_C x1 x2 r := by
  unfold f44 at h
  obtain ⟨x3, h1, h⟩ := bind_some h
  have ch1 := f59_ok F x1 _ h1
  try dsimp only at h
  by_cases h2 : x3 = true
  · rw [if_pos h2] at h
    obtain ⟨x4, h3, h⟩ := bind_some h
    have ch3 := f59_ok F x2 _ h3
    try dsimp only at h
    by_cases h4 : x4 = true
    · rw [if_pos h4] at h
      obtain rfl := Option.some.inj h
      exact callOK cxOK cxW Try.func44 (by kernel_rfl) (f44_e0 x1 x2 x3 x4) ⟨ch1, h2, h2, ch3, h2, h2, (by rw [h4]; rfl), (by rw [h4]; rfl), (by rw [h4]; rfl), (by rw [h4]; rfl), trivial⟩
    · rw [if_neg h4] at h
      have h4 := Bool.eq_false_iff.2 h4
      obtain rfl := Option.some.inj h
      exact callOK cxOK cxW Try.func44 (by kernel_rfl) (f44_e1 x1 x2 x3 x4) ⟨ch1, h2, h2, ch3, h2, h2, (by rw [h4]; rfl), (by rw [h4]; rfl), (by rw [h4]; rfl), (by rw [h4]; rfl), trivial⟩
  · rw [if_neg h2] at h
    have h2 := Bool.eq_false_iff.2 h2
    obtain rfl := Option.some.inj h
    exact callOK cxOK cxW Try.func44 (by kernel_rfl) (f44_e2 x1 x2 x3) ⟨ch1, h2, h2, h2, h2, rfl, rfl, rfl, rfl, trivial⟩

theorem f38_p5_2_ok (F : Nat) (x3 : List Int) (x1 x2 x38 : Int) : ∀ (k : Nat) (x44 : Int) (x43 : List Int) (r : (List Int)), f38_p5_2 F x3 x1 x2 x38 k x44 x43 = some r → f38_p5_2_P x3 x1 x2 x38 x44 x43 r
  | 0, _, _, _, h => by cases h
  | k + 1, x44, x43, r, h => by
    unfold f38_p5_2 at h
    by_cases h69 : (decide (x44 > x1)) = true
    · rw [if_pos h69] at h
      obtain ⟨h70, h⟩ := req_some h
      obtain ⟨x45, h71, h⟩ := bind_some h
      try dsimp only at h
      obtain ⟨h72, h⟩ := req_some h
      obtain ⟨x46, h73, h⟩ := bind_some h
      try dsimp only at h
      obtain ⟨x47, h74, h⟩ := bind_some h
      have ch74 := f44_ok F x45 x46 _ h74
      try dsimp only at h
      by_cases h75 : x47 = true
      · rw [if_pos h75] at h
        obtain ⟨h76, h⟩ := req_some h
        obtain ⟨h77, h⟩ := req_some h
        exact Lp.again (gRun_ok cxOK (f38_p5_2_e0 x1 x2 x3 x38 x43 x44 x45 x46 x47) ⟨h69, h69, h69, h70, h69, ⟨x45, h71, rfl⟩, h69, h69, h69, h69, h72, h69, ⟨x46, h73, rfl⟩, h69, ch74, h69, h75, h72, ⟨x46, h73, rfl⟩, h70, ⟨x45, h71, rfl⟩, h70, h76, h72, h77, trivial⟩) (f38_p5_2_ok F x3 x1 x2 x38 k (w64 (x44 - 1)) (List.set (List.set x43 (0 + (Int.toNat x44)) x46) (0 + (Int.toNat (w64 (x44 - 1)))) x45) r h)
      · rw [if_neg h75] at h
        have h75 := Bool.eq_false_iff.2 h75
        obtain rfl := Option.some.inj h
        exact Lp.out (gRun_ok cxOK (f38_p5_2_e1 x1 x2 x3 x38 x43 x44 x45 x46 x47) ⟨h69, h69, h69, h70, h69, ⟨x45, h71, rfl⟩, h69, h69, h69, h69, h72, h69, ⟨x46, h73, rfl⟩, h69, ch74, h69, h75, trivial⟩) (by intro hh; cases hh)
    · rw [if_neg h69] at h
      have h69 := Bool.eq_false_iff.2 h69
      obtain rfl := Option.some.inj h
      exact Lp.out (gRun_ok cxOK (f38_p5_2_e2 x1 x2 x3 x38 x43 x44) ⟨h69, h69, h69, h69, h69, h69, h69, h69, h69, h69, h69, rfl, trivial⟩) (by intro hh; cases hh)
theorem f38_p1_ok (F : Nat) (x3 : List Int) (x1 x2 : Int) : ∀ (k : Nat) (x38 : Int) (x37 : List Int) (r : (List Int)), f38_p1 F x3 x1 x2 k x38 x37 = some r → f38_p1_P x3 x1 x2 x38 x37 r
  | 0, _, _, _, h => by cases h
  | k + 1, x38, x37, r, h => by
    unfold f38_p1 at h
    by_cases h59 : (decide (x38 < x2)) = true
    · rw [if_pos h59] at h
      obtain ⟨x48, h78, h⟩ := bind_some h
      have ch78 := f38_p5_2_ok F x3 x1 x2 x38 F x38 x37 _ h78
      try dsimp only at h
      exact Lp.again (gRun_ok cxOK (f38_p1_e0 x1 x2 x3 x37 x38 x48) ⟨h59, ch78, trivial⟩) (f38_p1_ok F x3 x1 x2 k (w64 (x38 + 1)) x48 r h)
    · rw [if_neg h59] at h
      have h59 := Bool.eq_false_iff.2 h59
      obtain rfl := Option.some.inj h
      exact Lp.out (gRun_ok cxOK (f38_p1_e1 x1 x2 x3 x37 x38) ⟨h59, trivial⟩) (by intro hh; cases hh)
theorem f38_ok (F : Nat) (x1 x2 : Int) (x3 : List Int) (r : (List Int)) (h : f38 F x1 x2 x3 = some r) : f38_C x1 x2 x3 r := by
  unfold f38 at h
  obtain ⟨x49, h79, h⟩ := bind_some h
  have ch79 := f38_p1_ok F x3 x1 x2 F (w64 (x1 + 1)) x3 _ h79
  try dsimp only at h
  obtain rfl := Option.some.inj h
  exact callOK cxOK cxW Try.func38 (by kernel_rfl) (f38_e0 x1 x2 x3 x49) ⟨ch79, trivial⟩

theorem f24_p5_1_ok (F : Nat) (x11 : List Int) (x12 x13 x14 : Int) (x15 x16 : Bool) (r : Unit) (h : f24_p5_1 F x11 x12 x13 x14 x15 x16 = some r) : f24_p5_1_P x11 x12 x13 x14 x15 x16 r := by
  unfold f24_p5_1 at h
  by_cases h9 : x15 = true
  · rw [if_pos h9] at h
    obtain rfl := Option.some.inj h
    exact gRun_ok cxOK (f24_p5_1_e0 x11 x12 x13 x14 x15 x16) ⟨(by rw [h9]; rfl), trivial⟩
  · rw [if_neg h9] at h
    have h9 := Bool.eq_false_iff.2 h9
    cases h
theorem f24_p1_ok (F : Nat) : ∀ (k : Nat) (x12 x13 x14 : Int) (x15 x16 : Bool) (x11 : List Int) (r : (List Int)), f24_p1 F k x12 x13 x14 x15 x16 x11 = some r → f24_p1_P x12 x13 x14 x15 x16 x11 r
  | 0, _, _, _, _, _, _, _, h => by cases h
  | k + 1, x12, x13, x14, x15, x16, x11, r, h => by
    unfold f24_p1 at h
    dsimp only at h
    by_cases h6 : (decide ((w64 (x13 - x12)) ≤ 12)) = true
    · rw [if_pos h6] at h
      obtain ⟨x17, h7, h⟩ := bind_some h
      have ch7 := f38_ok F x12 x13 x11 _ h7
      try dsimp only at h
      obtain rfl := Option.some.inj h
      exact Lp.out (gRun_ok cxOK (f24_p1_e0 x11 x12 x13 x14 x15 x16 x17) ⟨h6, ch7, trivial⟩) (by intro hh; cases hh)
    · rw [if_neg h6] at h
      have h6 := Bool.eq_false_iff.2 h6
      by_cases h8 : (x14 == 0) = true
      · rw [if_pos h8] at h
        cases h
      · rw [if_neg h8] at h
        have h8 := Bool.eq_false_iff.2 h8
        obtain ⟨rh10, h10, h⟩ := bind_some h
        have ch10 := f24_p5_1_ok F x11 x12 x13 x14 x15 x16 _ h10
        try dsimp only at h
        cases h
theorem f24_ok (F : Nat) (x1 x2 x3 : Int) (x4 : List Int) (r : (List Int)) (h : f24 F x1 x2 x3 x4 = some r) : f24_C x1 x2 x3 x4 r := by
  unfold f24 at h
  obtain ⟨x18, h11, h⟩ := bind_some h
  have ch11 := f24_p1_ok F F x1 x2 x3 true true x4 _ h11
  try dsimp only at h
  obtain rfl := Option.some.inj h
  exact callOK cxOK cxW Try.func24 (by kernel_rfl) (f24_e0 x1 x2 x3 x4 x18) ⟨ch11, trivial⟩

theorem f9_ok (F : Nat) (x1 : List Int) (r : (List Int)) (h : f9 F x1 = some r) : f9_C x1 r := by
  unfold f9 at h
  obtain ⟨x2, h1, h⟩ := bind_some h
  have ch1 := f25_ok F (IntKind.wrap .u64 ((((List.length x1) : Nat) : Int))) _ h1
  try dsimp only at h
  obtain ⟨x3, h2, h⟩ := bind_some h
  have ch2 := f24_ok F 0 (((List.length x1) : Nat) : Int) x2 x1 _ h2
  try dsimp only at h
  obtain rfl := Option.some.inj h
  exact callOK cxOK cxW Try.func9 (by kernel_rfl) (f9_e0 x1 x2 x3) ⟨ch1, ch2, trivial⟩

theorem f38_1_p5_2_ok (F : Nat) (x3 : List Int) (x1 x2 x38 : Int) : ∀ (k : Nat) (x44 : Int) (x43 : List Int) (r : (List Int)), f38_1_p5_2 F x3 x1 x2 x38 k x44 x43 = some r → f38_1_p5_2_P x3 x1 x2 x38 x44 x43 r
  | 0, _, _, _, h => by cases h
  | k + 1, x44, x43, r, h => by
    unfold f38_1_p5_2 at h
    by_cases h69 : (decide (x44 > x1)) = true
    · rw [if_pos h69] at h
      obtain ⟨h70, h⟩ := req_some h
      obtain ⟨x45, h71, h⟩ := bind_some h
      try dsimp only at h
      obtain ⟨h72, h⟩ := req_some h
      obtain ⟨x46, h73, h⟩ := bind_some h
      try dsimp only at h
      obtain ⟨x47, h74, h⟩ := bind_some h
      have ch74 := f44_ok F x45 x46 _ h74
      try dsimp only at h
      by_cases h75 : x47 = true
      · rw [if_pos h75] at h
        obtain ⟨h76, h⟩ := req_some h
        obtain ⟨h77, h⟩ := req_some h
        exact Lp.again (gRun_ok cxOK (f38_1_p5_2_e0 x1 x2 x3 x38 x43 x44 x45 x46 x47) ⟨h69, h69, h69, h70, h69, ⟨x45, h71, rfl⟩, h69, h69, h69, h69, h72, h69, ⟨x46, h73, rfl⟩, h69, ch74, h69, h75, h72, ⟨x46, h73, rfl⟩, h70, ⟨x45, h71, rfl⟩, h70, h76, h72, h77, trivial⟩) (f38_1_p5_2_ok F x3 x1 x2 x38 k (w64 (x44 - 1)) (List.set (List.set x43 (0 + (Int.toNat x44)) x46) (0 + (Int.toNat (w64 (x44 - 1)))) x45) r h)
      · rw [if_neg h75] at h
        have h75 := Bool.eq_false_iff.2 h75
        obtain rfl := Option.some.inj h
        exact Lp.out (gRun_ok cxOK (f38_1_p5_2_e1 x1 x2 x3 x38 x43 x44 x45 x46 x47) ⟨h69, h69, h69, h70, h69, ⟨x45, h71, rfl⟩, h69, h69, h69, h69, h72, h69, ⟨x46, h73, rfl⟩, h69, ch74, h69, h75, trivial⟩) (by intro hh; cases hh)
    · rw [if_neg h69] at h
      have h69 := Bool.eq_false_iff.2 h69
      obtain rfl := Option.some.inj h
      exact Lp.out (gRun_ok cxOK (f38_1_p5_2_e2 x1 x2 x3 x38 x43 x44) ⟨h69, h69, h69, h69, h69, h69, h69, h69, h69, h69, h69, rfl, trivial⟩) (by intro hh; cases hh)
theorem f38_1_p1_ok (F : Nat) (x3 : List Int) (x1 x2 : Int) : ∀ (k : Nat) (x38 : Int) (x37 : List Int) (r : (List Int)), f38_1_p1 F x3 x1 x2 k x38 x37 = some r → f38_1_p1_P x3 x1 x2 x38 x37 r
  | 0, _, _, _, h => by cases h
  | k + 1, x38, x37, r, h => by
    unfold f38_1_p1 at h
    by_cases h59 : (decide (x38 < x2)) = true
    · rw [if_pos h59] at h
      obtain ⟨x48, h78, h⟩ := bind_some h
      have ch78 := f38_1_p5_2_ok F x3 x1 x2 x38 F x38 x37 _ h78
      try dsimp only at h
      exact Lp.again (gRun_ok cxOK (f38_1_p1_e0 x1 x2 x3 x37 x38 x48) ⟨h59, ch78, trivial⟩) (f38_1_p1_ok F x3 x1 x2 k (w64 (x38 + 1)) x48 r h)
    · rw [if_neg h59] at h
      have h59 := Bool.eq_false_iff.2 h59
      obtain rfl := Option.some.inj h
      exact Lp.out (gRun_ok cxOK (f38_1_p1_e1 x1 x2 x3 x37 x38) ⟨h59, trivial⟩) (by intro hh; cases hh)
theorem f38_1_ok (F : Nat) (x1 x2 : Int) (x3 : List Int) (r : (List Int)) (h : f38_1 F x1 x2 x3 = some r) : f38_1_C x1 x2 x3 r := by
  unfold f38_1 at h
  obtain ⟨x49, h79, h⟩ := bind_some h
  have ch79 := f38_1_p1_ok F x3 x1 x2 F (w64 (x1 + 1)) x3 _ h79
  try dsimp only at h
  obtain rfl := Option.some.inj h
  exact callOK cxOK cxW Try.func38 (by kernel_rfl) (f38_1_e0 x1 x2 x3 x49) ⟨ch79, trivial⟩

theorem f24_1_p5_1_ok (F : Nat) (x11 : List Int) (x12 x13 x14 : Int) (x15 x16 : Bool) (r : Unit) (h : f24_1_p5_1 F x11 x12 x13 x14 x15 x16 = some r) : f24_1_p5_1_P x11 x12 x13 x14 x15 x16 r := by
  unfold f24_1_p5_1 at h
  by_cases h9 : x15 = true
  · rw [if_pos h9] at h
    obtain rfl := Option.some.inj h
    exact gRun_ok cxOK (f24_1_p5_1_e0 x11 x12 x13 x14 x15 x16) ⟨(by rw [h9]; rfl), trivial⟩
  · rw [if_neg h9] at h
    have h9 := Bool.eq_false_iff.2 h9
    cases h
theorem f24_1_p1_ok (F : Nat) : ∀ (k : Nat) (x12 x13 x14 : Int) (x15 x16 : Bool) (x11 : List Int) (r : (List Int)), f24_1_p1 F k x12 x13 x14 x15 x16 x11 = some r → f24_1_p1_P x12 x13 x14 x15 x16 x11 r
  | 0, _, _, _, _, _, _, _, h => by cases h
  | k + 1, x12, x13, x14, x15, x16, x11, r, h => by
    unfold f24_1_p1 at h
    dsimp only at h
    by_cases h6 : (decide ((w64 (x13 - x12)) ≤ 12)) = true
    · rw [if_pos h6] at h
      obtain ⟨x17, h7, h⟩ := bind_some h
      have ch7 := f38_1_ok F x12 x13 x11 _ h7
      try dsimp only at h
      obtain rfl := Option.some.inj h
      exact Lp.out (gRun_ok cxOK (f24_1_p1_e0 x11 x12 x13 x14 x15 x16 x17) ⟨h6, ch7, trivial⟩) (by intro hh; cases hh)
    · rw [if_neg h6] at h
      have h6 := Bool.eq_false_iff.2 h6
      by_cases h8 : (x14 == 0) = true
      · rw [if_pos h8] at h
        cases h
      · rw [if_neg h8] at h
        have h8 := Bool.eq_false_iff.2 h8
        obtain ⟨rh10, h10, h⟩ := bind_some h
        have ch10 := f24_1_p5_1_ok F x11 x12 x13 x14 x15 x16 _ h10
        try dsimp only at h
        cases h
theorem f24_1_ok (F : Nat) (x1 x2 x3 : Int) (x4 : List Int) (r : (List Int)) (h : f24_1 F x1 x2 x3 x4 = some r) : f24_1_C x1 x2 x3 x4 r := by
  unfold f24_1 at h
  obtain ⟨x18, h11, h⟩ := bind_some h
  have ch11 := f24_1_p1_ok F F x1 x2 x3 true true x4 _ h11
  try dsimp only at h
  obtain rfl := Option.some.inj h
  exact callOK cxOK cxW Try.func24 (by kernel_rfl) (f24_1_e0 x1 x2 x3 x4 x18) ⟨ch11, trivial⟩

theorem f9_1_ok (F : Nat) (x1 : List Int) (r : (List Int)) (h : f9_1 F x1 = some r) : f9_1_C x1 r := by
  unfold f9_1 at h
  obtain ⟨x2, h1, h⟩ := bind_some h
  have ch1 := f25_ok F (IntKind.wrap .u64 ((((List.length x1) : Nat) : Int))) _ h1
  try dsimp only at h
  obtain ⟨x3, h2, h⟩ := bind_some h
  have ch2 := f24_1_ok F 0 (((List.length x1) : Nat) : Int) x2 x1 _ h2
  try dsimp only at h
  obtain rfl := Option.some.inj h
  exact callOK cxOK cxW Try.func9 (by kernel_rfl) (f9_1_e0 x1 x2 x3) ⟨ch1, ch2, trivial⟩

theorem f27_ok (F : Nat) (x1 x2 : Nat) (x3 : Int) (x4 : List Int) (r : Bool × (List Int)) (h : f27 F x1 x2 x3 x4 = some r) : f27_C x1 x2 x3 x4 r := by
  unfold f27 at h
  obtain ⟨x5, h1, h⟩ := bind_some h
  try dsimp only at h
  obtain ⟨x6, h2, h⟩ := bind_some h
  try dsimp only at h
  by_cases h3 : (decide (x5 ≥ (w64 (x6 + x3)))) = true
  · rw [if_pos h3] at h
    obtain rfl := Option.some.inj h
    exact callOK cxOK cxW Try.func27 (by kernel_rfl) (f27_e0 x1 x2 x3 x4 x5 x6) ⟨⟨x5, h1, rfl⟩, ⟨x6, h2, rfl⟩, h3, trivial⟩
  · rw [if_neg h3] at h
    have h3 := Bool.eq_false_iff.2 h3
    obtain ⟨h4, h⟩ := req_some h
    obtain rfl := Option.some.inj h
    exact callOK cxOK cxW Try.func27 (by kernel_rfl) (f27_e1 x1 x2 x3 x4 x5 x6) ⟨⟨x5, h1, rfl⟩, ⟨x6, h2, rfl⟩, h3, ⟨x6, h2, rfl⟩, h4, trivial⟩

theorem f27_1_ok (F : Nat) (x1 : Nat) (x2 : Int) (x3 : List Int) (x4 : Int) (r : Bool × (List Int)) (h : f27_1 F x1 x2 x3 x4 = some r) : f27_1_C x1 x2 x3 x4 r := by
  unfold f27_1 at h
  obtain ⟨x5, h1, h⟩ := bind_some h
  try dsimp only at h
  by_cases h2 : (decide (x5 ≥ (w64 (x4 + x2)))) = true
  · rw [if_pos h2] at h
    obtain rfl := Option.some.inj h
    exact callOK cxOK cxW Try.func27 (by kernel_rfl) (f27_1_e0 x1 x2 x3 x4 x5) ⟨⟨x5, h1, rfl⟩, h2, trivial⟩
  · rw [if_neg h2] at h
    have h2 := Bool.eq_false_iff.2 h2
    obtain ⟨h3, h⟩ := req_some h
    obtain rfl := Option.some.inj h
    exact callOK cxOK cxW Try.func27 (by kernel_rfl) (f27_1_e1 x1 x2 x3 x4 x5) ⟨⟨x5, h1, rfl⟩, h2, h3, trivial⟩

theorem f26_p8_3_ok (F : Nat) (x1 x2 : Nat) (x7 : List Int) (x101 : Bool) (x102 x103 : Int) (x8 : Mm) (x4 : List (List Int)) (x5 : Int) (x100 : List Int) (r : f26_p8_3_R) (h : f26_p8_3 F x1 x2 x7 x101 x102 x103 x8 x4 x5 x100 = some r) : f26_p8_3_P x1 x2 x7 x101 x102 x103 x8 x4 x5 x100 r := by
  unfold f26_p8_3 at h
  by_cases h98 : (decide (x103 ≥ 0)) = true
  · rw [if_pos h98] at h
    obtain ⟨h99, h⟩ := req_some h
    obtain rfl := Option.some.inj h
    exact gRun_ok cxOK (f26_p8_3_e0 x1 x2 x4 x5 x7 x8 x100 x101 x102 x103) ⟨h98, h99, trivial⟩
  · rw [if_neg h98] at h
    have h98 := Bool.eq_false_iff.2 h98
    obtain rfl := Option.some.inj h
    exact gRun_ok cxOK (f26_p8_3_e1 x1 x2 x4 x5 x7 x8 x100 x101 x102 x103) ⟨h98, trivial⟩
theorem f26_p13_9_ok (F : Nat) (x1 x2 : Nat) (x7 : List Int) (x113 : Bool) (x102 x103 x114 : Int) (x118 : Bool) (x8 : Mm) (x4 : List (List Int)) (x5 : Int) (x119 : List Int) (r : Bool) (h : f26_p13_9 F x1 x2 x7 x113 x102 x103 x114 x118 x8 x4 x5 x119 = some r) : f26_p13_9_P x1 x2 x7 x113 x102 x103 x114 x118 x8 x4 x5 x119 r := by
  unfold f26_p13_9 at h
  by_cases h117 : x118 = true
  · rw [if_pos h117] at h
    obtain rfl := Option.some.inj h
    exact gRun_ok cxOK (f26_p13_9_e0 x1 x2 x4 x5 x7 x8 x102 x103 x113 x114 x118 x119) ⟨h117, trivial⟩
  · rw [if_neg h117] at h
    have h117 := Bool.eq_false_iff.2 h117
    obtain rfl := Option.some.inj h
    exact gRun_ok cxOK (f26_p13_9_e1 x1 x2 x4 x5 x7 x8 x102 x103 x113 x114 x118 x119) ⟨h117, trivial⟩
theorem f26_p10_4_ok (F : Nat) (x1 x2 : Nat) (x7 : List Int) (x102 x103 : Int) (x8 : Mm) (x4 : List (List Int)) (x5 : Int) : ∀ (k : Nat) (x113 : Bool) (x114 : Int) (x112 : List Int) (r : Bool × (List Int)), f26_p10_4 F x1 x2 x7 x102 x103 x8 x4 x5 k x113 x114 x112 = some r → f26_p10_4_P x1 x2 x7 x102 x103 x8 x4 x5 x113 x114 x112 r
  | 0, _, _, _, _, h => by cases h
  | k + 1, x113, x114, x112, r, h => by
    unfold f26_p10_4 at h
    by_cases h110 : (decide (x114 < ((x2 : Nat) : Int))) = true
    · rw [if_pos h110] at h
      by_cases h111 : (x114 != x103) = true
      · rw [if_pos h111] at h
        obtain ⟨h112, h⟩ := req_some h
        obtain ⟨x115, h113, h⟩ := bind_some h
        try dsimp only at h
        obtain ⟨x116, h114, h⟩ := bind_some h
        try dsimp only at h
        obtain ⟨x117, h115, h⟩ := bind_some h
        have ch115 := f22_ok F x102 x103 x8 x4 x5 _ h115
        try dsimp only at h
        obtain ⟨rh116, h116, h⟩ := bind_some h
        have ch116 := f27_ok F (x1 + (Int.toNat x103)) (x1 + (Int.toNat x114)) (w64 (x116 - x117)) x112 _ h116
        obtain ⟨x118, x119⟩ := rh116
        try dsimp only at h
        obtain ⟨x120, h118, h⟩ := bind_some h
        have ch118 := f26_p13_9_ok F x1 x2 x7 x113 x102 x103 x114 x118 x8 x4 x5 x119 _ h118
        try dsimp only at h
        exact Lp.again (gRun_ok cxOK (f26_p10_4_e0 x1 x2 x4 x5 x7 x8 x102 x103 x112 x113 x114 x115 x116 x117 x118 x119 x120) ⟨h110, h111, h111, h111, h111, h111, h112, h111, h111, h111, h111, h111, h111, ⟨(at?_spec h113).1, x115, (at?_spec h113).2, rfl⟩, h111, h111, h111, ⟨(at?_spec h114).1, x116, (at?_spec h114).2, rfl⟩, h111, h111, h111, h111, h111, ch115, h111, h111, ch116, h111, ch118, trivial⟩) (f26_p10_4_ok F x1 x2 x7 x102 x103 x8 x4 x5 k x120 (w64 (x114 + 1)) x119 r h)
      · rw [if_neg h111] at h
        have h111 := Bool.eq_false_iff.2 h111
        exact Lp.again (gRun_ok cxOK (f26_p10_4_e1 x1 x2 x4 x5 x7 x8 x102 x103 x112 x113 x114) ⟨h110, h111, h111, h111, h111, h111, h111, h111, h111, h111, h111, h111, h111, h111, h111, h111, h111, h111, h111, h111, h111, h111, h111, rfl, trivial⟩) (f26_p10_4_ok F x1 x2 x7 x102 x103 x8 x4 x5 k x113 (w64 (x114 + 1)) x112 r h)
    · rw [if_neg h110] at h
      have h110 := Bool.eq_false_iff.2 h110
      obtain rfl := Option.some.inj h
      exact Lp.out (gRun_ok cxOK (f26_p10_4_e2 x1 x2 x4 x5 x7 x8 x102 x103 x112 x113 x114) ⟨h110, trivial⟩) (by intro hh; cases hh)
theorem f26_p13_11_ok (F : Nat) (x1 x2 : Nat) (x7 : List Int) (x132 : Bool) (x102 x103 x133 : Int) (x137 : Bool) (x8 : Mm) (x4 : List (List Int)) (x5 : Int) (x138 : List Int) (r : Bool) (h : f26_p13_11 F x1 x2 x7 x132 x102 x103 x133 x137 x8 x4 x5 x138 = some r) : f26_p13_11_P x1 x2 x7 x132 x102 x103 x133 x137 x8 x4 x5 x138 r := by
  unfold f26_p13_11 at h
  by_cases h136 : x137 = true
  · rw [if_pos h136] at h
    obtain rfl := Option.some.inj h
    exact gRun_ok cxOK (f26_p13_11_e0 x1 x2 x4 x5 x7 x8 x102 x103 x132 x133 x137 x138) ⟨h136, trivial⟩
  · rw [if_neg h136] at h
    have h136 := Bool.eq_false_iff.2 h136
    obtain rfl := Option.some.inj h
    exact gRun_ok cxOK (f26_p13_11_e1 x1 x2 x4 x5 x7 x8 x102 x103 x132 x133 x137 x138) ⟨h136, trivial⟩
theorem f26_p10_5_ok (F : Nat) (x1 x2 : Nat) (x7 : List Int) (x102 x103 : Int) (x8 : Mm) (x4 : List (List Int)) (x5 : Int) : ∀ (k : Nat) (x132 : Bool) (x133 : Int) (x131 : List Int) (r : Bool × (List Int)), f26_p10_5 F x1 x2 x7 x102 x103 x8 x4 x5 k x132 x133 x131 = some r → f26_p10_5_P x1 x2 x7 x102 x103 x8 x4 x5 x132 x133 x131 r
  | 0, _, _, _, _, h => by cases h
  | k + 1, x132, x133, x131, r, h => by
    unfold f26_p10_5 at h
    by_cases h129 : (decide (x133 < ((x2 : Nat) : Int))) = true
    · rw [if_pos h129] at h
      by_cases h130 : (x133 != x103) = true
      · rw [if_pos h130] at h
        obtain ⟨h131, h⟩ := req_some h
        obtain ⟨x134, h132, h⟩ := bind_some h
        try dsimp only at h
        obtain ⟨x135, h133, h⟩ := bind_some h
        try dsimp only at h
        obtain ⟨x136, h134, h⟩ := bind_some h
        have ch134 := f22_ok F x102 x103 x8 x4 x5 _ h134
        try dsimp only at h
        obtain ⟨rh135, h135, h⟩ := bind_some h
        have ch135 := f27_1_ok F (x1 + (Int.toNat x133)) (w64 (x135 - x136)) x131 0 _ h135
        obtain ⟨x137, x138⟩ := rh135
        try dsimp only at h
        obtain ⟨x139, h137, h⟩ := bind_some h
        have ch137 := f26_p13_11_ok F x1 x2 x7 x132 x102 x103 x133 x137 x8 x4 x5 x138 _ h137
        try dsimp only at h
        exact Lp.again (gRun_ok cxOK (f26_p10_5_e0 x1 x2 x4 x5 x7 x8 x102 x103 x131 x132 x133 x134 x135 x136 x137 x138 x139) ⟨h129, h130, h130, h130, h130, h130, h131, h130, h130, h130, h130, h130, h130, ⟨(at?_spec h132).1, x134, (at?_spec h132).2, rfl⟩, h130, h130, h130, ⟨(at?_spec h133).1, x135, (at?_spec h133).2, rfl⟩, h130, h130, h130, h130, h130, ch134, h130, h130, ch135, h130, ch137, trivial⟩) (f26_p10_5_ok F x1 x2 x7 x102 x103 x8 x4 x5 k x139 (w64 (x133 + 1)) x138 r h)
      · rw [if_neg h130] at h
        have h130 := Bool.eq_false_iff.2 h130
        exact Lp.again (gRun_ok cxOK (f26_p10_5_e1 x1 x2 x4 x5 x7 x8 x102 x103 x131 x132 x133) ⟨h129, h130, h130, h130, h130, h130, h130, h130, h130, h130, h130, h130, h130, h130, h130, h130, h130, h130, h130, h130, h130, h130, h130, rfl, trivial⟩) (f26_p10_5_ok F x1 x2 x7 x102 x103 x8 x4 x5 k x132 (w64 (x133 + 1)) x131 r h)
    · rw [if_neg h129] at h
      have h129 := Bool.eq_false_iff.2 h129
      obtain rfl := Option.some.inj h
      exact Lp.out (gRun_ok cxOK (f26_p10_5_e2 x1 x2 x4 x5 x7 x8 x102 x103 x131 x132 x133) ⟨h129, trivial⟩) (by intro hh; cases hh)
theorem f26_p5_1_ok (F : Nat) (x1 x2 : Nat) (x7 : List Int) (x8 : Mm) (x4 : List (List Int)) (x5 : Int) : ∀ (k : Nat) (x101 : Bool) (x102 : Int) (x100 : List Int) (r : Bool × (List Int)), f26_p5_1 F x1 x2 x7 x8 x4 x5 k x101 x102 x100 = some r → f26_p5_1_P x1 x2 x7 x8 x4 x5 x101 x102 x100 r
  | 0, _, _, _, _, h => by cases h
  | k + 1, x101, x102, x100, r, h => by
    unfold f26_p5_1 at h
    by_cases h96 : (decide (x102 < ((List.length x7 : Nat) : Int))) = true
    · rw [if_pos h96] at h
      obtain ⟨x103, h97, h⟩ := bind_some h
      try dsimp only at h
      obtain ⟨rh100, h100, h⟩ := bind_some h
      have ch100 := f26_p8_3_ok F x1 x2 x7 x101 x102 x103 x8 x4 x5 x100 _ h100
      cases rh100 with
      | c0 =>
        try dsimp only at h
        obtain ⟨rh119, h119, h⟩ := bind_some h
        have ch119 := f26_p10_4_ok F x1 x2 x7 x102 x103 x8 x4 x5 F x101 0 x100 _ h119
        obtain ⟨x121, x122⟩ := rh119
        try dsimp only at h
        exact Lp.again (gRun_ok cxOK (f26_p5_1_e0 x1 x2 x4 x5 x7 x8 x100 x101 x102 x103 x121 x122) ⟨h96, ⟨(at?_spec h97).1, x103, (at?_spec h97).2, rfl⟩, ch100, ch119, trivial⟩) (f26_p5_1_ok F x1 x2 x7 x8 x4 x5 k x121 (w64 (x102 + 1)) x122 r h)
      | c1 =>
        try dsimp only at h
        obtain ⟨rh138, h138, h⟩ := bind_some h
        have ch138 := f26_p10_5_ok F x1 x2 x7 x102 x103 x8 x4 x5 F x101 0 x100 _ h138
        obtain ⟨x140, x141⟩ := rh138
        try dsimp only at h
        exact Lp.again (gRun_ok cxOK (f26_p5_1_e1 x1 x2 x4 x5 x7 x8 x100 x101 x102 x103 x140 x141) ⟨h96, ⟨(at?_spec h97).1, x103, (at?_spec h97).2, rfl⟩, ch100, ch138, trivial⟩) (f26_p5_1_ok F x1 x2 x7 x8 x4 x5 k x140 (w64 (x102 + 1)) x141 r h)
    · rw [if_neg h96] at h
      have h96 := Bool.eq_false_iff.2 h96
      obtain rfl := Option.some.inj h
      exact Lp.out (gRun_ok cxOK (f26_p5_1_e2 x1 x2 x4 x5 x7 x8 x100 x101 x102) ⟨h96, trivial⟩) (by intro hh; cases hh)
theorem f26_p1_18_ok (F : Nat) (x1 x2 : Nat) (x7 : List Int) (x8 : Mm) (x4 : List (List Int)) (x5 : Int) : ∀ (k : Nat) (x77 : Bool) (x76 : List Int) (r : (List Int)), f26_p1_18 F x1 x2 x7 x8 x4 x5 k x77 x76 = some r → f26_p1_18_P x1 x2 x7 x8 x4 x5 x77 x76 r
  | 0, _, _, _, h => by cases h
  | k + 1, x77, x76, r, h => by
    unfold f26_p1_18 at h
    by_cases h71 : x77 = true
    · rw [if_pos h71] at h
      obtain ⟨rh139, h139, h⟩ := bind_some h
      have ch139 := f26_p5_1_ok F x1 x2 x7 x8 x4 x5 F false 0 x76 _ h139
      obtain ⟨x142, x143⟩ := rh139
      try dsimp only at h
      exact Lp.again (gRun_ok cxOK (f26_p1_18_e0 x1 x2 x4 x5 x7 x8 x76 x77 x142 x143) ⟨h71, ch139, trivial⟩) (f26_p1_18_ok F x1 x2 x7 x8 x4 x5 k x142 x143 r h)
    · rw [if_neg h71] at h
      have h71 := Bool.eq_false_iff.2 h71
      obtain rfl := Option.some.inj h
      exact Lp.out (gRun_ok cxOK (f26_p1_18_e1 x1 x2 x4 x5 x7 x8 x76 x77) ⟨h71, trivial⟩) (by intro hh; cases hh)
theorem f26_ok (F : Nat) (x1 x2 : Nat) (x3 : Mm) (x4 : List (List Int)) (x5 : Int) (x6 : List Int) (r : Nat × Nat × Mm × (List Int)) (h : f26 F x1 x2 x3 x4 x5 x6 = some r) : f26_C x1 x2 x3 x4 x5 x6 r := by
  unfold f26 at h
  obtain ⟨rh1, h1, h⟩ := bind_some h
  have ch1 := f18_1_ok F x3 x4 x5 _ h1
  obtain ⟨x7, x8⟩ := rh1
  try dsimp only at h
  obtain ⟨x144, h140, h⟩ := bind_some h
  have ch140 := f26_p1_18_ok F x1 x2 x7 x8 x4 x5 F true x6 _ h140
  try dsimp only at h
  obtain rfl := Option.some.inj h
  exact callOK cxOK cxW Try.func26 (by kernel_rfl) (f26_e0 x1 x2 x3 x4 x5 x6 x7 x8 x144) ⟨ch1, ch140, trivial⟩

theorem f10_ok (F : Nat) (x1 : List (List Int)) (r : (List Int) × Int) (h : f10 F x1 = some r) : f10_C x1 r := by
  unfold f10 at h
  obtain ⟨rh1, h1, h⟩ := bind_some h
  have ch1 := f17_ok F x1 _ h1
  cases rh1 with
  | c0 x2 =>
    try dsimp only at h
    by_cases h2 : (x2 != 0) = true
    · rw [if_pos h2] at h
      obtain rfl := Option.some.inj h
      exact callOK cxOK cxW Try.func10 (by kernel_rfl) (f10_e0 x1 x2) ⟨ch1, h2, trivial⟩
    · rw [if_neg h2] at h
      have h2 := Bool.eq_false_iff.2 h2
      cases h
  | c1 x3 x4 x5 x6 =>
    try dsimp only at h
    by_cases h3 : (x3 != 0) = true
    · rw [if_pos h3] at h
      obtain rfl := Option.some.inj h
      exact callOK cxOK cxW Try.func10 (by kernel_rfl) (f10_e1 x1 x3 x4 x5 x6) ⟨ch1, h3, trivial⟩
    · rw [if_neg h3] at h
      have h3 := Bool.eq_false_iff.2 h3
      obtain ⟨h4, h⟩ := req_some h
      obtain ⟨rh5, h5, h⟩ := bind_some h
      have ch5 := f26_ok F 0 (Int.toNat x6) x4 x5 x6 (List.replicate (Int.toNat x6) (0 : Int)) _ h5
      obtain ⟨x7, x8, x9, x10⟩ := rh5
      try dsimp only at h
      obtain ⟨h6, h⟩ := req_some h
      obtain rfl := Option.some.inj h
      exact callOK cxOK cxW Try.func10 (by kernel_rfl) (f10_e2 x1 x3 x4 x5 x6 x7 x8 x9 x10) ⟨ch1, h3, h4, ch5, h6, trivial⟩

theorem f28_p0_ok (F : Nat) (x2 : List Int) (x3 : Int) (r : Unit) (h : f28_p0 F x2 x3 = some r) : f28_p0_P x2 x3 r := by
  unfold f28_p0 at h
  by_cases h2 : (x3 == 0) = true
  · rw [if_pos h2] at h
    cases h
  · rw [if_neg h2] at h
    have h2 := Bool.eq_false_iff.2 h2
    obtain rfl := Option.some.inj h
    exact gRun_ok cxOK (f28_p0_e0 x2 x3) ⟨h2, trivial⟩
theorem f28_p0_1_ok (F : Nat) (x2 : List Int) (x4 : Int) (x5 : Mm) (x6 : List (List Int)) (x7 : Int) (r : Int) (h : f28_p0_1 F x2 x4 x5 x6 x7 = some r) : f28_p0_1_P x2 x4 x5 x6 x7 r := by
  unfold f28_p0_1 at h
  by_cases h4 : (x4 == 0) = true
  · rw [if_pos h4] at h
    obtain ⟨x8, h5, h⟩ := bind_some h
    have ch5 := f49_ok F x2 x7 _ h5
    try dsimp only at h
    obtain rfl := Option.some.inj h
    exact gRun_ok cxOK (f28_p0_1_e0 x2 x4 x5 x6 x7 x8) ⟨h4, ch5, trivial⟩
  · rw [if_neg h4] at h
    have h4 := Bool.eq_false_iff.2 h4
    obtain rfl := Option.some.inj h
    exact gRun_ok cxOK (f28_p0_1_e1 x2 x4 x5 x6 x7) ⟨h4, trivial⟩
theorem f28_ok (F : Nat) (x1 : List (List Int)) (x2 : List Int) (r : f28_R) (h : f28 F x1 x2 = some r) : f28_C x1 x2 r := by
  unfold f28 at h
  obtain ⟨rh1, h1, h⟩ := bind_some h
  have ch1 := f17_ok F x1 _ h1
  cases rh1 with
  | c0 x3 =>
    try dsimp only at h
    obtain ⟨rh3, h3, h⟩ := bind_some h
    have ch3 := f28_p0_ok F x2 x3 _ h3
    try dsimp only at h
    obtain rfl := Option.some.inj h
    exact callOK cxOK cxW Try.func28 (by kernel_rfl) (f28_e0 x1 x2 x3) ⟨ch1, ch3, trivial⟩
  | c1 x4 x5 x6 x7 =>
    try dsimp only at h
    obtain ⟨x9, h6, h⟩ := bind_some h
    have ch6 := f28_p0_1_ok F x2 x4 x5 x6 x7 _ h6
    try dsimp only at h
    obtain rfl := Option.some.inj h
    exact callOK cxOK cxW Try.func28 (by kernel_rfl) (f28_e1 x1 x2 x4 x5 x6 x7 x9) ⟨ch1, ch6, trivial⟩

theorem f29_p1_ok (F : Nat) (x2 : Int) (x1 : List Int) : ∀ (k : Nat) (x3 x4 x5 : Int) (r : Int × Int), f29_p1 F x2 x1 k x3 x4 x5 = some r → f29_p1_P x2 x1 x3 x4 x5 r
  | 0, _, _, _, _, h => by cases h
  | k + 1, x3, x4, x5, r, h => by
    unfold f29_p1 at h
    dsimp only at h
    by_cases h1 : (decide (x5 < ((List.length x1 : Nat) : Int))) = true
    · rw [if_pos h1] at h
      obtain ⟨x6, h2, h⟩ := bind_some h
      try dsimp only at h
      cases h
    · rw [if_neg h1] at h
      have h1 := Bool.eq_false_iff.2 h1
      obtain rfl := Option.some.inj h
      exact Lp.out (gRun_ok cxOK (f29_p1_e0 x1 x2 x3 x4 x5) ⟨h1, trivial⟩) (by intro hh; cases hh)
theorem f29_ok (F : Nat) (x1 : List Int) (x2 : Int) (r : Int × Bool) (h : f29 F x1 x2 = some r) : f29_C x1 x2 r := by
  unfold f29 at h
  obtain ⟨rh3, h3, h⟩ := bind_some h
  have ch3 := f29_p1_ok F x2 x1 F 0 0 0 _ h3
  obtain ⟨x7, x8⟩ := rh3
  try dsimp only at h
  obtain rfl := Option.some.inj h
  exact callOK cxOK cxW Try.func29 (by kernel_rfl) (f29_e0 x1 x2 x7 x8) ⟨ch3, trivial⟩

theorem f29_1_p6_ok (F : Nat) (x2 x6 : Int) (x7 x8 : Int) (x1 : List Int) (x11 x9 : Int) (x3 : Mm) (x4 : List (List Int)) (x5 : Int) (r : Int) (h : f29_1_p6 F x2 x6 x7 x8 x1 x11 x9 x3 x4 x5 = some r) : f29_1_p6_P x2 x6 x7 x8 x1 x11 x9 x3 x4 x5 r := by
  unfold f29_1_p6 at h
  by_cases h7 : ((w64 (x11 - x9)) == x6) = true
  · rw [if_pos h7] at h
    obtain ⟨h8, h⟩ := req_some h
    obtain rfl := Option.some.inj h
    exact gRun_ok cxOK (f29_1_p6_e0 x1 x2 x3 x4 x5 x6 x7 x8 x9 x11) ⟨h7, h8, trivial⟩
  · rw [if_neg h7] at h
    have h7 := Bool.eq_false_iff.2 h7
    obtain rfl := Option.some.inj h
    exact gRun_ok cxOK (f29_1_p6_e1 x1 x2 x3 x4 x5 x6 x7 x8 x9 x11) ⟨h7, trivial⟩
theorem f29_1_p5_ok (F : Nat) (x2 x6 : Int) (x7 x8 : Int) (x11 x9 : Int) (x1 : List Int) (x3 : Mm) (x4 : List (List Int)) (x5 : Int) (r : Int × Int) (h : f29_1_p5 F x2 x6 x7 x8 x11 x9 x1 x3 x4 x5 = some r) : f29_1_p5_P x2 x6 x7 x8 x11 x9 x1 x3 x4 x5 r := by
  unfold f29_1_p5 at h
  by_cases h5 : (decide ((w64 (x11 - x9)) > x6)) = true
  · rw [if_pos h5] at h
    obtain ⟨h6, h⟩ := req_some h
    obtain rfl := Option.some.inj h
    exact gRun_ok cxOK (f29_1_p5_e0 x1 x2 x3 x4 x5 x6 x7 x8 x9 x11) ⟨h5, h6, trivial⟩
  · rw [if_neg h5] at h
    have h5 := Bool.eq_false_iff.2 h5
    obtain ⟨x12, h9, h⟩ := bind_some h
    have ch9 := f29_1_p6_ok F x2 x6 x7 x8 x1 x11 x9 x3 x4 x5 _ h9
    try dsimp only at h
    obtain rfl := Option.some.inj h
    exact gRun_ok cxOK (f29_1_p5_e1 x1 x2 x3 x4 x5 x6 x7 x8 x9 x11 x12) ⟨h5, ch9, trivial⟩
theorem f29_1_p1_ok (F : Nat) (x2 : Int) (x1 : List Int) (x3 : Mm) (x4 : List (List Int)) (x5 : Int) : ∀ (k : Nat) (x6 x7 x8 : Int) (r : Int × Int), f29_1_p1 F x2 x1 x3 x4 x5 k x6 x7 x8 = some r → f29_1_p1_P x2 x1 x3 x4 x5 x6 x7 x8 r
  | 0, _, _, _, _, h => by cases h
  | k + 1, x6, x7, x8, r, h => by
    unfold f29_1_p1 at h
    by_cases h1 : (decide (x8 < ((List.length x1 : Nat) : Int))) = true
    · rw [if_pos h1] at h
      obtain ⟨x9, h2, h⟩ := bind_some h
      try dsimp only at h
      obtain ⟨x10, h3, h⟩ := bind_some h
      try dsimp only at h
      obtain ⟨x11, h4, h⟩ := bind_some h
      try dsimp only at h
      obtain ⟨rh10, h10, h⟩ := bind_some h
      have ch10 := f29_1_p5_ok F x2 x6 x7 x8 x11 x9 x1 x3 x4 x5 _ h10
      obtain ⟨x13, x14⟩ := rh10
      try dsimp only at h
      exact Lp.again (gRun_ok cxOK (f29_1_p1_e0 x1 x2 x3 x4 x5 x6 x7 x8 x9 x10 x11 x13 x14) ⟨h1, ⟨(at?_spec h2).1, x9, (at?_spec h2).2, rfl⟩, ⟨(at?_spec h3).1, x10, (at?_spec h3).2, rfl⟩, ⟨(at?_spec h4).1, x11, (at?_spec h4).2, rfl⟩, ch10, trivial⟩) (f29_1_p1_ok F x2 x1 x3 x4 x5 k x13 x14 (w64 (x8 + 1)) r h)
    · rw [if_neg h1] at h
      have h1 := Bool.eq_false_iff.2 h1
      obtain rfl := Option.some.inj h
      exact Lp.out (gRun_ok cxOK (f29_1_p1_e1 x1 x2 x3 x4 x5 x6 x7 x8) ⟨h1, trivial⟩) (by intro hh; cases hh)
theorem f29_1_ok (F : Nat) (x1 : List Int) (x2 : Int) (x3 : Mm) (x4 : List (List Int)) (x5 : Int) (r : Int × Bool) (h : f29_1 F x1 x2 x3 x4 x5 = some r) : f29_1_C x1 x2 x3 x4 x5 r := by
  unfold f29_1 at h
  obtain ⟨rh11, h11, h⟩ := bind_some h
  have ch11 := f29_1_p1_ok F x2 x1 x3 x4 x5 F 0 0 0 _ h11
  obtain ⟨x15, x16⟩ := rh11
  try dsimp only at h
  obtain rfl := Option.some.inj h
  exact callOK cxOK cxW Try.func29 (by kernel_rfl) (f29_1_e0 x1 x2 x3 x4 x5 x15 x16) ⟨ch11, trivial⟩

theorem f11_p0_ok (F : Nat) (x1 : List (List Int)) (x2 x3 : List Int) (x4 : Int) (r : Int) (h : f11_p0 F x1 x2 x3 x4 = some r) : f11_p0_P x1 x2 x3 x4 r := by
  unfold f11_p0 at h
  by_cases h2 : (x4 == 0) = true
  · rw [if_pos h2] at h
    obtain ⟨rh3, h3, h⟩ := bind_some h
    have ch3 := f7_ok F x1 x3 _ h3
    obtain ⟨x5, x6⟩ := rh3
    try dsimp only at h
    obtain rfl := Option.some.inj h
    exact gRun_ok cxOK (f11_p0_e0 x1 x2 x3 x4 x5 x6) ⟨h2, ch3, trivial⟩
  · rw [if_neg h2] at h
    have h2 := Bool.eq_false_iff.2 h2
    obtain rfl := Option.some.inj h
    exact gRun_ok cxOK (f11_p0_e1 x1 x2 x3 x4) ⟨h2, trivial⟩
theorem f11_p3_ok (F : Nat) (x2 x3 : List Int) : ∀ (k : Nat) (x8 : Int) (r : f11_p3_R), f11_p3 F x2 x3 k x8 = some r → f11_p3_P x2 x3 x8 r
  | 0, _, _, h => by cases h
  | k + 1, x8, r, h => by
    unfold f11_p3 at h
    by_cases h6 : (decide (x8 < ((List.length x3 : Nat) : Int))) = true
    · rw [if_pos h6] at h
      obtain ⟨x9, h7, h⟩ := bind_some h
      try dsimp only at h
      obtain ⟨rh8, h8, h⟩ := bind_some h
      have ch8 := f29_ok F x2 x8 _ h8
      obtain ⟨x10, x11⟩ := rh8
      try dsimp only at h
      by_cases h9 : (decide (x9 < 0)) = true
      · rw [if_pos h9] at h
        by_cases h10 : x11 = true
        · rw [if_pos h10] at h
          by_cases h11 : (decide (x9 ≥ 0)) = true
          · rw [if_pos h11] at h
            obtain ⟨h12, h⟩ := req_some h
            by_cases h13 : ((iAnd .u8 (iShr .u8 x10 x9) 1) == 0) = true
            · rw [if_pos h13] at h
              obtain rfl := Option.some.inj h
              exact Lp.out (gRun_ok cxOK (f11_p3_e0 x2 x3 x8 x9 x10 x11) ⟨h6, ⟨(at?_spec h7).1, x9, (at?_spec h7).2, rfl⟩, ch8, h9, h9, h9, (by rw [h10]; rfl), (by rw [h10]; rfl), (by rw [h10]; rfl), h11, h11, h11, h12, h11, h11, (by rw [h10]; rfl), h11, (by rw [h10]; rfl), h13, trivial⟩) (by intro hh; cases hh)
            · rw [if_neg h13] at h
              have h13 := Bool.eq_false_iff.2 h13
              exact Lp.again (gRun_ok cxOK (f11_p3_e1 x2 x3 x8 x9 x10 x11) ⟨h6, ⟨(at?_spec h7).1, x9, (at?_spec h7).2, rfl⟩, ch8, h9, h9, h9, (by rw [h10]; rfl), (by rw [h10]; rfl), (by rw [h10]; rfl), h11, h11, h11, h12, h11, h11, (by rw [h10]; rfl), h11, (by rw [h10]; rfl), h13, trivial⟩) (f11_p3_ok F x2 x3 k (w64 (x8 + 1)) r h)
          · rw [if_neg h11] at h
            have h11 := Bool.eq_false_iff.2 h11
            exact Lp.again (gRun_ok cxOK (f11_p3_e2 x2 x3 x8 x9 x10 x11) ⟨h6, ⟨(at?_spec h7).1, x9, (at?_spec h7).2, rfl⟩, ch8, h9, h9, h9, (by rw [h10]; rfl), (by rw [h10]; rfl), (by rw [h10]; rfl), h11, h11, h11, h11, h11, (by rw [h10]; rfl), h11, (by rw [h10]; rfl), rfl, trivial⟩) (f11_p3_ok F x2 x3 k (w64 (x8 + 1)) r h)
        · rw [if_neg h10] at h
          have h10 := Bool.eq_false_iff.2 h10
          obtain rfl := Option.some.inj h
          exact Lp.out (gRun_ok cxOK (f11_p3_e3 x2 x3 x8 x9 x10 x11) ⟨h6, ⟨(at?_spec h7).1, x9, (at?_spec h7).2, rfl⟩, ch8, h9, h9, h9, (by rw [h10]; rfl), (by rw [h10]; rfl), (by rw [h10]; rfl), (by rw [h10]; rfl), (by rw [h10]; rfl), rfl, trivial⟩) (by intro hh; cases hh)
      · rw [if_neg h9] at h
        have h9 := Bool.eq_false_iff.2 h9
        by_cases h14 : (decide (x9 ≥ 0)) = true
        · rw [if_pos h14] at h
          obtain ⟨h15, h⟩ := req_some h
          by_cases h16 : ((iAnd .u8 (iShr .u8 x10 x9) 1) == 0) = true
          · rw [if_pos h16] at h
            obtain rfl := Option.some.inj h
            exact Lp.out (gRun_ok cxOK (f11_p3_e4 x2 x3 x8 x9 x10 x11) ⟨h6, ⟨(at?_spec h7).1, x9, (at?_spec h7).2, rfl⟩, ch8, h9, h9, h9, rfl, rfl, rfl, h14, h14, h14, h15, h14, h14, rfl, h14, rfl, h16, trivial⟩) (by intro hh; cases hh)
          · rw [if_neg h16] at h
            have h16 := Bool.eq_false_iff.2 h16
            exact Lp.again (gRun_ok cxOK (f11_p3_e5 x2 x3 x8 x9 x10 x11) ⟨h6, ⟨(at?_spec h7).1, x9, (at?_spec h7).2, rfl⟩, ch8, h9, h9, h9, rfl, rfl, rfl, h14, h14, h14, h15, h14, h14, rfl, h14, rfl, h16, trivial⟩) (f11_p3_ok F x2 x3 k (w64 (x8 + 1)) r h)
        · rw [if_neg h14] at h
          have h14 := Bool.eq_false_iff.2 h14
          exact Lp.again (gRun_ok cxOK (f11_p3_e6 x2 x3 x8 x9 x10 x11) ⟨h6, ⟨(at?_spec h7).1, x9, (at?_spec h7).2, rfl⟩, ch8, h9, h9, h9, rfl, rfl, rfl, h14, h14, h14, h14, h14, rfl, h14, rfl, rfl, trivial⟩) (f11_p3_ok F x2 x3 k (w64 (x8 + 1)) r h)
    · rw [if_neg h6] at h
      have h6 := Bool.eq_false_iff.2 h6
      obtain rfl := Option.some.inj h
      exact Lp.out (gRun_ok cxOK (f11_p3_e7 x2 x3 x8) ⟨h6, trivial⟩) (by intro hh; cases hh)
theorem f11_p8_ok (F : Nat) (x3 x2 : List Int) : ∀ (k : Nat) (x12 : Int) (r : f11_p8_R), f11_p8 F x3 x2 k x12 = some r → f11_p8_P x3 x2 x12 r
  | 0, _, _, h => by cases h
  | k + 1, x12, r, h => by
    unfold f11_p8 at h
    by_cases h18 : (decide (x12 < ((List.length x2 : Nat) : Int))) = true
    · rw [if_pos h18] at h
      obtain ⟨x13, h19, h⟩ := bind_some h
      try dsimp only at h
      by_cases h20 : (decide (x13 > 0)) = true
      · rw [if_pos h20] at h
        obtain ⟨x14, h21, h⟩ := bind_some h
        have ch21 := f8_ok F x3 x12 _ h21
        try dsimp only at h
        by_cases h22 : x14 = true
        · rw [if_pos h22] at h
          exact Lp.again (gRun_ok cxOK (f11_p8_e0 x2 x3 x12 x13 x14) ⟨h18, ⟨(at?_spec h19).1, x13, (at?_spec h19).2, rfl⟩, h20, h20, h20, ch21, h20, h20, (by rw [h22]; rfl), trivial⟩) (f11_p8_ok F x3 x2 k (w64 (x12 + 1)) r h)
        · rw [if_neg h22] at h
          have h22 := Bool.eq_false_iff.2 h22
          obtain rfl := Option.some.inj h
          exact Lp.out (gRun_ok cxOK (f11_p8_e1 x2 x3 x12 x13 x14) ⟨h18, ⟨(at?_spec h19).1, x13, (at?_spec h19).2, rfl⟩, h20, h20, h20, ch21, h20, h20, (by rw [h22]; rfl), trivial⟩) (by intro hh; cases hh)
      · rw [if_neg h20] at h
        have h20 := Bool.eq_false_iff.2 h20
        exact Lp.again (gRun_ok cxOK (f11_p8_e2 x2 x3 x12 x13) ⟨h18, ⟨(at?_spec h19).1, x13, (at?_spec h19).2, rfl⟩, h20, h20, h20, h20, h20, rfl, trivial⟩) (f11_p8_ok F x3 x2 k (w64 (x12 + 1)) r h)
    · rw [if_neg h18] at h
      have h18 := Bool.eq_false_iff.2 h18
      obtain rfl := Option.some.inj h
      exact Lp.out (gRun_ok cxOK (f11_p8_e3 x2 x3 x12) ⟨h18, trivial⟩) (by intro hh; cases hh)
theorem f11_p0_1_ok (F : Nat) (x1 : List (List Int)) (x2 x3 : List Int) (x15 : Int) (x16 : Mm) (x17 : List (List Int)) (x18 : Int) (r : Int) (h : f11_p0_1 F x1 x2 x3 x15 x16 x17 x18 = some r) : f11_p0_1_P x1 x2 x3 x15 x16 x17 x18 r := by
  unfold f11_p0_1 at h
  by_cases h24 : (x15 == 0) = true
  · rw [if_pos h24] at h
    obtain ⟨rh25, h25, h⟩ := bind_some h
    have ch25 := f7_ok F x1 x3 _ h25
    obtain ⟨x19, x20⟩ := rh25
    try dsimp only at h
    obtain rfl := Option.some.inj h
    exact gRun_ok cxOK (f11_p0_1_e0 x1 x2 x3 x15 x16 x17 x18 x19 x20) ⟨h24, ch25, trivial⟩
  · rw [if_neg h24] at h
    have h24 := Bool.eq_false_iff.2 h24
    obtain rfl := Option.some.inj h
    exact gRun_ok cxOK (f11_p0_1_e1 x1 x2 x3 x15 x16 x17 x18) ⟨h24, trivial⟩
theorem f11_p3_1_ok (F : Nat) (x2 x3 : List Int) (x16 : Mm) (x17 : List (List Int)) (x18 : Int) : ∀ (k : Nat) (x22 : Int) (r : f11_p3_1_R), f11_p3_1 F x2 x3 x16 x17 x18 k x22 = some r → f11_p3_1_P x2 x3 x16 x17 x18 x22 r
  | 0, _, _, h => by cases h
  | k + 1, x22, r, h => by
    unfold f11_p3_1 at h
    by_cases h28 : (decide (x22 < ((List.length x3 : Nat) : Int))) = true
    · rw [if_pos h28] at h
      obtain ⟨x23, h29, h⟩ := bind_some h
      try dsimp only at h
      obtain ⟨rh30, h30, h⟩ := bind_some h
      have ch30 := f29_1_ok F x2 x22 x16 x17 x18 _ h30
      obtain ⟨x24, x25⟩ := rh30
      try dsimp only at h
      by_cases h31 : (decide (x23 < 0)) = true
      · rw [if_pos h31] at h
        by_cases h32 : x25 = true
        · rw [if_pos h32] at h
          by_cases h33 : (decide (x23 ≥ 0)) = true
          · rw [if_pos h33] at h
            obtain ⟨h34, h⟩ := req_some h
            by_cases h35 : ((iAnd .u8 (iShr .u8 x24 x23) 1) == 0) = true
            · rw [if_pos h35] at h
              obtain rfl := Option.some.inj h
              exact Lp.out (gRun_ok cxOK (f11_p3_1_e0 x2 x3 x16 x17 x18 x22 x23 x24 x25) ⟨h28, ⟨(at?_spec h29).1, x23, (at?_spec h29).2, rfl⟩, ch30, h31, h31, h31, (by rw [h32]; rfl), (by rw [h32]; rfl), (by rw [h32]; rfl), h33, h33, h33, h34, h33, h33, (by rw [h32]; rfl), h33, (by rw [h32]; rfl), h35, trivial⟩) (by intro hh; cases hh)
            · rw [if_neg h35] at h
              have h35 := Bool.eq_false_iff.2 h35
              exact Lp.again (gRun_ok cxOK (f11_p3_1_e1 x2 x3 x16 x17 x18 x22 x23 x24 x25) ⟨h28, ⟨(at?_spec h29).1, x23, (at?_spec h29).2, rfl⟩, ch30, h31, h31, h31, (by rw [h32]; rfl), (by rw [h32]; rfl), (by rw [h32]; rfl), h33, h33, h33, h34, h33, h33, (by rw [h32]; rfl), h33, (by rw [h32]; rfl), h35, trivial⟩) (f11_p3_1_ok F x2 x3 x16 x17 x18 k (w64 (x22 + 1)) r h)
          · rw [if_neg h33] at h
            have h33 := Bool.eq_false_iff.2 h33
            exact Lp.again (gRun_ok cxOK (f11_p3_1_e2 x2 x3 x16 x17 x18 x22 x23 x24 x25) ⟨h28, ⟨(at?_spec h29).1, x23, (at?_spec h29).2, rfl⟩, ch30, h31, h31, h31, (by rw [h32]; rfl), (by rw [h32]; rfl), (by rw [h32]; rfl), h33, h33, h33, h33, h33, (by rw [h32]; rfl), h33, (by rw [h32]; rfl), rfl, trivial⟩) (f11_p3_1_ok F x2 x3 x16 x17 x18 k (w64 (x22 + 1)) r h)
        · rw [if_neg h32] at h
          have h32 := Bool.eq_false_iff.2 h32
          obtain rfl := Option.some.inj h
          exact Lp.out (gRun_ok cxOK (f11_p3_1_e3 x2 x3 x16 x17 x18 x22 x23 x24 x25) ⟨h28, ⟨(at?_spec h29).1, x23, (at?_spec h29).2, rfl⟩, ch30, h31, h31, h31, (by rw [h32]; rfl), (by rw [h32]; rfl), (by rw [h32]; rfl), (by rw [h32]; rfl), (by rw [h32]; rfl), rfl, trivial⟩) (by intro hh; cases hh)
      · rw [if_neg h31] at h
        have h31 := Bool.eq_false_iff.2 h31
        by_cases h36 : (decide (x23 ≥ 0)) = true
        · rw [if_pos h36] at h
          obtain ⟨h37, h⟩ := req_some h
          by_cases h38 : ((iAnd .u8 (iShr .u8 x24 x23) 1) == 0) = true
          · rw [if_pos h38] at h
            obtain rfl := Option.some.inj h
            exact Lp.out (gRun_ok cxOK (f11_p3_1_e4 x2 x3 x16 x17 x18 x22 x23 x24 x25) ⟨h28, ⟨(at?_spec h29).1, x23, (at?_spec h29).2, rfl⟩, ch30, h31, h31, h31, rfl, rfl, rfl, h36, h36, h36, h37, h36, h36, rfl, h36, rfl, h38, trivial⟩) (by intro hh; cases hh)
          · rw [if_neg h38] at h
            have h38 := Bool.eq_false_iff.2 h38
            exact Lp.again (gRun_ok cxOK (f11_p3_1_e5 x2 x3 x16 x17 x18 x22 x23 x24 x25) ⟨h28, ⟨(at?_spec h29).1, x23, (at?_spec h29).2, rfl⟩, ch30, h31, h31, h31, rfl, rfl, rfl, h36, h36, h36, h37, h36, h36, rfl, h36, rfl, h38, trivial⟩) (f11_p3_1_ok F x2 x3 x16 x17 x18 k (w64 (x22 + 1)) r h)
        · rw [if_neg h36] at h
          have h36 := Bool.eq_false_iff.2 h36
          exact Lp.again (gRun_ok cxOK (f11_p3_1_e6 x2 x3 x16 x17 x18 x22 x23 x24 x25) ⟨h28, ⟨(at?_spec h29).1, x23, (at?_spec h29).2, rfl⟩, ch30, h31, h31, h31, rfl, rfl, rfl, h36, h36, h36, h36, h36, rfl, h36, rfl, rfl, trivial⟩) (f11_p3_1_ok F x2 x3 x16 x17 x18 k (w64 (x22 + 1)) r h)
    · rw [if_neg h28] at h
      have h28 := Bool.eq_false_iff.2 h28
      obtain rfl := Option.some.inj h
      exact Lp.out (gRun_ok cxOK (f11_p3_1_e7 x2 x3 x16 x17 x18 x22) ⟨h28, trivial⟩) (by intro hh; cases hh)
theorem f11_p8_1_ok (F : Nat) (x3 x2 : List Int) : ∀ (k : Nat) (x26 : Int) (r : f11_p8_1_R), f11_p8_1 F x3 x2 k x26 = some r → f11_p8_1_P x3 x2 x26 r
  | 0, _, _, h => by cases h
  | k + 1, x26, r, h => by
    unfold f11_p8_1 at h
    by_cases h40 : (decide (x26 < ((List.length x2 : Nat) : Int))) = true
    · rw [if_pos h40] at h
      obtain ⟨x27, h41, h⟩ := bind_some h
      try dsimp only at h
      by_cases h42 : (decide (x27 > 0)) = true
      · rw [if_pos h42] at h
        obtain ⟨x28, h43, h⟩ := bind_some h
        have ch43 := f8_ok F x3 x26 _ h43
        try dsimp only at h
        by_cases h44 : x28 = true
        · rw [if_pos h44] at h
          exact Lp.again (gRun_ok cxOK (f11_p8_1_e0 x2 x3 x26 x27 x28) ⟨h40, ⟨(at?_spec h41).1, x27, (at?_spec h41).2, rfl⟩, h42, h42, h42, ch43, h42, h42, (by rw [h44]; rfl), trivial⟩) (f11_p8_1_ok F x3 x2 k (w64 (x26 + 1)) r h)
        · rw [if_neg h44] at h
          have h44 := Bool.eq_false_iff.2 h44
          obtain rfl := Option.some.inj h
          exact Lp.out (gRun_ok cxOK (f11_p8_1_e1 x2 x3 x26 x27 x28) ⟨h40, ⟨(at?_spec h41).1, x27, (at?_spec h41).2, rfl⟩, h42, h42, h42, ch43, h42, h42, (by rw [h44]; rfl), trivial⟩) (by intro hh; cases hh)
      · rw [if_neg h42] at h
        have h42 := Bool.eq_false_iff.2 h42
        exact Lp.again (gRun_ok cxOK (f11_p8_1_e2 x2 x3 x26 x27) ⟨h40, ⟨(at?_spec h41).1, x27, (at?_spec h41).2, rfl⟩, h42, h42, h42, h42, h42, rfl, trivial⟩) (f11_p8_1_ok F x3 x2 k (w64 (x26 + 1)) r h)
    · rw [if_neg h40] at h
      have h40 := Bool.eq_false_iff.2 h40
      obtain rfl := Option.some.inj h
      exact Lp.out (gRun_ok cxOK (f11_p8_1_e3 x2 x3 x26) ⟨h40, trivial⟩) (by intro hh; cases hh)
theorem f11_ok (F : Nat) (x1 : List (List Int)) (x2 x3 : List Int) (r : Int) (h : f11 F x1 x2 x3 = some r) : f11_C x1 x2 x3 r := by
  unfold f11 at h
  obtain ⟨rh1, h1, h⟩ := bind_some h
  have ch1 := f28_ok F x1 x2 _ h1
  cases rh1 with
  | c0 x4 =>
    try dsimp only at h
    obtain ⟨x7, h4, h⟩ := bind_some h
    have ch4 := f11_p0_ok F x1 x2 x3 x4 _ h4
    try dsimp only at h
    by_cases h5 : (x7 != 0) = true
    · rw [if_pos h5] at h
      obtain rfl := Option.some.inj h
      exact callOK cxOK cxW Try.func11 (by kernel_rfl) (f11_e0 x1 x2 x3 x4 x7) ⟨ch1, ch4, h5, trivial⟩
    · rw [if_neg h5] at h
      have h5 := Bool.eq_false_iff.2 h5
      obtain ⟨rh17, h17, h⟩ := bind_some h
      have ch17 := f11_p3_ok F x2 x3 F 0 _ h17
      cases rh17 with
      | c0 =>
        try dsimp only at h
        obtain rfl := Option.some.inj h
        exact callOK cxOK cxW Try.func11 (by kernel_rfl) (f11_e1 x1 x2 x3 x4 x7) ⟨ch1, ch4, h5, ch17, trivial⟩
      | c1 =>
        try dsimp only at h
        obtain ⟨rh23, h23, h⟩ := bind_some h
        have ch23 := f11_p8_ok F x3 x2 F 0 _ h23
        cases rh23 with
        | c0 =>
          try dsimp only at h
          obtain rfl := Option.some.inj h
          exact callOK cxOK cxW Try.func11 (by kernel_rfl) (f11_e2 x1 x2 x3 x4 x7) ⟨ch1, ch4, h5, ch17, ch23, trivial⟩
        | c1 =>
          try dsimp only at h
          obtain rfl := Option.some.inj h
          exact callOK cxOK cxW Try.func11 (by kernel_rfl) (f11_e3 x1 x2 x3 x4 x7) ⟨ch1, ch4, h5, ch17, ch23, trivial⟩
  | c1 x15 x16 x17 x18 =>
    try dsimp only at h
    obtain ⟨x21, h26, h⟩ := bind_some h
    have ch26 := f11_p0_1_ok F x1 x2 x3 x15 x16 x17 x18 _ h26
    try dsimp only at h
    by_cases h27 : (x21 != 0) = true
    · rw [if_pos h27] at h
      obtain rfl := Option.some.inj h
      exact callOK cxOK cxW Try.func11 (by kernel_rfl) (f11_e4 x1 x2 x3 x15 x16 x17 x18 x21) ⟨ch1, ch26, h27, trivial⟩
    · rw [if_neg h27] at h
      have h27 := Bool.eq_false_iff.2 h27
      obtain ⟨rh39, h39, h⟩ := bind_some h
      have ch39 := f11_p3_1_ok F x2 x3 x16 x17 x18 F 0 _ h39
      cases rh39 with
      | c0 =>
        try dsimp only at h
        obtain rfl := Option.some.inj h
        exact callOK cxOK cxW Try.func11 (by kernel_rfl) (f11_e5 x1 x2 x3 x15 x16 x17 x18 x21) ⟨ch1, ch26, h27, ch39, trivial⟩
      | c1 =>
        try dsimp only at h
        obtain ⟨rh45, h45, h⟩ := bind_some h
        have ch45 := f11_p8_1_ok F x3 x2 F 0 _ h45
        cases rh45 with
        | c0 =>
          try dsimp only at h
          obtain rfl := Option.some.inj h
          exact callOK cxOK cxW Try.func11 (by kernel_rfl) (f11_e6 x1 x2 x3 x15 x16 x17 x18 x21) ⟨ch1, ch26, h27, ch39, ch45, trivial⟩
        | c1 =>
          try dsimp only at h
          obtain rfl := Option.some.inj h
          exact callOK cxOK cxW Try.func11 (by kernel_rfl) (f11_e7 x1 x2 x3 x15 x16 x17 x18 x21) ⟨ch1, ch26, h27, ch39, ch45, trivial⟩

theorem f51_ok (F : Nat) (x1 x2 : Int) (x3 : Mm) (x4 : List (List Int)) (x5 : Int) (r : Int × Mm) (h : f51 F x1 x2 x3 x4 x5 = some r) : f51_C x1 x2 x3 x4 x5 r := by
  unfold f51 at h
  obtain ⟨x6, h1, h⟩ := bind_some h
  have ch1 := f19_1_ok F x3 x4 x5 _ h1
  try dsimp only at h
  obtain ⟨rh2, h2, h⟩ := bind_some h
  have ch2 := f37_ok F F 0 (-1) x6 x3 x4 x5 _ h2
  obtain ⟨x7, x8, x9⟩ := rh2
  try dsimp only at h
  obtain ⟨x10, h3, h⟩ := bind_some h
  have ch3 := f22_ok F x1 x2 x9 x4 x5 _ h3
  try dsimp only at h
  obtain ⟨x11, h4, h⟩ := bind_some h
  have ch4 := f19_1_ok F x9 x4 x5 _ h4
  try dsimp only at h
  obtain ⟨rh5, h5, h⟩ := bind_some h
  have ch5 := f37_ok F F 0 x1 x11 x9 x4 x5 _ h5
  obtain ⟨x12, x13, x14⟩ := rh5
  try dsimp only at h
  obtain rfl := Option.some.inj h
  exact callOK cxOK cxW Try.func51 (by kernel_rfl) (f51_e0 x1 x2 x3 x4 x5 x6 x7 x8 x9 x10 x11 x12 x13 x14) ⟨ch1, ch2, ch3, ch4, ch5, trivial⟩

theorem f50_p2_ok (F : Nat) (x7 : List Int) (x5 : List (List Int)) (x6 : Int) : ∀ (k : Nat) (x19 : Int) (x20 : Mm) (x18 : List Int) (r : (List Int)), f50_p2 F x7 x5 x6 k x19 x20 x18 = some r → f50_p2_P x7 x5 x6 x19 x20 x18 r
  | 0, _, _, _, _, h => by cases h
  | k + 1, x19, x20, x18, r, h => by
    unfold f50_p2 at h
    by_cases h14 : (decide (x19 < ((List.length x7 : Nat) : Int))) = true
    · rw [if_pos h14] at h
      obtain ⟨x21, h15, h⟩ := bind_some h
      try dsimp only at h
      obtain ⟨rh16, h16, h⟩ := bind_some h
      have ch16 := f51_ok F x19 x21 x20 x5 x6 _ h16
      obtain ⟨x22, x23⟩ := rh16
      try dsimp only at h
      obtain ⟨h17, h⟩ := req_some h
      exact Lp.again (gRun_ok cxOK (f50_p2_e0 x5 x6 x7 x18 x19 x20 x21 x22 x23) ⟨h14, ⟨(at?_spec h15).1, x21, (at?_spec h15).2, rfl⟩, ch16, h17, rfl, trivial⟩) (f50_p2_ok F x7 x5 x6 k (w64 (x19 + 1)) x23 (x18 ++ ([x22] : List Int)) r h)
    · rw [if_neg h14] at h
      have h14 := Bool.eq_false_iff.2 h14
      obtain rfl := Option.some.inj h
      exact Lp.out (gRun_ok cxOK (f50_p2_e1 x5 x6 x7 x18 x19 x20) ⟨h14, trivial⟩) (by intro hh; cases hh)
theorem f50_ok (F : Nat) (x1 : List (List Int)) (r : (List Int) × Int) (h : f50 F x1 = some r) : f50_C x1 r := by
  unfold f50 at h
  obtain ⟨rh1, h1, h⟩ := bind_some h
  have ch1 := f17_ok F x1 _ h1
  cases rh1 with
  | c0 x2 =>
    try dsimp only at h
    by_cases h2 : (x2 != 0) = true
    · rw [if_pos h2] at h
      obtain rfl := Option.some.inj h
      exact callOK cxOK cxW Try.func50 (by kernel_rfl) (f50_e0 x1 x2) ⟨ch1, h2, trivial⟩
    · rw [if_neg h2] at h
      have h2 := Bool.eq_false_iff.2 h2
      obtain ⟨rh3, h3, h⟩ := bind_some h
      have ch3 := f18_ok F _ h3
      exact nomatch rh3
  | c1 x3 x4 x5 x6 =>
    try dsimp only at h
    by_cases h4 : (x3 != 0) = true
    · rw [if_pos h4] at h
      obtain rfl := Option.some.inj h
      exact callOK cxOK cxW Try.func50 (by kernel_rfl) (f50_e1 x1 x3 x4 x5 x6) ⟨ch1, h4, trivial⟩
    · rw [if_neg h4] at h
      have h4 := Bool.eq_false_iff.2 h4
      obtain ⟨rh5, h5, h⟩ := bind_some h
      have ch5 := f18_1_ok F x4 x5 x6 _ h5
      obtain ⟨x7, x8⟩ := rh5
      try dsimp only at h
      obtain ⟨x24, h18, h⟩ := bind_some h
      have ch18 := f50_p2_ok F x7 x5 x6 F 0 x8 ([] : List Int) _ h18
      try dsimp only at h
      obtain rfl := Option.some.inj h
      exact callOK cxOK cxW Try.func50 (by kernel_rfl) (f50_e2 x1 x3 x4 x5 x6 x7 x8 x24) ⟨ch1, h4, ch5, ch18, (Nat.le_of_eq (Nat.zero_add _)), trivial⟩

theorem f30_ok (F : Nat) (x1 : List (List Int)) (r : (List Int) × Int) (h : f30 F x1 = some r) : f30_C x1 r := by
  unfold f30 at h
  obtain ⟨rh1, h1, h⟩ := bind_some h
  have ch1 := f50_ok F x1 _ h1
  obtain ⟨x2, x3⟩ := rh1
  try dsimp only at h
  obtain rfl := Option.some.inj h
  exact callOK cxOK cxW Try.func30 (by kernel_rfl) (f30_e0 x1 x2 x3) ⟨ch1, trivial⟩

theorem f32_ok (F : Nat) (x1 : List Int) (r : (List Int)) (h : f32 F x1 = some r) : f32_C x1 r := by
  unfold f32 at h
  obtain rfl := Option.some.inj h
  exact callOK cxOK cxW Try.func32 (by kernel_rfl) (f32_e0 x1) trivial

theorem f31_p2_ok (F : Nat) (x1 x2 : List Int) : ∀ (k : Nat) (x3 : Int) (r : f31_p2_R), f31_p2 F x1 x2 k x3 = some r → f31_p2_P x1 x2 x3 r
  | 0, _, _, h => by cases h
  | k + 1, x3, r, h => by
    unfold f31_p2 at h
    by_cases h2 : (decide (x3 < ((List.length x1 : Nat) : Int))) = true
    · rw [if_pos h2] at h
      obtain ⟨x4, h3, h⟩ := bind_some h
      try dsimp only at h
      obtain ⟨x5, h4, h⟩ := bind_some h
      try dsimp only at h
      by_cases h5 : (x4 != x5) = true
      · rw [if_pos h5] at h
        obtain rfl := Option.some.inj h
        exact Lp.out (gRun_ok cxOK (f31_p2_e0 x1 x2 x3 x4 x5) ⟨h2, ⟨(at?_spec h3).1, x4, (at?_spec h3).2, rfl⟩, ⟨(at?_spec h4).1, x5, (at?_spec h4).2, rfl⟩, h5, trivial⟩) (by intro hh; cases hh)
      · rw [if_neg h5] at h
        have h5 := Bool.eq_false_iff.2 h5
        exact Lp.again (gRun_ok cxOK (f31_p2_e1 x1 x2 x3 x4 x5) ⟨h2, ⟨(at?_spec h3).1, x4, (at?_spec h3).2, rfl⟩, ⟨(at?_spec h4).1, x5, (at?_spec h4).2, rfl⟩, h5, trivial⟩) (f31_p2_ok F x1 x2 k (w64 (x3 + 1)) r h)
    · rw [if_neg h2] at h
      have h2 := Bool.eq_false_iff.2 h2
      obtain rfl := Option.some.inj h
      exact Lp.out (gRun_ok cxOK (f31_p2_e2 x1 x2 x3) ⟨h2, trivial⟩) (by intro hh; cases hh)
theorem f31_ok (F : Nat) (x1 x2 : List Int) (r : Bool) (h : f31 F x1 x2 = some r) : f31_C x1 x2 r := by
  unfold f31 at h
  by_cases h1 : (((List.length x1 : Nat) : Int) != ((List.length x2 : Nat) : Int)) = true
  · rw [if_pos h1] at h
    obtain rfl := Option.some.inj h
    exact callOK cxOK cxW Try.func31 (by kernel_rfl) (f31_e0 x1 x2) ⟨h1, trivial⟩
  · rw [if_neg h1] at h
    have h1 := Bool.eq_false_iff.2 h1
    obtain ⟨rh6, h6, h⟩ := bind_some h
    have ch6 := f31_p2_ok F x1 x2 F 0 _ h6
    cases rh6 with
    | c0 =>
      try dsimp only at h
      obtain rfl := Option.some.inj h
      exact callOK cxOK cxW Try.func31 (by kernel_rfl) (f31_e1 x1 x2) ⟨h1, ch6, trivial⟩
    | c1 =>
      try dsimp only at h
      obtain rfl := Option.some.inj h
      exact callOK cxOK cxW Try.func31 (by kernel_rfl) (f31_e2 x1 x2) ⟨h1, ch6, trivial⟩

theorem f64_ok (F : Nat) (x1 x2 x3 : Int) (r : Bool) (h : f64 F x1 x2 x3 = some r) : f64_C x1 x2 x3 r := by
  unfold f64 at h
  by_cases h1 : (decide (x1 ≤ x2)) = true
  · rw [if_pos h1] at h
    obtain rfl := Option.some.inj h
    exact callOK cxOK cxW Try.func64 (by kernel_rfl) (f64_e0 x1 x2 x3) ⟨h1, h1, h1, h1, trivial⟩
  · rw [if_neg h1] at h
    have h1 := Bool.eq_false_iff.2 h1
    obtain rfl := Option.some.inj h
    exact callOK cxOK cxW Try.func64 (by kernel_rfl) (f64_e1 x1 x2 x3) ⟨h1, h1, h1, h1, trivial⟩

theorem f70_p0_ok (F : Nat) (x1 : Int) (x2 : Bool) (r : Int) (h : f70_p0 F x1 x2 = some r) : f70_p0_P x1 x2 r := by
  unfold f70_p0 at h
  by_cases h1 : x2 = true
  · rw [if_pos h1] at h
    obtain rfl := Option.some.inj h
    exact gRun_ok cxOK (f70_p0_e0 x1 x2) ⟨h1, trivial⟩
  · rw [if_neg h1] at h
    have h1 := Bool.eq_false_iff.2 h1
    obtain rfl := Option.some.inj h
    exact gRun_ok cxOK (f70_p0_e1 x1 x2) ⟨h1, trivial⟩
theorem f70_ok (F : Nat) (x1 : Int) (x2 : Bool) (r : Int) (h : f70 F x1 x2 = some r) : f70_C x1 x2 r := by
  unfold f70 at h
  obtain ⟨x3, h2, h⟩ := bind_some h
  have ch2 := f70_p0_ok F x1 x2 _ h2
  try dsimp only at h
  obtain rfl := Option.some.inj h
  exact callOK cxOK cxW Try.func70 (by kernel_rfl) (f70_e0 x1 x2 x3) ⟨ch2, trivial⟩

theorem f63_ok (F : Nat) (x1 x2 : Int) (x3 : Bool) (x4 x5 : List Int) (r : Int) (h : f63 F x1 x2 x3 x4 x5 = some r) : f63_C x1 x2 x3 x4 x5 r := by
  unfold f63 at h
  obtain ⟨h1, h⟩ := req_some h
  obtain ⟨x6, h2, h⟩ := bind_some h
  try dsimp only at h
  obtain ⟨x7, h3, h⟩ := bind_some h
  have ch3 := f70_ok F x1 x3 _ h3
  try dsimp only at h
  obtain rfl := Option.some.inj h
  exact callOK cxOK cxW Try.func63 (by kernel_rfl) (f63_e0 x1 x2 x3 x4 x5 x6 x7) ⟨h1, ⟨x6, h2, rfl⟩, ch3, trivial⟩

theorem f69_p4_ok (F : Nat) (x1 : Int) (x2 : Bool) (x3 : List Int) : ∀ (k : Nat) (x6 x7 : Int) (x8 : Bool) (x9 x10 : List Int) (r : Int × Bool × (List Int) × (List Int)), f69_p4 F x1 x2 x3 k x6 x7 x8 x9 x10 = some r → f69_p4_P x1 x2 x3 x6 x7 x8 x9 x10 r
  | 0, _, _, _, _, _, _, h => by cases h
  | k + 1, x6, x7, x8, x9, x10, r, h => by
    unfold f69_p4 at h
    by_cases h7 : (decide (x6 < 9)) = true
    · rw [if_pos h7] at h
      obtain ⟨h8, h⟩ := req_some h
      obtain ⟨h9, h⟩ := req_some h
      exact Lp.again (gRun_ok cxOK (f69_p4_e0 x1 x2 x3 x6 x7 x8 x9 x10) ⟨h7, h8, h9, trivial⟩) (f69_p4_ok F x1 x2 x3 k (w64 (x6 + 1)) x7 x8 x9 (List.set x10 (0 + ((Int.toNat x6) * 1)) (-1)) r h)
    · rw [if_neg h7] at h
      have h7 := Bool.eq_false_iff.2 h7
      obtain rfl := Option.some.inj h
      exact Lp.out (gRun_ok cxOK (f69_p4_e1 x1 x2 x3 x6 x7 x8 x9 x10) ⟨h7, trivial⟩) (by intro hh; cases hh)
theorem f69_p12_1_ok (F : Nat) (x21 x28 : Int) (x3 : List Int) (x31 x1 : Int) (x2 : Bool) (x22 : Int) (x23 : Bool) (x24 x25 x26 : List Int) (x30 : Int) (x27 : List Int) (r : (List Int)) (h : f69_p12_1 F x21 x28 x3 x31 x1 x2 x22 x23 x24 x25 x26 x30 x27 = some r) : f69_p12_1_P x21 x28 x3 x31 x1 x2 x22 x23 x24 x25 x26 x30 x27 r := by
  unfold f69_p12_1 at h
  by_cases h33 : (x31 == 1) = true
  · rw [if_pos h33] at h
    obtain ⟨h34, h⟩ := req_some h
    obtain ⟨h35, h⟩ := req_some h
    obtain rfl := Option.some.inj h
    exact gRun_ok cxOK (f69_p12_1_e0 x1 x2 x3 x21 x22 x23 x24 x25 x26 x27 x28 x30 x31) ⟨h33, h34, h35, trivial⟩
  · rw [if_neg h33] at h
    have h33 := Bool.eq_false_iff.2 h33
    obtain rfl := Option.some.inj h
    exact gRun_ok cxOK (f69_p12_1_e1 x1 x2 x3 x21 x22 x23 x24 x25 x26 x27 x28 x30 x31) ⟨h33, trivial⟩
theorem f69_p8_ok (F : Nat) (x3 : List Int) (x1 : Int) (x2 : Bool) : ∀ (k : Nat) (x21 x22 : Int) (x23 : Bool) (x24 x25 : List Int) (x26 x27 : List Int) (r : f69_p8_R), f69_p8 F x3 x1 x2 k x21 x22 x23 x24 x25 x26 x27 = some r → f69_p8_P x3 x1 x2 x21 x22 x23 x24 x25 x26 x27 r
  | 0, _, _, _, _, _, _, _, _, h => by cases h
  | k + 1, x21, x22, x23, x24, x25, x26, x27, r, h => by
    unfold f69_p8 at h
    by_cases h25 : (decide (x21 < ((List.length x3 : Nat) : Int))) = true
    · rw [if_pos h25] at h
      obtain ⟨x28, h26, h⟩ := bind_some h
      try dsimp only at h
      obtain ⟨x29, h27, h⟩ := bind_some h
      have ch27 := f64_ok F 0 x28 x1 _ h27
      try dsimp only at h
      by_cases h28 : x29 = true
      · rw [if_pos h28] at h
        obtain ⟨h29, h⟩ := req_some h
        obtain ⟨x30, h30, h⟩ := bind_some h
        try dsimp only at h
        obtain ⟨h31, h⟩ := req_some h
        obtain ⟨x31, h32, h⟩ := bind_some h
        try dsimp only at h
        obtain ⟨x32, h36, h⟩ := bind_some h
        have ch36 := f69_p12_1_ok F x21 x28 x3 x31 x1 x2 x22 x23 x24 x25 x26 x30 x27 _ h36
        try dsimp only at h
        obtain ⟨h37, h⟩ := req_some h
        obtain ⟨h38, h⟩ := req_some h
        exact Lp.again (gRun_ok cxOK (f69_p8_e0 x1 x2 x3 x21 x22 x23 x24 x25 x26 x27 x28 x29 x30 x31 x32) ⟨h25, ⟨(at?_spec h26).1, x28, (at?_spec h26).2, rfl⟩, ch27, (by rw [h28]; rfl), h29, ⟨x30, h30, rfl⟩, h29, h31, h29, ⟨x31, h32, rfl⟩, ch36, h29, h31, h37, h38, trivial⟩) (f69_p8_ok F x3 x1 x2 k (w64 (x21 + 1)) x22 x23 (List.set x24 (0 + ((Int.toNat x21) * 1)) x28) x32 (List.set x26 (0 + ((Int.toNat x28) * 1)) (w64 (x30 + 1))) (List.set x27 (0 + ((Int.toNat x28) * 1)) x21) r h)
      · rw [if_neg h28] at h
        have h28 := Bool.eq_false_iff.2 h28
        obtain rfl := Option.some.inj h
        exact Lp.out (gRun_ok cxOK (f69_p8_e1 x1 x2 x3 x21 x22 x23 x24 x25 x26 x27 x28 x29) ⟨h25, ⟨(at?_spec h26).1, x28, (at?_spec h26).2, rfl⟩, ch27, (by rw [h28]; rfl), trivial⟩) (by intro hh; cases hh)
    · rw [if_neg h25] at h
      have h25 := Bool.eq_false_iff.2 h25
      obtain rfl := Option.some.inj h
      exact Lp.out (gRun_ok cxOK (f69_p8_e2 x1 x2 x3 x21 x22 x23 x24 x25 x26 x27) ⟨h25, trivial⟩) (by intro hh; cases hh)
theorem f69_p14_ok (F : Nat) (x1 : Int) (x2 : Bool) (x3 : List Int) (x33 : Int) (x34 : Bool) (x35 x36 : List Int) (x37 x38 : List Int) : ∀ (k : Nat) (x39 : Int) (r : f69_p14_R), f69_p14 F x1 x2 x3 x33 x34 x35 x36 x37 x38 k x39 = some r → f69_p14_P x1 x2 x3 x33 x34 x35 x36 x37 x38 x39 r
  | 0, _, _, h => by cases h
  | k + 1, x39, r, h => by
    unfold f69_p14 at h
    by_cases h40 : (decide (x39 ≤ x1)) = true
    · rw [if_pos h40] at h
      obtain ⟨h41, h⟩ := req_some h
      obtain ⟨x40, h42, h⟩ := bind_some h
      try dsimp only at h
      by_cases h43 : (decide (x40 > 2)) = true
      · rw [if_pos h43] at h
        obtain rfl := Option.some.inj h
        exact Lp.out (gRun_ok cxOK (f69_p14_e0 x1 x2 x3 x33 x34 x35 x36 x37 x38 x39 x40) ⟨h40, h41, ⟨x40, h42, rfl⟩, h43, trivial⟩) (by intro hh; cases hh)
      · rw [if_neg h43] at h
        have h43 := Bool.eq_false_iff.2 h43
        by_cases h44 : (x40 == 1) = true
        · rw [if_pos h44] at h
          obtain rfl := Option.some.inj h
          exact Lp.out (gRun_ok cxOK (f69_p14_e1 x1 x2 x3 x33 x34 x35 x36 x37 x38 x39 x40) ⟨h40, h41, ⟨x40, h42, rfl⟩, h43, h41, ⟨x40, h42, rfl⟩, h44, trivial⟩) (by intro hh; cases hh)
        · rw [if_neg h44] at h
          have h44 := Bool.eq_false_iff.2 h44
          by_cases h45 : (x40 == 2) = true
          · rw [if_pos h45] at h
            obtain ⟨x41, h46, h⟩ := bind_some h
            try dsimp only at h
            obtain ⟨x42, h47, h⟩ := bind_some h
            have ch47 := f63_ok F x39 x33 x34 x35 x36 _ h47
            try dsimp only at h
            by_cases h48 : (x41 != x42) = true
            · rw [if_pos h48] at h
              obtain rfl := Option.some.inj h
              exact Lp.out (gRun_ok cxOK (f69_p14_e2 x1 x2 x3 x33 x34 x35 x36 x37 x38 x39 x40 x41 x42) ⟨h40, h41, ⟨x40, h42, rfl⟩, h43, h41, ⟨x40, h42, rfl⟩, h44, h41, ⟨x40, h42, rfl⟩, h45, h45, h41, h45, ⟨x41, h46, rfl⟩, h45, h45, h45, ch47, h45, h45, h48, trivial⟩) (by intro hh; cases hh)
            · rw [if_neg h48] at h
              have h48 := Bool.eq_false_iff.2 h48
              exact Lp.again (gRun_ok cxOK (f69_p14_e3 x1 x2 x3 x33 x34 x35 x36 x37 x38 x39 x40 x41 x42) ⟨h40, h41, ⟨x40, h42, rfl⟩, h43, h41, ⟨x40, h42, rfl⟩, h44, h41, ⟨x40, h42, rfl⟩, h45, h45, h41, h45, ⟨x41, h46, rfl⟩, h45, h45, h45, ch47, h45, h45, h48, trivial⟩) (f69_p14_ok F x1 x2 x3 x33 x34 x35 x36 x37 x38 k (w64 (x39 + 1)) r h)
          · rw [if_neg h45] at h
            have h45 := Bool.eq_false_iff.2 h45
            exact Lp.again (gRun_ok cxOK (f69_p14_e4 x1 x2 x3 x33 x34 x35 x36 x37 x38 x39 x40) ⟨h40, h41, ⟨x40, h42, rfl⟩, h43, h41, ⟨x40, h42, rfl⟩, h44, h41, ⟨x40, h42, rfl⟩, h45, h45, h45, h45, h45, h45, h45, h45, rfl, trivial⟩) (f69_p14_ok F x1 x2 x3 x33 x34 x35 x36 x37 x38 k (w64 (x39 + 1)) r h)
    · rw [if_neg h40] at h
      have h40 := Bool.eq_false_iff.2 h40
      obtain rfl := Option.some.inj h
      exact Lp.out (gRun_ok cxOK (f69_p14_e5 x1 x2 x3 x33 x34 x35 x36 x37 x38 x39) ⟨h40, trivial⟩) (by intro hh; cases hh)
theorem f69_ok (F : Nat) (x1 : Int) (x2 : Bool) (x3 : List Int) (r : f69_R) (h : f69 F x1 x2 x3 = some r) : f69_C x1 x2 x3 r := by
  unfold f69 at h
  obtain ⟨x4, h1, h⟩ := bind_some h
  have ch1 := f64_ok F 1 x1 8 _ h1
  try dsimp only at h
  by_cases h2 : x4 = true
  · rw [if_pos h2] at h
    by_cases h3 : (((List.length x3 : Nat) : Int) != (w64 (2 * x1))) = true
    · rw [if_pos h3] at h
      obtain rfl := Option.some.inj h
      exact callOK cxOK cxW Try.func69 (by kernel_rfl) (f69_e0 x1 x2 x3 x4) ⟨ch1, (by rw [h2]; rfl), h3, trivial⟩
    · rw [if_neg h3] at h
      have h3 := Bool.eq_false_iff.2 h3
      obtain ⟨rh10, h10, h⟩ := bind_some h
      have ch10 := f69_p4_ok F x1 x2 x3 F 0 x1 x2 (List.replicate 16 0) (List.replicate 9 0) _ h10
      obtain ⟨x11, x12, x13, x14⟩ := rh10
      try dsimp only at h
      obtain ⟨rh39, h39, h⟩ := bind_some h
      have ch39 := f69_p8_ok F x3 x1 x2 F 0 x11 x12 x13 x14 (List.replicate 9 0) (List.replicate 9 0) _ h39
      cases rh39 with
      | c0 =>
        try dsimp only at h
        obtain rfl := Option.some.inj h
        exact callOK cxOK cxW Try.func69 (by kernel_rfl) (f69_e1 x1 x2 x3 x4 x11 x12 x13 x14) ⟨ch1, (by rw [h2]; rfl), h3, ch10, ch39, trivial⟩
      | c1 x33 x34 x35 x36 x37 x38 =>
        try dsimp only at h
        obtain ⟨rh49, h49, h⟩ := bind_some h
        have ch49 := f69_p14_ok F x1 x2 x3 x33 x34 x35 x36 x37 x38 F 1 _ h49
        cases rh49 with
        | c0 x43 =>
          try dsimp only at h
          obtain rfl := Option.some.inj h
          exact callOK cxOK cxW Try.func69 (by kernel_rfl) (f69_e2 x1 x2 x3 x4 x11 x12 x13 x14 x33 x34 x35 x36 x37 x38 x43) ⟨ch1, (by rw [h2]; rfl), h3, ch10, ch39, ch49, trivial⟩
        | c1 =>
          try dsimp only at h
          obtain rfl := Option.some.inj h
          exact callOK cxOK cxW Try.func69 (by kernel_rfl) (f69_e3 x1 x2 x3 x4 x11 x12 x13 x14 x33 x34 x35 x36 x37 x38) ⟨ch1, (by rw [h2]; rfl), h3, ch10, ch39, ch49, trivial⟩
  · rw [if_neg h2] at h
    have h2 := Bool.eq_false_iff.2 h2
    obtain rfl := Option.some.inj h
    exact callOK cxOK cxW Try.func69 (by kernel_rfl) (f69_e4 x1 x2 x3 x4) ⟨ch1, (by rw [h2]; rfl), trivial⟩

theorem f62_ok (F : Nat) (x1 : Int) (x2 : Bool) (x3 : List Int) (x4 : Int) (r : f62_R) (h : f62 F x1 x2 x3 x4 = some r) : f62_C x1 x2 x3 x4 r := by
  unfold f62 at h
  obtain ⟨rh1, h1, h⟩ := bind_some h
  have ch1 := f69_ok F x1 x2 x3 _ h1
  cases rh1 with
  | c0 x5 =>
    try dsimp only at h
    by_cases h2 : (x5 != 0) = true
    · rw [if_pos h2] at h
      obtain rfl := Option.some.inj h
      exact callOK cxOK cxW Try.func62 (by kernel_rfl) (f62_e0 x1 x2 x3 x4 x5) ⟨ch1, h2, trivial⟩
    · rw [if_neg h2] at h
      have h2 := Bool.eq_false_iff.2 h2
      cases h
  | c1 x6 x7 x8 x9 x10 =>
    try dsimp only at h
    by_cases h3 : (x6 != 0) = true
    · rw [if_pos h3] at h
      obtain rfl := Option.some.inj h
      exact callOK cxOK cxW Try.func62 (by kernel_rfl) (f62_e1 x1 x2 x3 x4 x6 x7 x8 x9 x10) ⟨ch1, h3, trivial⟩
    · rw [if_neg h3] at h
      have h3 := Bool.eq_false_iff.2 h3
      obtain ⟨x11, h4, h⟩ := bind_some h
      have ch4 := f64_ok F 1 x4 x7 _ h4
      try dsimp only at h
      by_cases h5 : x11 = true
      · rw [if_pos h5] at h
        obtain ⟨h6, h⟩ := req_some h
        obtain ⟨x12, h7, h⟩ := bind_some h
        try dsimp only at h
        by_cases h8 : (decide (x12 < 0)) = true
        · rw [if_pos h8] at h
          obtain rfl := Option.some.inj h
          exact callOK cxOK cxW Try.func62 (by kernel_rfl) (f62_e2 x1 x2 x3 x4 x6 x7 x8 x9 x10 x11 x12) ⟨ch1, h3, ch4, (by rw [h5]; rfl), h6, ⟨x12, h7, rfl⟩, h8, trivial⟩
        · rw [if_neg h8] at h
          have h8 := Bool.eq_false_iff.2 h8
          obtain rfl := Option.some.inj h
          exact callOK cxOK cxW Try.func62 (by kernel_rfl) (f62_e3 x1 x2 x3 x4 x6 x7 x8 x9 x10 x11 x12) ⟨ch1, h3, ch4, (by rw [h5]; rfl), h6, ⟨x12, h7, rfl⟩, h8, trivial⟩
      · rw [if_neg h5] at h
        have h5 := Bool.eq_false_iff.2 h5
        obtain rfl := Option.some.inj h
        exact callOK cxOK cxW Try.func62 (by kernel_rfl) (f62_e4 x1 x2 x3 x4 x6 x7 x8 x9 x10 x11) ⟨ch1, h3, ch4, (by rw [h5]; rfl), trivial⟩

theorem f52_p6_1_ok (F : Nat) (x4 x11 x12 : Int) (x18 : List Int) (x19 : Int) (x22 x23 : Bool) (x7 : Int) (x8 : Bool) (x9 x10 : List Int) (r : (List Int)) (h : f52_p6_1 F x4 x11 x12 x18 x19 x22 x23 x7 x8 x9 x10 = some r) : f52_p6_1_P x4 x11 x12 x18 x19 x22 x23 x7 x8 x9 x10 r := by
  unfold f52_p6_1 at h
  by_cases h26 : (x22 == x23) = true
  · rw [if_pos h26] at h
    obtain rfl := Option.some.inj h
    exact gRun_ok cxOK (f52_p6_1_e0 x4 x7 x8 x9 x10 x11 x12 x18 x19 x22 x23) ⟨(by rw [h26]; rfl), trivial⟩
  · rw [if_neg h26] at h
    have h26 := Bool.eq_false_iff.2 h26
    obtain ⟨h27, h⟩ := req_some h
    obtain rfl := Option.some.inj h
    exact gRun_ok cxOK (f52_p6_1_e1 x4 x7 x8 x9 x10 x11 x12 x18 x19 x22 x23) ⟨(by rw [h26]; rfl), h27, rfl, trivial⟩
theorem f52_p2_ok (F : Nat) (x4 x11 : Int) (x12 x7 : Int) (x8 : Bool) (x9 x10 : List Int) : ∀ (k : Nat) (x19 : Int) (x18 : List Int) (r : (List Int)), f52_p2 F x4 x11 x12 x7 x8 x9 x10 k x19 x18 = some r → f52_p2_P x4 x11 x12 x7 x8 x9 x10 x19 x18 r
  | 0, _, _, _, h => by cases h
  | k + 1, x19, x18, r, h => by
    unfold f52_p2 at h
    by_cases h18 : (decide (x19 ≤ x7)) = true
    · rw [if_pos h18] at h
      obtain ⟨h19, h⟩ := req_some h
      obtain ⟨x20, h20, h⟩ := bind_some h
      try dsimp only at h
      by_cases h21 : (decide (x20 < 0)) = true
      · rw [if_pos h21] at h
        exact Lp.again (gRun_ok cxOK (f52_p2_e0 x4 x7 x8 x9 x10 x11 x12 x18 x19 x20) ⟨h18, h19, ⟨x20, h20, rfl⟩, h21, h21, h21, h21, rfl, trivial⟩) (f52_p2_ok F x4 x11 x12 x7 x8 x9 x10 k (w64 (x19 + 1)) x18 r h)
      · rw [if_neg h21] at h
        have h21 := Bool.eq_false_iff.2 h21
        by_cases h22 : (x19 == x4) = true
        · rw [if_pos h22] at h
          exact Lp.again (gRun_ok cxOK (f52_p2_e1 x4 x7 x8 x9 x10 x11 x12 x18 x19 x20) ⟨h18, h19, ⟨x20, h20, rfl⟩, h21, h21, h21, h21, h22, trivial⟩) (f52_p2_ok F x4 x11 x12 x7 x8 x9 x10 k (w64 (x19 + 1)) x18 r h)
        · rw [if_neg h22] at h
          have h22 := Bool.eq_false_iff.2 h22
          obtain ⟨x21, h23, h⟩ := bind_some h
          have ch23 := f63_ok F x19 x7 x8 x9 x10 _ h23
          try dsimp only at h
          obtain ⟨x22, h24, h⟩ := bind_some h
          have ch24 := f64_ok F x11 x20 x12 _ h24
          try dsimp only at h
          obtain ⟨x23, h25, h⟩ := bind_some h
          have ch25 := f64_ok F x11 x21 x12 _ h25
          try dsimp only at h
          obtain ⟨x24, h28, h⟩ := bind_some h
          have ch28 := f52_p6_1_ok F x4 x11 x12 x18 x19 x22 x23 x7 x8 x9 x10 _ h28
          try dsimp only at h
          exact Lp.again (gRun_ok cxOK (f52_p2_e2 x4 x7 x8 x9 x10 x11 x12 x18 x19 x20 x21 x22 x23 x24) ⟨h18, h19, ⟨x20, h20, rfl⟩, h21, h21, h21, h21, h22, h19, ⟨x20, h20, rfl⟩, ch23, ch24, ch25, ch28, trivial⟩) (f52_p2_ok F x4 x11 x12 x7 x8 x9 x10 k (w64 (x19 + 1)) x24 r h)
    · rw [if_neg h18] at h
      have h18 := Bool.eq_false_iff.2 h18
      obtain rfl := Option.some.inj h
      exact Lp.out (gRun_ok cxOK (f52_p2_e3 x4 x7 x8 x9 x10 x11 x12 x18 x19) ⟨h18, trivial⟩) (by intro hh; cases hh)
theorem f52_ok (F : Nat) (x1 : Int) (x2 : Bool) (x3 : List Int) (x4 : Int) (r : (List Int) × Int) (h : f52 F x1 x2 x3 x4 = some r) : f52_C x1 x2 x3 x4 r := by
  unfold f52 at h
  obtain ⟨rh1, h1, h⟩ := bind_some h
  have ch1 := f62_ok F x1 x2 x3 x4 _ h1
  cases rh1 with
  | c0 x5 =>
    try dsimp only at h
    by_cases h2 : (x5 != 0) = true
    · rw [if_pos h2] at h
      obtain rfl := Option.some.inj h
      exact callOK cxOK cxW Try.func52 (by kernel_rfl) (f52_e0 x1 x2 x3 x4 x5) ⟨ch1, h2, trivial⟩
    · rw [if_neg h2] at h
      have h2 := Bool.eq_false_iff.2 h2
      cases h
  | c1 x6 x7 x8 x9 x10 =>
    try dsimp only at h
    by_cases h3 : (x6 != 0) = true
    · rw [if_pos h3] at h
      obtain rfl := Option.some.inj h
      exact callOK cxOK cxW Try.func52 (by kernel_rfl) (f52_e1 x1 x2 x3 x4 x6 x7 x8 x9 x10) ⟨ch1, h3, trivial⟩
    · rw [if_neg h3] at h
      have h3 := Bool.eq_false_iff.2 h3
      obtain ⟨h4, h⟩ := req_some h
      obtain ⟨x11, h5, h⟩ := bind_some h
      try dsimp only at h
      obtain ⟨x12, h6, h⟩ := bind_some h
      have ch6 := f63_ok F x4 x7 x8 x9 x10 _ h6
      try dsimp only at h
      obtain ⟨x25, h29, h⟩ := bind_some h
      have ch29 := f52_p2_ok F x4 x11 x12 x7 x8 x9 x10 F 1 ([] : List Int) _ h29
      try dsimp only at h
      obtain rfl := Option.some.inj h
      exact callOK cxOK cxW Try.func52 (by kernel_rfl) (f52_e2 x1 x2 x3 x4 x6 x7 x8 x9 x10 x11 x12 x25) ⟨ch1, h3, h4, ⟨x11, h5, rfl⟩, ch6, ch29, (Nat.le_of_eq (Nat.zero_add _)), trivial⟩

theorem f78_ok (F : Nat) (x1 x2 x3 : Int) (r : Bool) (h : f78 F x1 x2 x3 = some r) : f78_C x1 x2 x3 r := by
  unfold f78 at h
  by_cases h1 : (decide (x1 ≥ x2)) = true
  · rw [if_pos h1] at h
    obtain rfl := Option.some.inj h
    exact callOK cxOK cxW Try.func78 (by kernel_rfl) (f78_e0 x1 x2 x3) ⟨h1, h1, h1, h1, trivial⟩
  · rw [if_neg h1] at h
    have h1 := Bool.eq_false_iff.2 h1
    obtain rfl := Option.some.inj h
    exact callOK cxOK cxW Try.func78 (by kernel_rfl) (f78_e1 x1 x2 x3) ⟨h1, h1, h1, h1, trivial⟩

theorem f84_p4_ok (F : Nat) (x1 : List Int) : ∀ (k : Nat) (x2 x3 : Int) (r : f84_p4_R), f84_p4 F x1 k x2 x3 = some r → f84_p4_P x1 x2 x3 r
  | 0, _, _, _, h => by cases h
  | k + 1, x2, x3, r, h => by
    unfold f84_p4 at h
    by_cases h3 : (decide (x3 < ((List.length x1 : Nat) : Int))) = true
    · rw [if_pos h3] at h
      obtain ⟨x4, h4, h⟩ := bind_some h
      try dsimp only at h
      obtain ⟨x5, h5, h⟩ := bind_some h
      have ch5 := f78_ok F x4 1 30 _ h5
      try dsimp only at h
      by_cases h6 : x5 = true
      · rw [if_pos h6] at h
        by_cases h7 : (decide (x4 ≤ x2)) = true
        · rw [if_pos h7] at h
          obtain rfl := Option.some.inj h
          exact Lp.out (gRun_ok cxOK (f84_p4_e0 x1 x2 x3 x4 x5) ⟨h3, ⟨(at?_spec h4).1, x4, (at?_spec h4).2, rfl⟩, ch5, (by rw [h6]; rfl), h7, trivial⟩) (by intro hh; cases hh)
        · rw [if_neg h7] at h
          have h7 := Bool.eq_false_iff.2 h7
          exact Lp.again (gRun_ok cxOK (f84_p4_e1 x1 x2 x3 x4 x5) ⟨h3, ⟨(at?_spec h4).1, x4, (at?_spec h4).2, rfl⟩, ch5, (by rw [h6]; rfl), h7, trivial⟩) (f84_p4_ok F x1 k x4 (w64 (x3 + 1)) r h)
      · rw [if_neg h6] at h
        have h6 := Bool.eq_false_iff.2 h6
        obtain rfl := Option.some.inj h
        exact Lp.out (gRun_ok cxOK (f84_p4_e2 x1 x2 x3 x4 x5) ⟨h3, ⟨(at?_spec h4).1, x4, (at?_spec h4).2, rfl⟩, ch5, (by rw [h6]; rfl), trivial⟩) (by intro hh; cases hh)
    · rw [if_neg h3] at h
      have h3 := Bool.eq_false_iff.2 h3
      obtain rfl := Option.some.inj h
      exact Lp.out (gRun_ok cxOK (f84_p4_e3 x1 x2 x3) ⟨h3, trivial⟩) (by intro hh; cases hh)
theorem f84_ok (F : Nat) (x1 : List Int) (r : Int) (h : f84 F x1 = some r) : f84_C x1 r := by
  unfold f84 at h
  by_cases h1 : (((List.length x1 : Nat) : Int) == 0) = true
  · rw [if_pos h1] at h
    obtain rfl := Option.some.inj h
    exact callOK cxOK cxW Try.func84 (by kernel_rfl) (f84_e0 x1) ⟨h1, trivial⟩
  · rw [if_neg h1] at h
    have h1 := Bool.eq_false_iff.2 h1
    by_cases h2 : (decide (((List.length x1 : Nat) : Int) > 5)) = true
    · rw [if_pos h2] at h
      obtain rfl := Option.some.inj h
      exact callOK cxOK cxW Try.func84 (by kernel_rfl) (f84_e1 x1) ⟨h1, h2, trivial⟩
    · rw [if_neg h2] at h
      have h2 := Bool.eq_false_iff.2 h2
      obtain ⟨rh8, h8, h⟩ := bind_some h
      have ch8 := f84_p4_ok F x1 F 0 0 _ h8
      cases rh8 with
      | c0 x6 =>
        try dsimp only at h
        obtain rfl := Option.some.inj h
        exact callOK cxOK cxW Try.func84 (by kernel_rfl) (f84_e2 x1 x6) ⟨h1, h2, ch8, trivial⟩
      | c1 =>
        try dsimp only at h
        obtain rfl := Option.some.inj h
        exact callOK cxOK cxW Try.func84 (by kernel_rfl) (f84_e3 x1) ⟨h1, h2, ch8, trivial⟩

theorem f85_p0_ok (F : Nat) (x1 : List Int) (r : Unit) (h : f85_p0 F x1 = some r) : f85_p0_P x1 r := by
  unfold f85_p0 at h
  by_cases h1 : (decide (((List.length x1 : Nat) : Int) < 1)) = true
  · rw [if_pos h1] at h
    cases h
  · rw [if_neg h1] at h
    have h1 := Bool.eq_false_iff.2 h1
    obtain rfl := Option.some.inj h
    exact gRun_ok cxOK (f85_p0_e0 x1) ⟨h1, trivial⟩
theorem f85_p2_ok (F : Nat) (x1 : List Int) : ∀ (k : Nat) (x3 x4 : Int) (r : Int), f85_p2 F x1 k x3 x4 = some r → f85_p2_P x1 x3 x4 r
  | 0, _, _, _, h => by cases h
  | k + 1, x3, x4, r, h => by
    unfold f85_p2 at h
    by_cases h4 : (decide (x4 < ((List.length x1 : Nat) : Int))) = true
    · rw [if_pos h4] at h
      obtain ⟨x5, h5, h⟩ := bind_some h
      try dsimp only at h
      exact Lp.again (gRun_ok cxOK (f85_p2_e0 x1 x3 x4 x5) ⟨h4, ⟨(at?_spec h5).1, x5, (at?_spec h5).2, rfl⟩, trivial⟩) (f85_p2_ok F x1 k (if x5 < x3 then x5 else x3) (w64 (x4 + 1)) r h)
    · rw [if_neg h4] at h
      have h4 := Bool.eq_false_iff.2 h4
      obtain rfl := Option.some.inj h
      exact Lp.out (gRun_ok cxOK (f85_p2_e1 x1 x3 x4) ⟨h4, trivial⟩) (by intro hh; cases hh)
theorem f85_ok (F : Nat) (x1 : List Int) (r : Int) (h : f85 F x1 = some r) : f85_C x1 r := by
  unfold f85 at h
  obtain ⟨rh2, h2, h⟩ := bind_some h
  have ch2 := f85_p0_ok F x1 _ h2
  try dsimp only at h
  obtain ⟨x2, h3, h⟩ := bind_some h
  try dsimp only at h
  obtain ⟨x6, h6, h⟩ := bind_some h
  have ch6 := f85_p2_ok F x1 F x2 1 _ h6
  try dsimp only at h
  obtain rfl := Option.some.inj h
  exact callOK cxOK cxW Try.func85 (by kernel_rfl) (f85_e0 x1 x2 x6) ⟨ch2, ⟨(at?_spec h3).1, x2, (at?_spec h3).2, rfl⟩, ch6, trivial⟩

theorem f86_p0_ok (F : Nat) (x1 : List Int) (r : Unit) (h : f86_p0 F x1 = some r) : f86_p0_P x1 r := by
  unfold f86_p0 at h
  by_cases h1 : (decide (((List.length x1 : Nat) : Int) < 1)) = true
  · rw [if_pos h1] at h
    cases h
  · rw [if_neg h1] at h
    have h1 := Bool.eq_false_iff.2 h1
    obtain rfl := Option.some.inj h
    exact gRun_ok cxOK (f86_p0_e0 x1) ⟨h1, trivial⟩
theorem f86_p2_ok (F : Nat) (x1 : List Int) : ∀ (k : Nat) (x3 x4 : Int) (r : Int), f86_p2 F x1 k x3 x4 = some r → f86_p2_P x1 x3 x4 r
  | 0, _, _, _, h => by cases h
  | k + 1, x3, x4, r, h => by
    unfold f86_p2 at h
    by_cases h4 : (decide (x4 < ((List.length x1 : Nat) : Int))) = true
    · rw [if_pos h4] at h
      obtain ⟨x5, h5, h⟩ := bind_some h
      try dsimp only at h
      exact Lp.again (gRun_ok cxOK (f86_p2_e0 x1 x3 x4 x5) ⟨h4, ⟨(at?_spec h5).1, x5, (at?_spec h5).2, rfl⟩, trivial⟩) (f86_p2_ok F x1 k (if x5 > x3 then x5 else x3) (w64 (x4 + 1)) r h)
    · rw [if_neg h4] at h
      have h4 := Bool.eq_false_iff.2 h4
      obtain rfl := Option.some.inj h
      exact Lp.out (gRun_ok cxOK (f86_p2_e1 x1 x3 x4) ⟨h4, trivial⟩) (by intro hh; cases hh)
theorem f86_ok (F : Nat) (x1 : List Int) (r : Int) (h : f86 F x1 = some r) : f86_C x1 r := by
  unfold f86 at h
  obtain ⟨rh2, h2, h⟩ := bind_some h
  have ch2 := f86_p0_ok F x1 _ h2
  try dsimp only at h
  obtain ⟨x2, h3, h⟩ := bind_some h
  try dsimp only at h
  obtain ⟨x6, h6, h⟩ := bind_some h
  have ch6 := f86_p2_ok F x1 F x2 1 _ h6
  try dsimp only at h
  obtain rfl := Option.some.inj h
  exact callOK cxOK cxW Try.func86 (by kernel_rfl) (f86_e0 x1 x2 x6) ⟨ch2, ⟨(at?_spec h3).1, x2, (at?_spec h3).2, rfl⟩, ch6, trivial⟩

theorem f77_ok (F : Nat) (x1 x2 : List Int) (r : (List Int) × (List Int) × Int) (h : f77 F x1 x2 = some r) : f77_C x1 x2 r := by
  unfold f77 at h
  obtain ⟨x3, h1, h⟩ := bind_some h
  have ch1 := f84_ok F x1 _ h1
  try dsimp only at h
  by_cases h2 : (x3 != 0) = true
  · rw [if_pos h2] at h
    obtain rfl := Option.some.inj h
    exact callOK cxOK cxW Try.func77 (by kernel_rfl) (f77_e0 x1 x2 x3) ⟨ch1, h2, trivial⟩
  · rw [if_neg h2] at h
    have h2 := Bool.eq_false_iff.2 h2
    by_cases h3 : (((List.length x2 : Nat) : Int) != ((List.length x1 : Nat) : Int)) = true
    · rw [if_pos h3] at h
      obtain rfl := Option.some.inj h
      exact callOK cxOK cxW Try.func77 (by kernel_rfl) (f77_e1 x1 x2 x3) ⟨ch1, h2, h3, trivial⟩
    · rw [if_neg h3] at h
      have h3 := Bool.eq_false_iff.2 h3
      obtain ⟨x4, h4, h⟩ := bind_some h
      have ch4 := f85_ok F x2 _ h4
      try dsimp only at h
      by_cases h5 : (decide (x4 < 0)) = true
      · rw [if_pos h5] at h
        obtain rfl := Option.some.inj h
        exact callOK cxOK cxW Try.func77 (by kernel_rfl) (f77_e2 x1 x2 x3 x4) ⟨ch1, h2, h3, ch4, h5, h5, h5, h5, rfl, trivial⟩
      · rw [if_neg h5] at h
        have h5 := Bool.eq_false_iff.2 h5
        obtain ⟨x5, h6, h⟩ := bind_some h
        have ch6 := f86_ok F x2 _ h6
        try dsimp only at h
        by_cases h7 : (decide (x5 > 40)) = true
        · rw [if_pos h7] at h
          obtain rfl := Option.some.inj h
          exact callOK cxOK cxW Try.func77 (by kernel_rfl) (f77_e3 x1 x2 x3 x4 x5) ⟨ch1, h2, h3, ch4, h5, h5, ch6, h5, h5, h7, trivial⟩
        · rw [if_neg h7] at h
          have h7 := Bool.eq_false_iff.2 h7
          obtain rfl := Option.some.inj h
          exact callOK cxOK cxW Try.func77 (by kernel_rfl) (f77_e4 x1 x2 x3 x4 x5) ⟨ch1, h2, h3, ch4, h5, h5, ch6, h5, h5, h7, trivial⟩

theorem f71_p0_ok (F : Nat) (x6 : Int) (x7 : Bool) (x4 x5 : List Int) (r : Int) (h : f71_p0 F x6 x7 x4 x5 = some r) : f71_p0_P x6 x7 x4 x5 r := by
  unfold f71_p0 at h
  by_cases h4 : x7 = true
  · rw [if_pos h4] at h
    obtain rfl := Option.some.inj h
    exact gRun_ok cxOK (f71_p0_e0 x4 x5 x6 x7) ⟨(by rw [h4]; rfl), trivial⟩
  · rw [if_neg h4] at h
    have h4 := Bool.eq_false_iff.2 h4
    obtain rfl := Option.some.inj h
    exact gRun_ok cxOK (f71_p0_e1 x4 x5 x6 x7) ⟨(by rw [h4]; rfl), trivial⟩
theorem f71_ok (F : Nat) (x1 x2 : List Int) (x3 : Int) (r : (List Int) × (List Int) × Int) (h : f71 F x1 x2 x3 = some r) : f71_C x1 x2 x3 r := by
  unfold f71 at h
  obtain ⟨rh1, h1, h⟩ := bind_some h
  have ch1 := f77_ok F x1 x2 _ h1
  obtain ⟨x4, x5, x6⟩ := rh1
  try dsimp only at h
  by_cases h2 : (x6 == 0) = true
  · rw [if_pos h2] at h
    obtain ⟨x7, h3, h⟩ := bind_some h
    have ch3 := f78_ok F x3 0 1000 _ h3
    try dsimp only at h
    obtain ⟨x8, h5, h⟩ := bind_some h
    have ch5 := f71_p0_ok F x6 x7 x4 x5 _ h5
    try dsimp only at h
    obtain rfl := Option.some.inj h
    exact callOK cxOK cxW Try.func71 (by kernel_rfl) (f71_e0 x1 x2 x3 x4 x5 x6 x7 x8) ⟨ch1, h2, h2, ch3, h2, h2, ch5, trivial⟩
  · rw [if_neg h2] at h
    have h2 := Bool.eq_false_iff.2 h2
    obtain rfl := Option.some.inj h
    exact callOK cxOK cxW Try.func71 (by kernel_rfl) (f71_e1 x1 x2 x3 x4 x5 x6) ⟨ch1, h2, h2, h2, h2, rfl, trivial⟩

theorem f79_1_ok (F : Nat) (x1 : Int) (x2 : List Int) (x3 x4 x5 : Int) (r : Int) (h : f79_1 F x1 x2 x3 x4 x5 = some r) : f79_1_C x1 x2 x3 x4 x5 r := by
  unfold f79_1 at h
  obtain ⟨x6, h1, h⟩ := bind_some h
  try dsimp only at h
  obtain rfl := Option.some.inj h
  exact callOK cxOK cxW Try.func79 (by kernel_rfl) (f79_1_e0 x1 x2 x3 x4 x5 x6) ⟨⟨(at?_spec h1).1, x6, (at?_spec h1).2, rfl⟩, trivial⟩

theorem f72_p1_ok (F : Nat) (x3 : Int) (x1 x2 : List Int) : ∀ (k : Nat) (x6 : Int) (x5 : List Int) (r : (List Int)), f72_p1 F x3 x1 x2 k x6 x5 = some r → f72_p1_P x3 x1 x2 x6 x5 r
  | 0, _, _, _, h => by cases h
  | k + 1, x6, x5, r, h => by
    unfold f72_p1 at h
    by_cases h5 : (decide (x6 < (((Int.toNat (w64 (x3 + 1))) : Nat) : Int))) = true
    · rw [if_pos h5] at h
      obtain ⟨h6, h⟩ := req_some h
      obtain ⟨h7, h⟩ := req_some h
      exact Lp.again (gRun_ok cxOK (f72_p1_e0 x1 x2 x3 x5 x6) ⟨h5, h6, h7, trivial⟩) (f72_p1_ok F x3 x1 x2 k (w64 (x6 + 1)) (List.set x5 (0 + (Int.toNat x6)) 1001) r h)
    · rw [if_neg h5] at h
      have h5 := Bool.eq_false_iff.2 h5
      obtain rfl := Option.some.inj h
      exact Lp.out (gRun_ok cxOK (f72_p1_e1 x1 x2 x3 x5 x6) ⟨h5, trivial⟩) (by intro hh; cases hh)
theorem f72_p17_17_ok (F : Nat) (x3 : Int) (x1 : List Int) (x134 x137 : Int) (x136 x167 : Int) (x2 x135 : List Int) (x133 : List (List Int)) (x179 x180 : List Int) (x182 : Int) : ∀ (k : Nat) (x183 : List Int) (r : (List Int)), f72_p17_17 F x3 x1 x134 x137 x136 x167 x2 x135 x133 x179 x180 x182 k x183 = some r → f72_p17_17_P x3 x1 x134 x137 x136 x167 x2 x135 x133 x179 x180 x182 x183 r
  | 0, _, _, h => by cases h
  | k + 1, x183, r, h => by
    unfold f72_p17_17 at h
    by_cases h343 : (decide ((((List.length x183) : Nat) : Int) > 0)) = true
    · rw [if_pos h343] at h
      obtain ⟨h344, h⟩ := req_some h
      obtain ⟨x184, h345, h⟩ := bind_some h
      try dsimp only at h
      obtain ⟨x185, h346, h⟩ := bind_some h
      have ch346 := f79_1_ok F x184 x135 x136 x167 x182 _ h346
      try dsimp only at h
      obtain ⟨x186, h347, h⟩ := bind_some h
      have ch347 := f79_1_ok F x182 x135 x136 x167 x182 _ h347
      try dsimp only at h
      by_cases h348 : (decide (x185 ≥ x186)) = true
      · rw [if_pos h348] at h
        obtain ⟨h349, h⟩ := req_some h
        obtain ⟨h350, h⟩ := req_some h
        exact Lp.again (gRun_ok cxOK (f72_p17_17_e0 x1 x2 x3 x133 x134 x135 x136 x137 x167 x179 x180 x182 x183 x184 x185 x186) ⟨h343, h343, h343, h343, h343, h343, h344, h343, ⟨x184, h345, rfl⟩, h343, ch346, h343, h343, h343, ch347, h343, h343, h348, h349, (Nat.le_refl _), h350, trivial⟩) (f72_p17_17_ok F x3 x1 x134 x137 x136 x167 x2 x135 x133 x179 x180 x182 k (List.drop 0 (List.take (Int.toNat (w64 ((((List.length x183) : Nat) : Int) - 1))) x183)) r h)
      · rw [if_neg h348] at h
        have h348 := Bool.eq_false_iff.2 h348
        obtain rfl := Option.some.inj h
        exact Lp.out (gRun_ok cxOK (f72_p17_17_e1 x1 x2 x3 x133 x134 x135 x136 x137 x167 x179 x180 x182 x183 x184 x185 x186) ⟨h343, h343, h343, h343, h343, h343, h344, h343, ⟨x184, h345, rfl⟩, h343, ch346, h343, h343, h343, ch347, h343, h343, h348, trivial⟩) (by intro hh; cases hh)
    · rw [if_neg h343] at h
      have h343 := Bool.eq_false_iff.2 h343
      obtain rfl := Option.some.inj h
      exact Lp.out (gRun_ok cxOK (f72_p17_17_e2 x1 x2 x3 x133 x134 x135 x136 x137 x167 x179 x180 x182 x183) ⟨h343, h343, h343, h343, h343, h343, h343, h343, h343, h343, h343, h343, h343, rfl, trivial⟩) (by intro hh; cases hh)
theorem f72_p20_17_ok (F : Nat) (x3 : Int) (x1 : List Int) (x134 x137 : Int) (x187 : List Int) (x182 x136 : Int) (x167 x188 : Int) (x2 x135 : List Int) (x133 : List (List Int)) (x179 x180 : List Int) (r : (List Int)) (h : f72_p20_17 F x3 x1 x134 x137 x187 x182 x136 x167 x188 x2 x135 x133 x179 x180 = some r) : f72_p20_17_P x3 x1 x134 x137 x187 x182 x136 x167 x188 x2 x135 x133 x179 x180 r := by
  unfold f72_p20_17 at h
  by_cases h355 : (decide (x188 < (w64 (x182 - x137)))) = true
  · rw [if_pos h355] at h
    obtain ⟨h356, h⟩ := req_some h
    obtain ⟨h357, h⟩ := req_some h
    obtain rfl := Option.some.inj h
    exact gRun_ok cxOK (f72_p20_17_e0 x1 x2 x3 x133 x134 x135 x136 x137 x167 x179 x180 x182 x187 x188) ⟨h355, h356, (Nat.le_refl _), h357, trivial⟩
  · rw [if_neg h355] at h
    have h355 := Bool.eq_false_iff.2 h355
    obtain rfl := Option.some.inj h
    exact gRun_ok cxOK (f72_p20_17_e1 x1 x2 x3 x133 x134 x135 x136 x137 x167 x179 x180 x182 x187 x188) ⟨h355, trivial⟩
theorem f72_p13_5_ok (F : Nat) (x3 : Int) (x1 : List Int) (x134 x137 : Int) (x136 x167 : Int) (x2 x135 : List Int) (x133 : List (List Int)) : ∀ (k : Nat) (x179 x180 : List Int) (x182 : Int) (x181 : List Int) (r : (List Int) × (List Int)), f72_p13_5 F x3 x1 x134 x137 x136 x167 x2 x135 x133 k x179 x180 x182 x181 = some r → f72_p13_5_P x3 x1 x134 x137 x136 x167 x2 x135 x133 x179 x180 x182 x181 r
  | 0, _, _, _, _, _, h => by cases h
  | k + 1, x179, x180, x182, x181, r, h => by
    unfold f72_p13_5 at h
    by_cases h342 : (decide ((w64 (x167 + (w64 (x182 * x136)))) ≤ x3)) = true
    · rw [if_pos h342] at h
      obtain ⟨x187, h351, h⟩ := bind_some h
      have ch351 := f72_p17_17_ok F x3 x1 x134 x137 x136 x167 x2 x135 x133 x179 x180 x182 F x181 _ h351
      try dsimp only at h
      obtain ⟨h352, h⟩ := req_some h
      obtain ⟨h353, h⟩ := req_some h
      obtain ⟨x188, h354, h⟩ := bind_some h
      try dsimp only at h
      obtain ⟨x189, h358, h⟩ := bind_some h
      have ch358 := f72_p20_17_ok F x3 x1 x134 x137 x187 x182 x136 x167 x188 x2 x135 x133 x179 x180 _ h358
      try dsimp only at h
      obtain ⟨h359, h⟩ := req_some h
      obtain ⟨x190, h360, h⟩ := bind_some h
      try dsimp only at h
      obtain ⟨x191, h361, h⟩ := bind_some h
      have ch361 := f79_1_ok F x190 x135 x136 x167 x182 _ h361
      try dsimp only at h
      obtain ⟨h362, h⟩ := req_some h
      obtain ⟨h363, h⟩ := req_some h
      obtain ⟨h364, h⟩ := req_some h
      exact Lp.again (gRun_ok cxOK (f72_p13_5_e0 x1 x2 x3 x133 x134 x135 x136 x137 x167 x179 x180 x181 x182 x187 x188 x189 x190 x191) ⟨h342, ch351, h352, rfl, h353, ⟨x188, h354, rfl⟩, ch358, h359, ⟨x190, h360, rfl⟩, ch361, h359, ⟨x190, h360, rfl⟩, h362, h363, h362, h364, trivial⟩) (f72_p13_5_ok F x3 x1 x134 x137 x136 x167 x2 x135 x133 k (List.set x179 (0 + (Int.toNat (w64 (x167 + (w64 (x182 * x136)))))) (if x191 < 1001 then x191 else 1001)) (List.set x180 (0 + (Int.toNat (w64 (x167 + (w64 (x182 * x136)))))) (w64 (x182 - x190))) (w64 (x182 + 1)) x189 r h)
    · rw [if_neg h342] at h
      have h342 := Bool.eq_false_iff.2 h342
      obtain rfl := Option.some.inj h
      exact Lp.out (gRun_ok cxOK (f72_p13_5_e1 x1 x2 x3 x133 x134 x135 x136 x137 x167 x179 x180 x181 x182) ⟨h342, trivial⟩) (by intro hh; cases hh)
theorem f72_p9_2_ok (F : Nat) (x3 : Int) (x1 : List Int) (x134 x137 x136 : Int) (x2 x135 : List Int) (x133 : List (List Int)) : ∀ (k : Nat) (x167 : Int) (x165 x166 : List Int) (r : (List Int) × (List Int)), f72_p9_2 F x3 x1 x134 x137 x136 x2 x135 x133 k x167 x165 x166 = some r → f72_p9_2_P x3 x1 x134 x137 x136 x2 x135 x133 x167 x165 x166 r
  | 0, _, _, _, _, h => by cases h
  | k + 1, x167, x165, x166, r, h => by
    unfold f72_p9_2 at h
    by_cases h311 : (decide (x167 < (if (w64 (x3 + 1)) < x136 then (w64 (x3 + 1)) else x136))) = true
    · rw [if_pos h311] at h
      obtain ⟨rh365, h365, h⟩ := bind_some h
      have ch365 := f72_p13_5_ok F x3 x1 x134 x137 x136 x167 x2 x135 x133 F x165 x166 0 ([] : List Int) _ h365
      obtain ⟨x192, x193⟩ := rh365
      try dsimp only at h
      exact Lp.again (gRun_ok cxOK (f72_p9_2_e0 x1 x2 x3 x133 x134 x135 x136 x137 x165 x166 x167 x192 x193) ⟨h311, ch365, trivial⟩) (f72_p9_2_ok F x3 x1 x134 x137 x136 x2 x135 x133 k (w64 (x167 + 1)) x192 x193 r h)
    · rw [if_neg h311] at h
      have h311 := Bool.eq_false_iff.2 h311
      obtain rfl := Option.some.inj h
      exact Lp.out (gRun_ok cxOK (f72_p9_2_e1 x1 x2 x3 x133 x134 x135 x136 x137 x165 x166 x167) ⟨h311, trivial⟩) (by intro hh; cases hh)
theorem f72_p5_ok (F : Nat) (x3 : Int) (x1 x2 : List Int) : ∀ (k : Nat) (x134 : Int) (x135 : List Int) (x133 : List (List Int)) (r : (List Int) × (List (List Int))), f72_p5 F x3 x1 x2 k x134 x135 x133 = some r → f72_p5_P x3 x1 x2 x134 x135 x133 r
  | 0, _, _, _, _, h => by cases h
  | k + 1, x134, x135, x133, r, h => by
    unfold f72_p5 at h
    by_cases h253 : (decide (x134 ≥ 0)) = true
    · rw [if_pos h253] at h
      obtain ⟨x136, h254, h⟩ := bind_some h
      try dsimp only at h
      obtain ⟨x137, h255, h⟩ := bind_some h
      try dsimp only at h
      obtain ⟨h256, h⟩ := req_some h
      obtain ⟨rh366, h366, h⟩ := bind_some h
      have ch366 := f72_p9_2_ok F x3 x1 x134 x137 x136 x2 x135 x133 F 0 (List.replicate (Int.toNat (w64 (x3 + 1))) (0 : Int)) (List.replicate (Int.toNat (w64 (x3 + 1))) (0 : Int)) _ h366
      obtain ⟨x194, x195⟩ := rh366
      try dsimp only at h
      obtain ⟨h369, h⟩ := req_some h
      obtain ⟨h370, h⟩ := req_some h
      obtain ⟨h371, h⟩ := req_some h
      obtain ⟨h372, h⟩ := req_some h
      exact Lp.again (gRun_ok cxOK (f72_p5_e0 x1 x2 x3 x133 x134 x135 x136 x137 x194 x195) ⟨h253, ⟨(at?_spec h254).1, x136, (at?_spec h254).2, rfl⟩, ⟨(at?_spec h255).1, x137, (at?_spec h255).2, rfl⟩, h256, h256, ch366, h369, h370, h371, h372, trivial⟩) (f72_p5_ok F x3 x1 x2 k (w64 (x134 - 1)) (List.drop 0 (List.take (0 + (Int.toNat (w64 (x3 + 1)))) x194)) (List.set x133 (0 + (Int.toNat x134)) (List.drop 0 (List.take (0 + (Int.toNat (w64 (x3 + 1)))) x195))) r h)
    · rw [if_neg h253] at h
      have h253 := Bool.eq_false_iff.2 h253
      obtain rfl := Option.some.inj h
      exact Lp.out (gRun_ok cxOK (f72_p5_e1 x1 x2 x3 x133 x134 x135) ⟨h253, trivial⟩) (by intro hh; cases hh)
theorem f72_p23_ok (F : Nat) (x1 x2 : List Int) (x197 : List (List Int)) : ∀ (k : Nat) (x205 x206 : Int) (x204 : List Int) (r : (List Int)), f72_p23 F x1 x2 x197 k x205 x206 x204 = some r → f72_p23_P x1 x2 x197 x205 x206 x204 r
  | 0, _, _, _, _, h => by cases h
  | k + 1, x205, x206, x204, r, h => by
    unfold f72_p23 at h
    by_cases h382 : (decide (x206 < (((Int.toNat ((List.length x1 : Nat) : Int)) : Nat) : Int))) = true
    · rw [if_pos h382] at h
      obtain ⟨h383, h⟩ := req_some h
      obtain ⟨x207, h384, h⟩ := bind_some h
      try dsimp only at h
      obtain ⟨x208, h385, h⟩ := bind_some h
      try dsimp only at h
      obtain ⟨h386, h⟩ := req_some h
      obtain ⟨x209, h387, h⟩ := bind_some h
      try dsimp only at h
      exact Lp.again (gRun_ok cxOK (f72_p23_e0 x1 x2 x197 x204 x205 x206 x207 x208 x209) ⟨h382, h383, ⟨x207, h384, rfl⟩, ⟨(at?_spec h385).1, x208, (at?_spec h385).2, rfl⟩, h386, rfl, ⟨(at?_spec h385).1, x208, (at?_spec h385).2, rfl⟩, ⟨(at?_spec h387).1, x209, (at?_spec h387).2, rfl⟩, trivial⟩) (f72_p23_ok F x1 x2 x197 k (w64 (x205 - (w64 (x208 * x209)))) (w64 (x206 + 1)) (x204 ++ ([x208] : List Int)) r h)
    · rw [if_neg h382] at h
      have h382 := Bool.eq_false_iff.2 h382
      obtain rfl := Option.some.inj h
      exact Lp.out (gRun_ok cxOK (f72_p23_e1 x1 x2 x197 x204 x205 x206) ⟨h382, trivial⟩) (by intro hh; cases hh)
theorem f72_ok (F : Nat) (x1 x2 : List Int) (x3 : Int) (r : (List Int) × Int) (h : f72 F x1 x2 x3 = some r) : f72_C x1 x2 x3 r := by
  unfold f72 at h
  obtain ⟨h1, h⟩ := req_some h
  obtain ⟨x7, h8, h⟩ := bind_some h
  have ch8 := f72_p1_ok F x3 x1 x2 F 0 (List.replicate (Int.toNat (w64 (x3 + 1))) (0 : Int)) _ h8
  try dsimp only at h
  obtain ⟨h9, h⟩ := req_some h
  obtain ⟨h10, h⟩ := req_some h
  obtain ⟨h11, h⟩ := req_some h
  obtain ⟨h252, h⟩ := req_some h
  obtain ⟨rh373, h373, h⟩ := bind_some h
  have ch373 := f72_p5_ok F x3 x1 x2 F (w64 (((List.length x1 : Nat) : Int) - 1)) (List.drop 0 (List.take (0 + (Int.toNat (w64 (x3 + 1)))) (List.set x7 0 0))) (List.replicate (Int.toNat ((List.length x1 : Nat) : Int)) ([] : (List Int))) _ h373
  obtain ⟨x196, x197⟩ := rh373
  try dsimp only at h
  obtain ⟨x198, h374, h⟩ := bind_some h
  try dsimp only at h
  by_cases h375 : (x198 == 1001) = true
  · rw [if_pos h375] at h
    obtain rfl := Option.some.inj h
    exact callOK cxOK cxW Try.func72 (by kernel_rfl) (f72_e0 x1 x2 x3 x7 x196 x197 x198) ⟨h1, ch8, h9, h10, h11, h252, h252, ch373, ⟨(at?_spec h374).1, x198, (at?_spec h374).2, rfl⟩, h375, trivial⟩
  · rw [if_neg h375] at h
    have h375 := Bool.eq_false_iff.2 h375
    obtain ⟨x210, h388, h⟩ := bind_some h
    have ch388 := f72_p23_ok F x1 x2 x197 F x3 0 ([] : List Int) _ h388
    try dsimp only at h
    obtain rfl := Option.some.inj h
    exact callOK cxOK cxW Try.func72 (by kernel_rfl) (f72_e1 x1 x2 x3 x7 x196 x197 x198 x210) ⟨h1, ch8, h9, h10, h11, h252, h252, ch373, ⟨(at?_spec h374).1, x198, (at?_spec h374).2, rfl⟩, h375, ch388, (Nat.le_of_eq (Nat.zero_add _)), trivial⟩

theorem f65_ok (F : Nat) (x1 x2 : List Int) (x3 : Int) (r : (List Int) × Int) (h : f65 F x1 x2 x3 = some r) : f65_C x1 x2 x3 r := by
  unfold f65 at h
  obtain ⟨rh1, h1, h⟩ := bind_some h
  have ch1 := f71_ok F x1 x2 x3 _ h1
  obtain ⟨x4, x5, x6⟩ := rh1
  try dsimp only at h
  by_cases h2 : (x6 != 0) = true
  · rw [if_pos h2] at h
    obtain rfl := Option.some.inj h
    exact callOK cxOK cxW Try.func65 (by kernel_rfl) (f65_e0 x1 x2 x3 x4 x5 x6) ⟨ch1, h2, trivial⟩
  · rw [if_neg h2] at h
    have h2 := Bool.eq_false_iff.2 h2
    obtain ⟨rh3, h3, h⟩ := bind_some h
    have ch3 := f72_ok F x4 x5 x3 _ h3
    obtain ⟨x7, x8⟩ := rh3
    try dsimp only at h
    obtain rfl := Option.some.inj h
    exact callOK cxOK cxW Try.func65 (by kernel_rfl) (f65_e1 x1 x2 x3 x4 x5 x6 x7 x8) ⟨ch1, h2, ch3, trivial⟩

theorem f81_ok (F : Nat) (x1 x2 x3 : Int) (r : Bool) (h : f81 F x1 x2 x3 = some r) : f81_C x1 x2 x3 r := by
  unfold f81 at h
  by_cases h1 : (decide (x1 ≤ x2)) = true
  · rw [if_pos h1] at h
    obtain rfl := Option.some.inj h
    exact callOK cxOK cxW Try.func81 (by kernel_rfl) (f81_e0 x1 x2 x3) ⟨h1, h1, h1, h1, trivial⟩
  · rw [if_neg h1] at h
    have h1 := Bool.eq_false_iff.2 h1
    obtain rfl := Option.some.inj h
    exact callOK cxOK cxW Try.func81 (by kernel_rfl) (f81_e1 x1 x2 x3) ⟨h1, h1, h1, h1, trivial⟩

theorem f80_ok (F : Nat) (x1 x2 : Int) (r : Bool) (h : f80 F x1 x2 = some r) : f80_C x1 x2 r := by
  unfold f80 at h
  obtain ⟨x3, h1, h⟩ := bind_some h
  have ch1 := f81_ok F 0 x1 (w64 (x2 - 1)) _ h1
  try dsimp only at h
  obtain rfl := Option.some.inj h
  exact callOK cxOK cxW Try.func80 (by kernel_rfl) (f80_e0 x1 x2 x3) ⟨ch1, trivial⟩

theorem f68_1_p1_ok (F : Nat) (x1 : List Int) (x2 : Int) : ∀ (k : Nat) (x3 : Int) (r : f68_1_p1_R), f68_1_p1 F x1 x2 k x3 = some r → f68_1_p1_P x1 x2 x3 r
  | 0, _, _, h => by cases h
  | k + 1, x3, r, h => by
    unfold f68_1_p1 at h
    by_cases h1 : (decide (x3 < ((List.length x1 : Nat) : Int))) = true
    · rw [if_pos h1] at h
      obtain ⟨x4, h2, h⟩ := bind_some h
      try dsimp only at h
      obtain ⟨x5, h3, h⟩ := bind_some h
      have ch3 := f80_ok F x4 x2 _ h3
      try dsimp only at h
      by_cases h4 : x5 = true
      · rw [if_pos h4] at h
        obtain rfl := Option.some.inj h
        exact Lp.out (gRun_ok cxOK (f68_1_p1_e0 x1 x2 x3 x4 x5) ⟨h1, ⟨(at?_spec h2).1, x4, (at?_spec h2).2, rfl⟩, ch3, h4, trivial⟩) (by intro hh; cases hh)
      · rw [if_neg h4] at h
        have h4 := Bool.eq_false_iff.2 h4
        exact Lp.again (gRun_ok cxOK (f68_1_p1_e1 x1 x2 x3 x4 x5) ⟨h1, ⟨(at?_spec h2).1, x4, (at?_spec h2).2, rfl⟩, ch3, h4, trivial⟩) (f68_1_p1_ok F x1 x2 k (w64 (x3 + 1)) r h)
    · rw [if_neg h1] at h
      have h1 := Bool.eq_false_iff.2 h1
      obtain rfl := Option.some.inj h
      exact Lp.out (gRun_ok cxOK (f68_1_p1_e2 x1 x2 x3) ⟨h1, trivial⟩) (by intro hh; cases hh)
theorem f68_1_ok (F : Nat) (x1 : List Int) (x2 : Int) (r : Int) (h : f68_1 F x1 x2 = some r) : f68_1_C x1 x2 r := by
  unfold f68_1 at h
  obtain ⟨rh5, h5, h⟩ := bind_some h
  have ch5 := f68_1_p1_ok F x1 x2 F 0 _ h5
  cases rh5 with
  | c0 x6 =>
    try dsimp only at h
    obtain rfl := Option.some.inj h
    exact callOK cxOK cxW Try.func68 (by kernel_rfl) (f68_1_e0 x1 x2 x6) ⟨ch5, trivial⟩
  | c1 =>
    try dsimp only at h
    obtain rfl := Option.some.inj h
    exact callOK cxOK cxW Try.func68 (by kernel_rfl) (f68_1_e1 x1 x2) ⟨ch5, trivial⟩

theorem f60_1_ok (F : Nat) (x1 : List Int) (x2 : Int) (r : Bool) (h : f60_1 F x1 x2 = some r) : f60_1_C x1 x2 r := by
  unfold f60_1 at h
  obtain ⟨x3, h1, h⟩ := bind_some h
  have ch1 := f68_1_ok F x1 x2 _ h1
  try dsimp only at h
  obtain rfl := Option.some.inj h
  exact callOK cxOK cxW Try.func60 (by kernel_rfl) (f60_1_e0 x1 x2 x3) ⟨ch1, trivial⟩

theorem f73_p5_ok (F : Nat) (x1 : List Int) : ∀ (k : Nat) (x5 x6 : Int) (r : Int), f73_p5 F x1 k x5 x6 = some r → f73_p5_P x1 x5 x6 r
  | 0, _, _, _, h => by cases h
  | k + 1, x5, x6, r, h => by
    unfold f73_p5 at h
    by_cases h7 : (decide (x5 < ((List.length x1 : Nat) : Int))) = true
    · rw [if_pos h7] at h
      obtain ⟨x7, h8, h⟩ := bind_some h
      try dsimp only at h
      exact Lp.again (gRun_ok cxOK (f73_p5_e0 x1 x5 x6 x7) ⟨h7, ⟨(at?_spec h8).1, x7, (at?_spec h8).2, rfl⟩, trivial⟩) (f73_p5_ok F x1 k (w64 (x5 + 1)) (w64 (x6 - x7)) r h)
    · rw [if_neg h7] at h
      have h7 := Bool.eq_false_iff.2 h7
      obtain rfl := Option.some.inj h
      exact Lp.out (gRun_ok cxOK (f73_p5_e1 x1 x5 x6) ⟨h7, trivial⟩) (by intro hh; cases hh)
theorem f73_ok (F : Nat) (x1 : List Int) (r : Int) (h : f73 F x1 = some r) : f73_C x1 r := by
  unfold f73 at h
  by_cases h1 : (((List.length x1 : Nat) : Int) == 0) = true
  · rw [if_pos h1] at h
    obtain rfl := Option.some.inj h
    exact callOK cxOK cxW Try.func73 (by kernel_rfl) (f73_e0 x1) ⟨h1, trivial⟩
  · rw [if_neg h1] at h
    have h1 := Bool.eq_false_iff.2 h1
    by_cases h2 : (decide (((List.length x1 : Nat) : Int) > 7)) = true
    · rw [if_pos h2] at h
      obtain rfl := Option.some.inj h
      exact callOK cxOK cxW Try.func73 (by kernel_rfl) (f73_e1 x1) ⟨h1, h2, trivial⟩
    · rw [if_neg h2] at h
      have h2 := Bool.eq_false_iff.2 h2
      obtain ⟨x2, h3, h⟩ := bind_some h
      have ch3 := f60_1_ok F x1 ((List.length x1 : Nat) : Int) _ h3
      try dsimp only at h
      by_cases h4 : x2 = true
      · rw [if_pos h4] at h
        obtain rfl := Option.some.inj h
        exact callOK cxOK cxW Try.func73 (by kernel_rfl) (f73_e2 x1 x2) ⟨h1, h2, ch3, h4, trivial⟩
      · rw [if_neg h4] at h
        have h4 := Bool.eq_false_iff.2 h4
        obtain ⟨x8, h9, h⟩ := bind_some h
        have ch9 := f73_p5_ok F x1 F 0 ((List.length x1 : Nat) : Int) _ h9
        try dsimp only at h
        by_cases h10 : ((w64 (((List.length x1 : Nat) : Int) - x8)) != (w64 (Int.tdiv (w64 (((List.length x1 : Nat) : Int) * (w64 (((List.length x1 : Nat) : Int) - 1)))) 2))) = true
        · rw [if_pos h10] at h
          obtain rfl := Option.some.inj h
          exact callOK cxOK cxW Try.func73 (by kernel_rfl) (f73_e3 x1 x2 x8) ⟨h1, h2, ch3, h4, ch9, (by decide), h10, trivial⟩
        · rw [if_neg h10] at h
          have h10 := Bool.eq_false_iff.2 h10
          obtain rfl := Option.some.inj h
          exact callOK cxOK cxW Try.func73 (by kernel_rfl) (f73_e4 x1 x2 x8) ⟨h1, h2, ch3, h4, ch9, (by decide), h10, trivial⟩

theorem f82_ok (F : Nat) (x1 : Int) (r : Int) (h : f82 F x1 = some r) : f82_C x1 r := by
  unfold f82 at h
  obtain ⟨h1, h⟩ := req_some h
  obtain rfl := Option.some.inj h
  exact callOK cxOK cxW Try.func82 (by kernel_rfl) (f82_e0 x1) ⟨h1, trivial⟩

theorem f75_p1_ok (F : Nat) : ∀ (k : Nat) (x5 : Int) (x4 : List Int) (r : (List Int)), f75_p1 F k x5 x4 = some r → f75_p1_P x5 x4 r
  | 0, _, _, _, h => by cases h
  | k + 1, x5, x4, r, h => by
    unfold f75_p1 at h
    by_cases h4 : (x5 != 0) = true
    · rw [if_pos h4] at h
      obtain ⟨x6, h5, h⟩ := bind_some h
      have ch5 := f82_ok F x5 _ h5
      try dsimp only at h
      obtain ⟨h6, h⟩ := req_some h
      exact Lp.again (gRun_ok cxOK (f75_p1_e0 x4 x5 x6) ⟨h4, ch5, h6, rfl, trivial⟩) (f75_p1_ok F k (iAnd .u8 x5 (IntKind.wrap .u8 (x5 - 1))) (x4 ++ ([x6] : List Int)) r h)
    · rw [if_neg h4] at h
      have h4 := Bool.eq_false_iff.2 h4
      obtain rfl := Option.some.inj h
      exact Lp.out (gRun_ok cxOK (f75_p1_e1 x4 x5) ⟨h4, trivial⟩) (by intro hh; cases hh)
theorem f75_ok (F : Nat) (x1 : Int) (r : (List Int)) (h : f75 F x1 = some r) : f75_C x1 r := by
  unfold f75 at h
  obtain ⟨x7, h7, h⟩ := bind_some h
  have ch7 := f75_p1_ok F F x1 ([] : List Int) _ h7
  try dsimp only at h
  obtain rfl := Option.some.inj h
  exact callOK cxOK cxW Try.func75 (by kernel_rfl) (f75_e0 x1 x7) ⟨ch7, (Nat.le_of_eq (Nat.zero_add _)), trivial⟩

theorem f74_p1_ok (F : Nat) (x1 x3 : List Int) : ∀ (k : Nat) (x4 x5 : Int) (r : Int), f74_p1 F x1 x3 k x4 x5 = some r → f74_p1_P x1 x3 x4 x5 r
  | 0, _, _, _, h => by cases h
  | k + 1, x4, x5, r, h => by
    unfold f74_p1 at h
    by_cases h2 : (decide (x5 < ((List.length x3 : Nat) : Int))) = true
    · rw [if_pos h2] at h
      obtain ⟨x6, h3, h⟩ := bind_some h
      try dsimp only at h
      obtain ⟨x7, h4, h⟩ := bind_some h
      try dsimp only at h
      exact Lp.again (gRun_ok cxOK (f74_p1_e0 x1 x3 x4 x5 x6 x7) ⟨h2, ⟨(at?_spec h3).1, x6, (at?_spec h3).2, rfl⟩, ⟨(at?_spec h4).1, x7, (at?_spec h4).2, rfl⟩, trivial⟩) (f74_p1_ok F x1 x3 k (w64 (x4 - x7)) (w64 (x5 + 1)) r h)
    · rw [if_neg h2] at h
      have h2 := Bool.eq_false_iff.2 h2
      obtain rfl := Option.some.inj h
      exact Lp.out (gRun_ok cxOK (f74_p1_e1 x1 x3 x4 x5) ⟨h2, trivial⟩) (by intro hh; cases hh)
theorem f74_ok (F : Nat) (x1 : List Int) (x2 : Int) (r : Int) (h : f74 F x1 x2 = some r) : f74_C x1 x2 r := by
  unfold f74 at h
  obtain ⟨x3, h1, h⟩ := bind_some h
  have ch1 := f75_ok F x2 _ h1
  try dsimp only at h
  obtain ⟨x8, h5, h⟩ := bind_some h
  have ch5 := f74_p1_ok F x1 x3 F (w64 (Int.tdiv (w64 (((List.length x3 : Nat) : Int) * (w64 (((List.length x3 : Nat) : Int) - 1)))) 2)) 0 _ h5
  try dsimp only at h
  obtain rfl := Option.some.inj h
  exact callOK cxOK cxW Try.func74 (by kernel_rfl) (f74_e0 x1 x2 x3 x8) ⟨ch1, (by decide), ch5, trivial⟩

theorem f83_ok (F : Nat) (x1 x2 : Int) (r : Int) (h : f83 F x1 x2 = some r) : f83_C x1 x2 r := by
  unfold f83 at h
  obtain ⟨x3, h1, h⟩ := bind_some h
  have ch1 := f59_ok F x1 _ h1
  try dsimp only at h
  obtain ⟨x4, h2, h⟩ := bind_some h
  have ch2 := f59_ok F x2 _ h2
  try dsimp only at h
  by_cases h3 : x3 = true
  · rw [if_pos h3] at h
    by_cases h4 : x4 = true
    · rw [if_pos h4] at h
      obtain rfl := Option.some.inj h
      exact callOK cxOK cxW Try.func83 (by kernel_rfl) (f83_e0 x1 x2 x3 x4) ⟨ch1, ch2, h3, h4, trivial⟩
    · rw [if_neg h4] at h
      have h4 := Bool.eq_false_iff.2 h4
      obtain rfl := Option.some.inj h
      exact callOK cxOK cxW Try.func83 (by kernel_rfl) (f83_e1 x1 x2 x3 x4) ⟨ch1, ch2, h3, h4, trivial⟩
  · rw [if_neg h3] at h
    have h3 := Bool.eq_false_iff.2 h3
    by_cases h5 : x4 = true
    · rw [if_pos h5] at h
      obtain rfl := Option.some.inj h
      exact callOK cxOK cxW Try.func83 (by kernel_rfl) (f83_e2 x1 x2 x3 x4) ⟨ch1, ch2, h3, h5, trivial⟩
    · rw [if_neg h5] at h
      have h5 := Bool.eq_false_iff.2 h5
      by_cases h6 : (decide (x1 < x2)) = true
      · rw [if_pos h6] at h
        obtain rfl := Option.some.inj h
        exact callOK cxOK cxW Try.func83 (by kernel_rfl) (f83_e3 x1 x2 x3 x4) ⟨ch1, ch2, h3, h5, h6, trivial⟩
      · rw [if_neg h6] at h
        have h6 := Bool.eq_false_iff.2 h6
        by_cases h7 : (decide (x1 > x2)) = true
        · rw [if_pos h7] at h
          obtain rfl := Option.some.inj h
          exact callOK cxOK cxW Try.func83 (by kernel_rfl) (f83_e4 x1 x2 x3 x4) ⟨ch1, ch2, h3, h5, h6, h7, trivial⟩
        · rw [if_neg h7] at h
          have h7 := Bool.eq_false_iff.2 h7
          obtain rfl := Option.some.inj h
          exact callOK cxOK cxW Try.func83 (by kernel_rfl) (f83_e5 x1 x2 x3 x4) ⟨ch1, ch2, h3, h5, h6, h7, trivial⟩

theorem f76_p1_ok (F : Nat) (x1 : List Int) (x2 : Option (List Int)) : ∀ (k : Nat) (x3 : Int) (r : f76_p1_R), f76_p1 F x1 x2 k x3 = some r → f76_p1_P x1 x2 x3 r
  | 0, _, _, h => by cases h
  | k + 1, x3, r, h => by
    unfold f76_p1 at h
    by_cases h1 : (decide (x3 < ((List.length x1 : Nat) : Int))) = true
    · rw [if_pos h1] at h
      obtain ⟨x4, h2, h⟩ := bind_some h
      try dsimp only at h
      by_cases h3 : (decide (x3 ≥ ((List.length ((x2).getD []) : Nat) : Int))) = true
      · rw [if_pos h3] at h
        obtain rfl := Option.some.inj h
        exact Lp.out (gRun_ok cxOK (f76_p1_e0 x1 x2 x3 x4) ⟨h1, ⟨(at?_spec h2).1, x4, (at?_spec h2).2, rfl⟩, h3, trivial⟩) (by intro hh; cases hh)
      · rw [if_neg h3] at h
        have h3 := Bool.eq_false_iff.2 h3
        obtain ⟨x5, h4, h⟩ := bind_some h
        try dsimp only at h
        obtain ⟨x6, h5, h⟩ := bind_some h
        have ch5 := f83_ok F x4 x5 _ h5
        try dsimp only at h
        by_cases h6 : (x6 != 0) = true
        · rw [if_pos h6] at h
          obtain rfl := Option.some.inj h
          exact Lp.out (gRun_ok cxOK (f76_p1_e1 x1 x2 x3 x4 x5 x6) ⟨h1, ⟨(at?_spec h2).1, x4, (at?_spec h2).2, rfl⟩, h3, ⟨(at?_spec h4).1, x5, (at?_spec h4).2, rfl⟩, ch5, h6, trivial⟩) (by intro hh; cases hh)
        · rw [if_neg h6] at h
          have h6 := Bool.eq_false_iff.2 h6
          exact Lp.again (gRun_ok cxOK (f76_p1_e2 x1 x2 x3 x4 x5 x6) ⟨h1, ⟨(at?_spec h2).1, x4, (at?_spec h2).2, rfl⟩, h3, ⟨(at?_spec h4).1, x5, (at?_spec h4).2, rfl⟩, ch5, h6, trivial⟩) (f76_p1_ok F x1 x2 k (w64 (x3 + 1)) r h)
    · rw [if_neg h1] at h
      have h1 := Bool.eq_false_iff.2 h1
      obtain rfl := Option.some.inj h
      exact Lp.out (gRun_ok cxOK (f76_p1_e3 x1 x2 x3) ⟨h1, trivial⟩) (by intro hh; cases hh)
theorem f76_ok (F : Nat) (x1 : List Int) (x2 : Option (List Int)) (r : Int) (h : f76 F x1 x2 = some r) : f76_C x1 x2 r := by
  unfold f76 at h
  obtain ⟨rh7, h7, h⟩ := bind_some h
  have ch7 := f76_p1_ok F x1 x2 F 0 _ h7
  cases rh7 with
  | c0 x7 =>
    try dsimp only at h
    obtain rfl := Option.some.inj h
    exact callOK cxOK cxW Try.func76 (by kernel_rfl) (f76_e0 x1 x2 x7) ⟨ch7, trivial⟩
  | c1 =>
    try dsimp only at h
    by_cases h8 : (decide (((List.length x1 : Nat) : Int) < ((List.length ((x2).getD []) : Nat) : Int))) = true
    · rw [if_pos h8] at h
      obtain rfl := Option.some.inj h
      exact callOK cxOK cxW Try.func76 (by kernel_rfl) (f76_e1 x1 x2) ⟨ch7, h8, trivial⟩
    · rw [if_neg h8] at h
      have h8 := Bool.eq_false_iff.2 h8
      obtain rfl := Option.some.inj h
      exact callOK cxOK cxW Try.func76 (by kernel_rfl) (f76_e2 x1 x2) ⟨ch7, h8, trivial⟩

theorem f66_p6_ok (F : Nat) (x1 : List Int) (x3 : Option (List Int)) (x4 : Int) (x6 : List Int) (x7 : Int) (r : (Option (List Int))) (h : f66_p6 F x1 x3 x4 x6 x7 = some r) : f66_p6_P x1 x3 x4 x6 x7 r := by
  unfold f66_p6 at h
  by_cases h14 : (decide (x7 < 0)) = true
  · rw [if_pos h14] at h
    obtain ⟨h15, h⟩ := req_some h
    obtain rfl := Option.some.inj h
    exact gRun_ok cxOK (f66_p6_e0 x1 x3 x4 x6 x7) ⟨h14, h15, trivial⟩
  · rw [if_neg h14] at h
    have h14 := Bool.eq_false_iff.2 h14
    obtain rfl := Option.some.inj h
    exact gRun_ok cxOK (f66_p6_e1 x1 x3 x4 x6 x7) ⟨h14, trivial⟩
theorem f66_p2_ok (F : Nat) (x1 : List Int) : ∀ (k : Nat) (x3 : Option (List Int)) (x4 : Int) (r : (Option (List Int))), f66_p2 F x1 k x3 x4 = some r → f66_p2_P x1 x3 x4 r
  | 0, _, _, _, h => by cases h
  | k + 1, x3, x4, r, h => by
    unfold f66_p2 at h
    obtain ⟨h3, h⟩ := req_some h
    by_cases h4 : (decide (x4 < (iShl .u8 1 ((List.length x1 : Nat) : Int)))) = true
    · rw [if_pos h4] at h
      obtain ⟨x5, h5, h⟩ := bind_some h
      have ch5 := f74_ok F x1 x4 _ h5
      try dsimp only at h
      by_cases h6 : (decide (x5 ≤ 0)) = true
      · rw [if_pos h6] at h
        exact Lp.again (gRun_ok cxOK (f66_p2_e0 x1 x3 x4 x5) ⟨h3, h4, ch5, h6, trivial⟩) (f66_p2_ok F x1 k x3 (IntKind.wrap .u8 (x4 + 1)) r h)
      · rw [if_neg h6] at h
        have h6 := Bool.eq_false_iff.2 h6
        obtain ⟨x6, h7, h⟩ := bind_some h
        have ch7 := f75_ok F x4 _ h7
        try dsimp only at h
        by_cases h8 : (Option.isNone x3) = true
        · rw [if_pos h8] at h
          obtain ⟨h9, h⟩ := req_some h
          exact Lp.again (gRun_ok cxOK (f66_p2_e1 x1 x3 x4 x5 x6) ⟨h3, h4, ch5, h6, ch7, h8, h8, h8, h8, h8, h8, rfl, rfl, rfl, rfl, rfl, rfl, rfl, rfl, rfl, h9, trivial⟩) (f66_p2_ok F x1 k (some x6) (IntKind.wrap .u8 (x4 + 1)) r h)
        · rw [if_neg h8] at h
          have h8 := Bool.eq_false_iff.2 h8
          by_cases h10 : (decide (((List.length x6 : Nat) : Int) < ((List.length ((x3).getD []) : Nat) : Int))) = true
          · rw [if_pos h10] at h
            obtain ⟨h11, h⟩ := req_some h
            exact Lp.again (gRun_ok cxOK (f66_p2_e2 x1 x3 x4 x5 x6) ⟨h3, h4, ch5, h6, ch7, h8, h8, h8, h8, h8, h8, h10, h10, h10, h10, h10, h10, h10, h10, rfl, h11, trivial⟩) (f66_p2_ok F x1 k (some x6) (IntKind.wrap .u8 (x4 + 1)) r h)
          · rw [if_neg h10] at h
            have h10 := Bool.eq_false_iff.2 h10
            by_cases h12 : (((List.length x6 : Nat) : Int) == ((List.length ((x3).getD []) : Nat) : Int)) = true
            · rw [if_pos h12] at h
              obtain ⟨x7, h13, h⟩ := bind_some h
              have ch13 := f76_ok F x6 x3 _ h13
              try dsimp only at h
              obtain ⟨x8, h16, h⟩ := bind_some h
              have ch16 := f66_p6_ok F x1 x3 x4 x6 x7 _ h16
              try dsimp only at h
              exact Lp.again (gRun_ok cxOK (f66_p2_e3 x1 x3 x4 x5 x6 x7 x8) ⟨h3, h4, ch5, h6, ch7, h8, h8, h8, h8, h8, h8, h10, h10, h10, h10, h10, h10, h12, h12, h12, ch13, h12, h10, h12, h10, ch16, trivial⟩) (f66_p2_ok F x1 k x8 (IntKind.wrap .u8 (x4 + 1)) r h)
            · rw [if_neg h12] at h
              have h12 := Bool.eq_false_iff.2 h12
              exact Lp.again (gRun_ok cxOK (f66_p2_e4 x1 x3 x4 x5 x6) ⟨h3, h4, ch5, h6, ch7, h8, h8, h8, h8, h8, h8, h10, h10, h10, h10, h10, h10, h12, h12, h12, h12, h10, h12, h10, rfl, trivial⟩) (f66_p2_ok F x1 k x3 (IntKind.wrap .u8 (x4 + 1)) r h)
    · rw [if_neg h4] at h
      have h4 := Bool.eq_false_iff.2 h4
      obtain rfl := Option.some.inj h
      exact Lp.out (gRun_ok cxOK (f66_p2_e5 x1 x3 x4) ⟨h3, h4, trivial⟩) (by intro hh; cases hh)
theorem f66_ok (F : Nat) (x1 : List Int) (r : (List Int) × Int) (h : f66 F x1 = some r) : f66_C x1 r := by
  unfold f66 at h
  obtain ⟨x2, h1, h⟩ := bind_some h
  have ch1 := f73_ok F x1 _ h1
  try dsimp only at h
  by_cases h2 : (x2 != 0) = true
  · rw [if_pos h2] at h
    obtain rfl := Option.some.inj h
    exact callOK cxOK cxW Try.func66 (by kernel_rfl) (f66_e0 x1 x2) ⟨ch1, h2, trivial⟩
  · rw [if_neg h2] at h
    have h2 := Bool.eq_false_iff.2 h2
    obtain ⟨x9, h17, h⟩ := bind_some h
    have ch17 := f66_p2_ok F x1 F (none : Option (List Int)) 1 _ h17
    try dsimp only at h
    by_cases h18 : (Option.isNone x9) = true
    · rw [if_pos h18] at h
      obtain rfl := Option.some.inj h
      exact callOK cxOK cxW Try.func66 (by kernel_rfl) (f66_e1 x1 x2 x9) ⟨ch1, h2, ch17, h18, trivial⟩
    · rw [if_neg h18] at h
      have h18 := Bool.eq_false_iff.2 h18
      obtain rfl := Option.some.inj h
      exact callOK cxOK cxW Try.func66 (by kernel_rfl) (f66_e2 x1 x2 x9) ⟨ch1, h2, ch17, h18, trivial⟩

theorem f53_ok (F : Nat) (r : Bool) (h : f53 F = some r) : f53_C r := by
  unfold f53 at h
  obtain ⟨x1, h1, h⟩ := bind_some h
  have ch1 := f32_ok F ([2, 5] : List Int) _ h1
  try dsimp only at h
  obtain ⟨x2, h2, h⟩ := bind_some h
  have ch2 := f32_ok F ([3, 2] : List Int) _ h2
  try dsimp only at h
  obtain ⟨rh3, h3, h⟩ := bind_some h
  have ch3 := f65_ok F x1 x2 11 _ h3
  obtain ⟨x3, x4⟩ := rh3
  try dsimp only at h
  obtain ⟨x5, h4, h⟩ := bind_some h
  have ch4 := f32_ok F ([0, 0, 3, 3] : List Int) _ h4
  try dsimp only at h
  obtain ⟨rh5, h5, h⟩ := bind_some h
  have ch5 := f66_ok F x5 _ h5
  obtain ⟨x6, x7⟩ := rh5
  try dsimp only at h
  by_cases h6 : (x4 == 0) = true
  · rw [if_pos h6] at h
    by_cases h7 : (x7 == 0) = true
    · rw [if_pos h7] at h
      obtain ⟨x8, h8, h⟩ := bind_some h
      have ch8 := f32_ok F ([3, 1] : List Int) _ h8
      try dsimp only at h
      obtain ⟨x9, h9, h⟩ := bind_some h
      have ch9 := f31_ok F x3 x8 _ h9
      try dsimp only at h
      by_cases h10 : x9 = true
      · rw [if_pos h10] at h
        obtain ⟨x10, h11, h⟩ := bind_some h
        have ch11 := f32_ok F ([0, 1] : List Int) _ h11
        try dsimp only at h
        obtain ⟨x11, h12, h⟩ := bind_some h
        have ch12 := f31_ok F x6 x10 _ h12
        try dsimp only at h
        obtain rfl := Option.some.inj h
        exact callOK cxOK cxW Try.func53 (by kernel_rfl) (f53_e0 x1 x2 x3 x4 x5 x6 x7 x8 x9 x10 x11) ⟨ch1, ch2, ch3, ch4, ch5, h6, h6, h6, h7, h7, h7, ch8, h7, ch9, h7, h10, h10, h10, ch11, h10, ch12, h10, trivial⟩
      · rw [if_neg h10] at h
        have h10 := Bool.eq_false_iff.2 h10
        cases h
    · rw [if_neg h7] at h
      have h7 := Bool.eq_false_iff.2 h7
      cases h
  · rw [if_neg h6] at h
    have h6 := Bool.eq_false_iff.2 h6
    cases h

theorem f33_ok (F : Nat) (r : Bool) (h : f33 F = some r) : f33_C r := by
  unfold f33 at h
  obtain ⟨x1, h1, h⟩ := bind_some h
  have ch1 := f32_ok F ([2, 3, 1, 2, 1, 3] : List Int) _ h1
  try dsimp only at h
  obtain ⟨rh2, h2, h⟩ := bind_some h
  have ch2 := f52_ok F 3 true x1 2 _ h2
  obtain ⟨x2, x3⟩ := rh2
  try dsimp only at h
  by_cases h3 : (x3 == 0) = true
  · rw [if_pos h3] at h
    obtain ⟨x4, h4, h⟩ := bind_some h
    have ch4 := f32_ok F ([1, 3] : List Int) _ h4
    try dsimp only at h
    obtain ⟨x5, h5, h⟩ := bind_some h
    have ch5 := f31_ok F x2 x4 _ h5
    try dsimp only at h
    by_cases h6 : x5 = true
    · rw [if_pos h6] at h
      obtain ⟨x6, h7, h⟩ := bind_some h
      have ch7 := f53_ok F _ h7
      try dsimp only at h
      obtain rfl := Option.some.inj h
      exact callOK cxOK cxW Try.func33 (by kernel_rfl) (f33_e0 x1 x2 x3 x4 x5 x6) ⟨ch1, ch2, h3, h3, h3, ch4, h3, ch5, h3, h6, ch7, h6, trivial⟩
    · rw [if_neg h6] at h
      have h6 := Bool.eq_false_iff.2 h6
      cases h
  · rw [if_neg h3] at h
    have h3 := Bool.eq_false_iff.2 h3
    cases h

theorem f12_ok (F : Nat) (r : Bool) (h : f12 F = some r) : f12_C r := by
  unfold f12 at h
  obtain ⟨rh1, h1, h⟩ := bind_some h
  have ch1 := f30_ok F ([([9, 5] : List Int), ([8, 3] : List Int), ([4, 4] : List Int)] : List (List Int)) _ h1
  obtain ⟨x1, x2⟩ := rh1
  try dsimp only at h
  by_cases h2 : (x2 == 0) = true
  · rw [if_pos h2] at h
    obtain ⟨x3, h3, h⟩ := bind_some h
    have ch3 := f32_ok F ([8, 0, 4] : List Int) _ h3
    try dsimp only at h
    obtain ⟨x4, h4, h⟩ := bind_some h
    have ch4 := f31_ok F x1 x3 _ h4
    try dsimp only at h
    by_cases h5 : x4 = true
    · rw [if_pos h5] at h
      obtain ⟨x5, h6, h⟩ := bind_some h
      have ch6 := f33_ok F _ h6
      try dsimp only at h
      obtain rfl := Option.some.inj h
      exact callOK cxOK cxW Try.func12 (by kernel_rfl) (f12_e0 x1 x2 x3 x4 x5) ⟨ch1, h2, h2, h2, ch3, h2, ch4, h2, h5, ch6, h5, trivial⟩
    · rw [if_neg h5] at h
      have h5 := Bool.eq_false_iff.2 h5
      cases h
  · rw [if_neg h2] at h
    have h2 := Bool.eq_false_iff.2 h2
    cases h

theorem f3_p1_ok (F : Nat) (x1 : Int) (x2 x3 : List Int) : ∀ (k : Nat) (x13 : Int) (x11 x12 : List Int) (r : (List Int) × (List Int)), f3_p1 F x1 x2 x3 k x13 x11 x12 = some r → f3_p1_P x1 x2 x3 x13 x11 x12 r
  | 0, _, _, _, _, h => by cases h
  | k + 1, x13, x11, x12, r, h => by
    unfold f3_p1 at h
    by_cases h13 : (decide (x13 < (w64 (1 + (Int.tmod (w64 (x1)) 5))))) = true
    · rw [if_pos h13] at h
      obtain ⟨h14, h⟩ := req_some h
      obtain ⟨x14, h15, h⟩ := bind_some h
      try dsimp only at h
      obtain ⟨h16, h⟩ := req_some h
      obtain ⟨x15, h17, h⟩ := bind_some h
      try dsimp only at h
      obtain ⟨h18, h⟩ := req_some h
      exact Lp.again (gRun_ok cxOK (f3_p1_e0 x1 x2 x3 x11 x12 x13 x14 x15) ⟨h13, h14, ⟨x14, h15, rfl⟩, (by decide), h16, rfl, h14, ⟨x15, h17, rfl⟩, (by decide), h18, rfl, trivial⟩) (f3_p1_ok F x1 x2 x3 k (w64 (x13 + 1)) (x11 ++ ([(Int.tmod (w64 (x14)) 16)] : List Int)) (x12 ++ ([(Int.tmod (w64 (x15)) 16)] : List Int)) r h)
    · rw [if_neg h13] at h
      have h13 := Bool.eq_false_iff.2 h13
      obtain rfl := Option.some.inj h
      exact Lp.out (gRun_ok cxOK (f3_p1_e1 x1 x2 x3 x11 x12 x13) ⟨h13, trivial⟩) (by intro hh; cases hh)
theorem f3_p9_1_ok (F : Nat) (x1 : Int) (x16 x17 : List Int) (x38 : List (List Int)) (x40 x39 : Int) : ∀ (k : Nat) (x50 : Int) (x49 : List Int) (r : f3_p9_1_R), f3_p9_1 F x1 x16 x17 x38 x40 x39 k x50 x49 = some r → f3_p9_1_P x1 x16 x17 x38 x40 x39 x50 x49 r
  | 0, _, _, _, h => by cases h
  | k + 1, x50, x49, r, h => by
    unfold f3_p9_1 at h
    by_cases h61 : (decide (x50 < (((List.length x17) : Nat) : Int))) = true
    · rw [if_pos h61] at h
      obtain ⟨h62, h⟩ := req_some h
      obtain ⟨x51, h63, h⟩ := bind_some h
      try dsimp only at h
      obtain ⟨rh64, h64, h⟩ := bind_some h
      have ch64 := f4_ok F 4 x40 _ h64
      obtain ⟨x52, x53⟩ := rh64
      try dsimp only at h
      obtain ⟨rh65, h65, h⟩ := bind_some h
      have ch65 := f4_ok F 4 x51 _ h65
      obtain ⟨x54, x55⟩ := rh65
      try dsimp only at h
      obtain ⟨rh66, h66, h⟩ := bind_some h
      have ch66 := f5_ok F x52 x54 _ h66
      obtain ⟨x56, x57⟩ := rh66
      try dsimp only at h
      by_cases h67 : (x53 != 0) = true
      · rw [if_pos h67] at h
        obtain rfl := Option.some.inj h
        exact Lp.out (gRun_ok cxOK (f3_p9_1_e0 x1 x16 x17 x38 x39 x40 x49 x50 x51 x52 x53 x54 x55 x56 x57) ⟨h61, h62, ⟨x51, h63, rfl⟩, ch64, ch65, ch66, h67, h67, h67, rfl, rfl, rfl, rfl, rfl, rfl, rfl, rfl, rfl, rfl, rfl, rfl, rfl, rfl, trivial⟩) (by intro hh; cases hh)
      · rw [if_neg h67] at h
        have h67 := Bool.eq_false_iff.2 h67
        by_cases h68 : (x55 != 0) = true
        · rw [if_pos h68] at h
          obtain rfl := Option.some.inj h
          exact Lp.out (gRun_ok cxOK (f3_p9_1_e1 x1 x16 x17 x38 x39 x40 x49 x50 x51 x52 x53 x54 x55 x56 x57) ⟨h61, h62, ⟨x51, h63, rfl⟩, ch64, ch65, ch66, h67, h67, h67, h68, h68, h68, rfl, rfl, rfl, rfl, rfl, rfl, rfl, rfl, rfl, rfl, rfl, trivial⟩) (by intro hh; cases hh)
        · rw [if_neg h68] at h
          have h68 := Bool.eq_false_iff.2 h68
          by_cases h69 : (x57 != 0) = true
          · rw [if_pos h69] at h
            obtain rfl := Option.some.inj h
            exact Lp.out (gRun_ok cxOK (f3_p9_1_e2 x1 x16 x17 x38 x39 x40 x49 x50 x51 x52 x53 x54 x55 x56 x57) ⟨h61, h62, ⟨x51, h63, rfl⟩, ch64, ch65, ch66, h67, h67, h67, h68, h68, h68, h69, h69, h69, h69, h69, h69, h69, h69, h69, h69, rfl, trivial⟩) (by intro hh; cases hh)
          · rw [if_neg h69] at h
            have h69 := Bool.eq_false_iff.2 h69
            by_cases h70 : (x56 != (if (w64 (x51 - x40)) > (w64 (x40 - x51)) then (w64 (x51 - x40)) else (w64 (x40 - x51)))) = true
            · rw [if_pos h70] at h
              obtain rfl := Option.some.inj h
              exact Lp.out (gRun_ok cxOK (f3_p9_1_e3 x1 x16 x17 x38 x39 x40 x49 x50 x51 x52 x53 x54 x55 x56 x57) ⟨h61, h62, ⟨x51, h63, rfl⟩, ch64, ch65, ch66, h67, h67, h67, h68, h68, h68, h69, h69, h69, h69, h69, h69, h69, h69, h69, h69, h70, trivial⟩) (by intro hh; cases hh)
            · rw [if_neg h70] at h
              have h70 := Bool.eq_false_iff.2 h70
              obtain ⟨h71, h⟩ := req_some h
              exact Lp.again (gRun_ok cxOK (f3_p9_1_e4 x1 x16 x17 x38 x39 x40 x49 x50 x51 x52 x53 x54 x55 x56 x57) ⟨h61, h62, ⟨x51, h63, rfl⟩, ch64, ch65, ch66, h67, h67, h67, h68, h68, h68, h69, h69, h69, h69, h69, h69, h69, h69, h69, h69, h70, h71, rfl, trivial⟩) (f3_p9_1_ok F x1 x16 x17 x38 x40 x39 k (w64 (x50 + 1)) (x49 ++ ([(w64 (20 - x56))] : List Int)) r h)
    · rw [if_neg h61] at h
      have h61 := Bool.eq_false_iff.2 h61
      obtain rfl := Option.some.inj h
      exact Lp.out (gRun_ok cxOK (f3_p9_1_e5 x1 x16 x17 x38 x39 x40 x49 x50) ⟨h61, trivial⟩) (by intro hh; cases hh)
theorem f3_p5_ok (F : Nat) (x1 : Int) (x16 x17 : List Int) : ∀ (k : Nat) (x39 : Int) (x38 : List (List Int)) (r : f3_p5_R), f3_p5 F x1 x16 x17 k x39 x38 = some r → f3_p5_P x1 x16 x17 x39 x38 r
  | 0, _, _, _, h => by cases h
  | k + 1, x39, x38, r, h => by
    unfold f3_p5 at h
    by_cases h47 : (decide (x39 < (((List.length x16) : Nat) : Int))) = true
    · rw [if_pos h47] at h
      obtain ⟨h48, h⟩ := req_some h
      obtain ⟨x40, h49, h⟩ := bind_some h
      try dsimp only at h
      obtain ⟨rh72, h72, h⟩ := bind_some h
      have ch72 := f3_p9_1_ok F x1 x16 x17 x38 x40 x39 F 0 ([] : List Int) _ h72
      cases rh72 with
      | c0 =>
        try dsimp only at h
        obtain rfl := Option.some.inj h
        exact Lp.out (gRun_ok cxOK (f3_p5_e0 x1 x16 x17 x38 x39 x40) ⟨h47, h48, ⟨x40, h49, rfl⟩, ch72, trivial⟩) (by intro hh; cases hh)
      | c1 x58 =>
        try dsimp only at h
        obtain ⟨h73, h⟩ := req_some h
        exact Lp.again (gRun_ok cxOK (f3_p5_e1 x1 x16 x17 x38 x39 x40 x58) ⟨h47, h48, ⟨x40, h49, rfl⟩, ch72, (Nat.le_of_eq (Nat.zero_add _)), h73, rfl, trivial⟩) (f3_p5_ok F x1 x16 x17 k (w64 (x39 + 1)) (x38 ++ ([(List.drop 0 (List.take (0 + (List.length x58)) x58))] : List (List Int))) r h)
    · rw [if_neg h47] at h
      have h47 := Bool.eq_false_iff.2 h47
      obtain rfl := Option.some.inj h
      exact Lp.out (gRun_ok cxOK (f3_p5_e2 x1 x16 x17 x38 x39) ⟨h47, trivial⟩) (by intro hh; cases hh)
theorem f3_p15_ok (F : Nat) (x16 x17 : List Int) (x59 : List (List Int)) (x60 : List Int) (x62 x1 : Int) (x65 x66 : List Int) : ∀ (k : Nat) (x67 x68 : Int) (r : Int), f3_p15 F x16 x17 x59 x60 x62 x1 x65 x66 k x67 x68 = some r → f3_p15_P x16 x17 x59 x60 x62 x1 x65 x66 x67 x68 r
  | 0, _, _, _, h => by cases h
  | k + 1, x67, x68, r, h => by
    unfold f3_p15 at h
    by_cases h84 : (decide (x68 < (w64 (1 + (Int.tmod (w64 (x1)) 5))))) = true
    · rw [if_pos h84] at h
      obtain ⟨h85, h⟩ := req_some h
      obtain ⟨x69, h86, h⟩ := bind_some h
      try dsimp only at h
      obtain ⟨h87, h⟩ := req_some h
      obtain ⟨x70, h88, h⟩ := bind_some h
      try dsimp only at h
      exact Lp.again (gRun_ok cxOK (f3_p15_e0 x1 x16 x17 x59 x60 x62 x65 x66 x67 x68 x69 x70) ⟨h84, h85, ⟨x69, h86, rfl⟩, h87, ⟨x70, h88, rfl⟩, h87, ⟨x70, h88, rfl⟩, h85, ⟨x69, h86, rfl⟩, trivial⟩) (f3_p15_ok F x16 x17 x59 x60 x62 x1 x65 x66 k (w64 (x67 + (w64 (20 - (if (w64 (x70 - x69)) > (w64 (x69 - x70)) then (w64 (x70 - x69)) else (w64 (x69 - x70))))))) (w64 (x68 + 1)) r h)
    · rw [if_neg h84] at h
      have h84 := Bool.eq_false_iff.2 h84
      obtain rfl := Option.some.inj h
      exact Lp.out (gRun_ok cxOK (f3_p15_e1 x1 x16 x17 x59 x60 x62 x65 x66 x67 x68) ⟨h84, trivial⟩) (by intro hh; cases hh)
theorem f3_ok (F : Nat) (x1 : Int) (x2 x3 : List Int) (r : Bool) (h : f3 F x1 x2 x3 = some r) : f3_C x1 x2 x3 r := by
  unfold f3 at h
  obtain ⟨rh19, h19, h⟩ := bind_some h
  have ch19 := f3_p1_ok F x1 x2 x3 F 0 ([] : List Int) ([] : List Int) _ h19
  obtain ⟨x16, x17⟩ := rh19
  try dsimp only at h
  obtain ⟨rh74, h74, h⟩ := bind_some h
  have ch74 := f3_p5_ok F x1 x16 x17 F 0 ([] : List (List Int)) _ h74
  cases rh74 with
  | c0 =>
    try dsimp only at h
    cases h
  | c1 x59 =>
    try dsimp only at h
    obtain ⟨rh75, h75, h⟩ := bind_some h
    have ch75 := f6_1_ok F (List.drop 0 (List.take (0 + (List.length x59)) x59)) _ h75
    obtain ⟨x60, x61⟩ := rh75
    try dsimp only at h
    obtain ⟨rh76, h76, h⟩ := bind_some h
    have ch76 := f7_ok F (List.drop 0 (List.take (0 + (List.length x59)) x59)) x60 _ h76
    obtain ⟨x62, x63⟩ := rh76
    try dsimp only at h
    by_cases h77 : (x61 != 0) = true
    · rw [if_pos h77] at h
      cases h
    · rw [if_neg h77] at h
      have h77 := Bool.eq_false_iff.2 h77
      by_cases h78 : (x63 != 0) = true
      · rw [if_pos h78] at h
        cases h
      · rw [if_neg h78] at h
        have h78 := Bool.eq_false_iff.2 h78
        by_cases h79 : (((List.length x60 : Nat) : Int) != (w64 (1 + (Int.tmod (w64 (x1)) 5)))) = true
        · rw [if_pos h79] at h
          cases h
        · rw [if_neg h79] at h
          have h79 := Bool.eq_false_iff.2 h79
          obtain ⟨x64, h80, h⟩ := bind_some h
          have ch80 := f8_ok F x60 (-1) _ h80
          try dsimp only at h
          by_cases h81 : x64 = true
          · rw [if_pos h81] at h
            cases h
          · rw [if_neg h81] at h
            have h81 := Bool.eq_false_iff.2 h81
            obtain ⟨x65, h82, h⟩ := bind_some h
            have ch82 := f9_ok F x16 _ h82
            try dsimp only at h
            obtain ⟨x66, h83, h⟩ := bind_some h
            have ch83 := f9_1_ok F x17 _ h83
            try dsimp only at h
            obtain ⟨x71, h89, h⟩ := bind_some h
            have ch89 := f3_p15_ok F x16 x17 x59 x60 x62 x1 x65 x66 F 0 0 _ h89
            try dsimp only at h
            obtain ⟨rh90, h90, h⟩ := bind_some h
            have ch90 := f10_ok F (List.drop 0 (List.take (0 + (List.length x59)) x59)) _ h90
            obtain ⟨x72, x73⟩ := rh90
            try dsimp only at h
            by_cases h91 : (x73 == 0) = true
            · rw [if_pos h91] at h
              by_cases h92 : (x62 == x71) = true
              · rw [if_pos h92] at h
                obtain ⟨x74, h93, h⟩ := bind_some h
                have ch93 := f11_ok F (List.drop 0 (List.take (0 + (List.length x59)) x59)) x72 x60 _ h93
                try dsimp only at h
                by_cases h94 : (x74 == 0) = true
                · rw [if_pos h94] at h
                  obtain ⟨x75, h95, h⟩ := bind_some h
                  have ch95 := f12_ok F _ h95
                  try dsimp only at h
                  obtain rfl := Option.some.inj h
                  exact callOK cxOK cxW Try.func3 (by kernel_rfl) (f3_e0 x1 x2 x3 x16 x17 x59 x60 x61 x62 x63 x64 x65 x66 x71 x72 x73 x74 x75) ⟨(by decide), ch19, ch74, (Nat.le_of_eq (Nat.zero_add _)), ch75, ch76, h77, h77, h77, h78, h78, h78, h78, h78, h79, h79, ch80, h79, h81, ch82, ch83, ch89, ch90, h91, h91, h91, h91, h92, h92, h92, h92, ch93, h92, h92, h94, ch95, h94, trivial⟩
                · rw [if_neg h94] at h
                  have h94 := Bool.eq_false_iff.2 h94
                  cases h
              · rw [if_neg h92] at h
                have h92 := Bool.eq_false_iff.2 h92
                cases h
            · rw [if_neg h91] at h
              have h91 := Bool.eq_false_iff.2 h91
              cases h

end Go.Gh.Near
