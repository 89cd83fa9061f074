/- Hat13F0: printed by wip/tool/gx.py -/
import Derived.Test.YtmkejpdmaclkpaaDoorHat13E0
namespace Go.Gh.Hat
set_option linter.unusedVariables false
set_option linter.unusedSimpArgs false
open Go.Proofs

theorem f74_ok (F : Nat) (x1 : Int) (r : Bool) (h : f74 F x1 = some r) : f74_C x1 r := by
  unfold f74 at h
  by_cases h1 : (decide (x1 ≥ 1)) = true
  · rw [if_pos h1] at h
    obtain rfl := Option.some.inj h
    exact callOK cxOK cxW Tryd.func74 (by kernel_rfl) (f74_e0 x1) ⟨h1, h1, h1, trivial⟩
  · rw [if_neg h1] at h
    have h1 := Bool.eq_false_iff.2 h1
    obtain rfl := Option.some.inj h
    exact callOK cxOK cxW Tryd.func74 (by kernel_rfl) (f74_e1 x1) ⟨h1, h1, h1, trivial⟩

theorem f64_ok (F : Nat) (x1 : Int) (x2 : Int) (r : Int) (h : f64 F x1 x2 = some r) : f64_C x1 x2 r := by
  unfold f64 at h
  obtain ⟨h1, h⟩ := req_some h
  obtain ⟨h2, h⟩ := req_some h
  obtain rfl := Option.some.inj h
  exact callOK cxOK cxW Tryd.func64 (by kernel_rfl) (f64_e0 x1 x2) ⟨h1, h2, h1, trivial⟩

theorem f40_ok (F : Nat) (x1 : Int) (x2 : Int) (x3 : Int) (r : Int × Int) (h : f40 F x1 x2 x3 = some r) : f40_C x1 x2 x3 r := by
  unfold f40 at h
  obtain ⟨rh1, h1, h⟩ := bind_some h
  have ch1 := f74_ok F x1 _ h1
  obtain ⟨x4, rfl⟩ : ∃ z, z = rh1 := ⟨_, rfl⟩
  try dsimp only at h
  by_cases h2 : x4 = true
  · rw [if_pos h2] at h
    by_cases h3 : (decide (x2 < 0)) = true
    · rw [if_pos h3] at h
      obtain rfl := Option.some.inj h
      exact callOK cxOK cxW Tryd.func40 (by kernel_rfl) (f40_e0 x1 x2 x3 x4) ⟨ch1, (by rw [h2]; rfl), h3, h3, h3, h3, h3, rfl, rfl, rfl, rfl, rfl, rfl, rfl, rfl, trivial⟩
    · rw [if_neg h3] at h
      have h3 := Bool.eq_false_iff.2 h3
      obtain ⟨h4, h⟩ := req_some h
      by_cases h5 : (decide (x2 ≥ (iShl .i64 1 x1))) = true
      · rw [if_pos h5] at h
        obtain rfl := Option.some.inj h
        exact callOK cxOK cxW Tryd.func40 (by kernel_rfl) (f40_e1 x1 x2 x3 x4) ⟨ch1, (by rw [h2]; rfl), h3, h3, h3, h4, h3, h3, h5, h5, h5, rfl, rfl, rfl, rfl, rfl, trivial⟩
      · rw [if_neg h5] at h
        have h5 := Bool.eq_false_iff.2 h5
        by_cases h6 : (decide (x3 < 0)) = true
        · rw [if_pos h6] at h
          obtain rfl := Option.some.inj h
          exact callOK cxOK cxW Tryd.func40 (by kernel_rfl) (f40_e2 x1 x2 x3 x4) ⟨ch1, (by rw [h2]; rfl), h3, h3, h3, h4, h3, h3, h5, h5, h5, h6, h6, h6, h6, rfl, trivial⟩
        · rw [if_neg h6] at h
          have h6 := Bool.eq_false_iff.2 h6
          by_cases h7 : (decide (x3 ≥ x1)) = true
          · rw [if_pos h7] at h
            obtain rfl := Option.some.inj h
            exact callOK cxOK cxW Tryd.func40 (by kernel_rfl) (f40_e3 x1 x2 x3 x4) ⟨ch1, (by rw [h2]; rfl), h3, h3, h3, h4, h3, h3, h5, h5, h5, h6, h6, h6, h6, h7, trivial⟩
          · rw [if_neg h7] at h
            have h7 := Bool.eq_false_iff.2 h7
            obtain ⟨rh8, h8, h⟩ := bind_some h
            have ch8 := f64_ok F x2 x3 _ h8
            obtain ⟨x5, rfl⟩ : ∃ z, z = rh8 := ⟨_, rfl⟩
            try dsimp only at h
            obtain rfl := Option.some.inj h
            exact callOK cxOK cxW Tryd.func40 (by kernel_rfl) (f40_e4 x1 x2 x3 x4 x5) ⟨ch1, (by rw [h2]; rfl), h3, h3, h3, h4, h3, h3, h5, h5, h5, h6, h6, h6, h6, h7, ch8, trivial⟩
  · rw [if_neg h2] at h
    have h2 := Bool.eq_false_iff.2 h2
    obtain rfl := Option.some.inj h
    exact callOK cxOK cxW Tryd.func40 (by kernel_rfl) (f40_e5 x1 x2 x3 x4) ⟨ch1, (by rw [h2]; rfl), trivial⟩

theorem f42_ok (F : Nat) (x1 : List Int) (r : (List Int)) (h : f42 F x1 = some r) : f42_C x1 r := by
  unfold f42 at h
  obtain rfl := Option.some.inj h
  exact callOK cxOK cxW Tryd.func42 (by kernel_rfl) (f42_e0 x1) trivial

theorem f51_ok (F : Nat) (x1 : List (List Int)) (r : (List (List Int))) (h : f51 F x1 = some r) : f51_C x1 r := by
  unfold f51 at h
  obtain rfl := Option.some.inj h
  exact callOK cxOK cxW Tryd.func51 (by kernel_rfl) (f51_e0 x1) trivial

theorem f58_ok (F : Nat) (r : Int × (List (List Int))) (h : f58 F = some r) : f58_C r := by
  unfold f58 at h
  obtain ⟨rh1, h1, h⟩ := bind_some h
  have ch1 := f42_ok F ([1, 1] : List Int) _ h1
  obtain ⟨x1, rfl⟩ : ∃ z, z = rh1 := ⟨_, rfl⟩
  try dsimp only at h
  obtain ⟨rh2, h2, h⟩ := bind_some h
  have ch2 := f42_ok F ([2, 2] : List Int) _ h2
  obtain ⟨x2, rfl⟩ : ∃ z, z = rh2 := ⟨_, rfl⟩
  try dsimp only at h
  obtain ⟨rh3, h3, h⟩ := bind_some h
  have ch3 := f51_ok F ([x1, x2] : List (List Int)) _ h3
  obtain ⟨x3, rfl⟩ : ∃ z, z = rh3 := ⟨_, rfl⟩
  try dsimp only at h
  obtain rfl := Option.some.inj h
  exact callOK cxOK cxW Tryd.func58 (by kernel_rfl) (f58_e0 x1 x2 x3) ⟨ch1, ch2, ch3, trivial⟩

theorem f92_ok (F : Nat) (x1 : Int) (r : Bool) (h : f92 F x1 = some r) : f92_C x1 r := by
  unfold f92 at h
  by_cases h1 : (decide (x1 < 0)) = true
  · rw [if_pos h1] at h
    obtain rfl := Option.some.inj h
    exact callOK cxOK cxW Tryd.func92 (by kernel_rfl) (f92_e0 x1) ⟨h1, h1, h1, trivial⟩
  · rw [if_neg h1] at h
    have h1 := Bool.eq_false_iff.2 h1
    obtain rfl := Option.some.inj h
    exact callOK cxOK cxW Tryd.func92 (by kernel_rfl) (f92_e1 x1) ⟨h1, h1, h1, trivial⟩

theorem f108_p1_ok (F : Nat) (x1 : List Int) : ∀ (k : Nat) (x2 : Int) (r : f108_p1_R), f108_p1 F x1 k x2 = some r → f108_p1_P x1 x2 r
  | 0, _, _, h => by cases h
  | k + 1, x2, r, h => by
    unfold f108_p1 at h
    by_cases h1 : (decide (x2 < ((List.length x1 : Nat) : Int))) = true
    · rw [if_pos h1] at h
      obtain ⟨x3, h2, h⟩ := bind_some h
      try dsimp only at h
      obtain ⟨rh3, h3, h⟩ := bind_some h
      have ch3 := f92_ok F x3 _ h3
      obtain ⟨x4, rfl⟩ : ∃ z, z = rh3 := ⟨_, rfl⟩
      try dsimp only at h
      by_cases h4 : x4 = true
      · rw [if_pos h4] at h
        obtain rfl := Option.some.inj h
        exact Lp.out (gRun_ok cxOK (f108_p1_e0 x1 x2 x3 x4) ⟨h1, ⟨(at?_spec h2).1, x3, (at?_spec h2).2, rfl⟩, ch3, h4, trivial⟩) (by intro hh; cases hh)
      · rw [if_neg h4] at h
        have h4 := Bool.eq_false_iff.2 h4
        exact Lp.again (gRun_ok cxOK (f108_p1_e1 x1 x2 x3 x4) ⟨h1, ⟨(at?_spec h2).1, x3, (at?_spec h2).2, rfl⟩, ch3, h4, trivial⟩) (f108_p1_ok F x1 k (w64 (x2 + 1)) r h)
    · rw [if_neg h1] at h
      have h1 := Bool.eq_false_iff.2 h1
      obtain rfl := Option.some.inj h
      exact Lp.out (gRun_ok cxOK (f108_p1_e2 x1 x2) ⟨h1, trivial⟩) (by intro hh; cases hh)
theorem f108_ok (F : Nat) (x1 : List Int) (r : Int) (h : f108 F x1 = some r) : f108_C x1 r := by
  unfold f108 at h
  obtain ⟨rh5, h5, h⟩ := bind_some h
  have ch5 := f108_p1_ok F x1 F 0 _ h5
  cases rh5 with
  | c0 x5 =>
    try dsimp only at h
    obtain rfl := Option.some.inj h
    exact callOK cxOK cxW Tryd.func108 (by kernel_rfl) (f108_e0 x1 x5) ⟨ch5, trivial⟩
  | c1 =>
    try dsimp only at h
    obtain rfl := Option.some.inj h
    exact callOK cxOK cxW Tryd.func108 (by kernel_rfl) (f108_e1 x1) ⟨ch5, trivial⟩

theorem f91_ok (F : Nat) (x1 : List Int) (r : Bool) (h : f91 F x1 = some r) : f91_C x1 r := by
  unfold f91 at h
  obtain ⟨rh1, h1, h⟩ := bind_some h
  have ch1 := f108_ok F x1 _ h1
  obtain ⟨x2, rfl⟩ : ∃ z, z = rh1 := ⟨_, rfl⟩
  try dsimp only at h
  obtain rfl := Option.some.inj h
  exact callOK cxOK cxW Tryd.func91 (by kernel_rfl) (f91_e0 x1 x2) ⟨ch1, trivial⟩

theorem f78_p4_ok (F : Nat) (x2 : List (List Int)) (x1 : Int) : ∀ (k : Nat) (x7 : Int) (x8 : Int) (x9 : Int) (r : f78_p4_R), f78_p4 F x2 x1 k x7 x8 x9 = some r → f78_p4_P x2 x1 x7 x8 x9 r
  | 0, _, _, _, _, h => by cases h
  | k + 1, x7, x8, x9, r, h => by
    unfold f78_p4 at h
    by_cases h10 : (decide (x7 < ((List.length x2 : Nat) : Int))) = true
    · rw [if_pos h10] at h
      obtain ⟨x10, h11, h⟩ := bind_some h
      try dsimp only at h
      by_cases h12 : ((w64 (2 * ((List.length x10 : Nat) : Int))) != (iShl .i64 1 x1)) = true
      · rw [if_pos h12] at h
        obtain rfl := Option.some.inj h
        exact Lp.out (gRun_ok cxOK (f78_p4_e0 x1 x2 x7 x8 x9 x10) ⟨h10, ⟨(at?_spec h11).1, x10, (at?_spec h11).2, rfl⟩, h12, trivial⟩) (by intro hh; cases hh)
      · rw [if_neg h12] at h
        have h12 := Bool.eq_false_iff.2 h12
        obtain ⟨rh13, h13, h⟩ := bind_some h
        have ch13 := f91_ok F x10 _ h13
        obtain ⟨x11, rfl⟩ : ∃ z, z = rh13 := ⟨_, rfl⟩
        try dsimp only at h
        by_cases h14 : x11 = true
        · rw [if_pos h14] at h
          obtain rfl := Option.some.inj h
          exact Lp.out (gRun_ok cxOK (f78_p4_e1 x1 x2 x7 x8 x9 x10 x11) ⟨h10, ⟨(at?_spec h11).1, x10, (at?_spec h11).2, rfl⟩, h12, ch13, h14, trivial⟩) (by intro hh; cases hh)
        · rw [if_neg h14] at h
          have h14 := Bool.eq_false_iff.2 h14
          exact Lp.again (gRun_ok cxOK (f78_p4_e2 x1 x2 x7 x8 x9 x10 x11) ⟨h10, ⟨(at?_spec h11).1, x10, (at?_spec h11).2, rfl⟩, h12, ch13, h14, trivial⟩) (f78_p4_ok F x2 x1 k (w64 (x7 + 1)) x8 x9 r h)
    · rw [if_neg h10] at h
      have h10 := Bool.eq_false_iff.2 h10
      obtain rfl := Option.some.inj h
      exact Lp.out (gRun_ok cxOK (f78_p4_e3 x1 x2 x7 x8 x9) ⟨h10, trivial⟩) (by intro hh; cases hh)
theorem f78_ok (F : Nat) (x1 : Int) (x2 : List (List Int)) (r : Int × (List (List Int)) × Int × Int) (h : f78 F x1 x2 = some r) : f78_C x1 x2 r := by
  unfold f78 at h
  obtain ⟨rh1, h1, h⟩ := bind_some h
  have ch1 := f74_ok F x1 _ h1
  obtain ⟨x3, rfl⟩ : ∃ z, z = rh1 := ⟨_, rfl⟩
  try dsimp only at h
  by_cases h2 : x3 = true
  · rw [if_pos h2] at h
    by_cases h3 : (((List.length x2 : Nat) : Int) != x1) = true
    · rw [if_pos h3] at h
      obtain rfl := Option.some.inj h
      exact callOK cxOK cxW Tryd.func78 (by kernel_rfl) (f78_e0 x1 x2 x3) ⟨ch1, (by rw [h2]; rfl), h3, trivial⟩
    · rw [if_neg h3] at h
      have h3 := Bool.eq_false_iff.2 h3
      obtain ⟨h4, h⟩ := req_some h
      obtain ⟨rh15, h15, h⟩ := bind_some h
      have ch15 := f78_p4_ok F x2 x1 F 0 0 0 _ h15
      cases rh15 with
      | c0 x12 =>
        try dsimp only at h
        obtain rfl := Option.some.inj h
        exact callOK cxOK cxW Tryd.func78 (by kernel_rfl) (f78_e1 x1 x2 x3 x12) ⟨ch1, (by rw [h2]; rfl), h3, h4, ch15, trivial⟩
      | c1 x13 x14 =>
        try dsimp only at h
        obtain rfl := Option.some.inj h
        exact callOK cxOK cxW Tryd.func78 (by kernel_rfl) (f78_e2 x1 x2 x3 x13 x14) ⟨ch1, (by rw [h2]; rfl), h3, h4, ch15, trivial⟩
  · rw [if_neg h2] at h
    have h2 := Bool.eq_false_iff.2 h2
    obtain rfl := Option.some.inj h
    exact callOK cxOK cxW Tryd.func78 (by kernel_rfl) (f78_e3 x1 x2 x3) ⟨ch1, (by rw [h2]; rfl), trivial⟩

theorem f39_p4_ok (F : Nat) (x3 : Int) (x5 : List (List Int)) : ∀ (k : Nat) (x13 : Int) (x12 : List Int) (r : (List Int)), f39_p4 F x3 x5 k x13 x12 = some r → f39_p4_P x3 x5 x13 x12 r
  | 0, _, _, _, h => by cases h
  | k + 1, x13, x12, r, h => by
    unfold f39_p4 at h
    by_cases h10 : (decide (x13 < ((List.length x5 : Nat) : Int))) = true
    · rw [if_pos h10] at h
      obtain ⟨x14, h11, h⟩ := bind_some h
      try dsimp only at h
      obtain ⟨rh12, h12, h⟩ := bind_some h
      have ch12 := f64_ok F x3 x13 _ h12
      obtain ⟨x15, rfl⟩ : ∃ z, z = rh12 := ⟨_, rfl⟩
      try dsimp only at h
      obtain ⟨x16, h13, h⟩ := bind_some h
      try dsimp only at h
      obtain ⟨h14, h⟩ := req_some h
      exact Lp.again (gRun_ok cxOK (f39_p4_e0 x3 x5 x12 x13 x14 x15 x16) ⟨h10, ⟨(at?_spec h11).1, x14, (at?_spec h11).2, rfl⟩, ch12, ⟨(at?_spec h13).1, x16, (at?_spec h13).2, rfl⟩, h14, rfl, trivial⟩) (f39_p4_ok F x3 x5 k (w64 (x13 + 1)) (x12 ++ ([x16] : List Int)) r h)
    · rw [if_neg h10] at h
      have h10 := Bool.eq_false_iff.2 h10
      obtain rfl := Option.some.inj h
      exact Lp.out (gRun_ok cxOK (f39_p4_e1 x3 x5 x12 x13) ⟨h10, trivial⟩) (by intro hh; cases hh)
theorem f39_ok (F : Nat) (x1 : Int) (x2 : List (List Int)) (x3 : Int) (r : (List Int) × Int) (h : f39 F x1 x2 x3 = some r) : f39_C x1 x2 x3 r := by
  unfold f39 at h
  obtain ⟨rh1, h1, h⟩ := bind_some h
  have ch1 := f78_ok F x1 x2 _ h1
  obtain ⟨x4, x5, x6, x7⟩ := rh1
  try dsimp only at h
  by_cases h2 : (x7 != 0) = true
  · rw [if_pos h2] at h
    obtain rfl := Option.some.inj h
    exact callOK cxOK cxW Tryd.func39 (by kernel_rfl) (f39_e0 x1 x2 x3 x4 x5 x6 x7) ⟨ch1, h2, trivial⟩
  · rw [if_neg h2] at h
    have h2 := Bool.eq_false_iff.2 h2
    by_cases h3 : (decide (x3 < 0)) = true
    · rw [if_pos h3] at h
      obtain rfl := Option.some.inj h
      exact callOK cxOK cxW Tryd.func39 (by kernel_rfl) (f39_e1 x1 x2 x3 x4 x5 x6 x7) ⟨ch1, h2, h3, h3, h3, h3, h3, rfl, trivial⟩
    · rw [if_neg h3] at h
      have h3 := Bool.eq_false_iff.2 h3
      by_cases h4 : (decide (x3 ≥ x6)) = true
      · rw [if_pos h4] at h
        obtain rfl := Option.some.inj h
        exact callOK cxOK cxW Tryd.func39 (by kernel_rfl) (f39_e2 x1 x2 x3 x4 x5 x6 x7) ⟨ch1, h2, h3, h3, h3, h3, h3, h4, trivial⟩
      · rw [if_neg h4] at h
        have h4 := Bool.eq_false_iff.2 h4
        obtain ⟨rh15, h15, h⟩ := bind_some h
        have ch15 := f39_p4_ok F x3 x5 F 0 ([] : List Int) _ h15
        obtain ⟨x17, rfl⟩ : ∃ z, z = rh15 := ⟨_, rfl⟩
        try dsimp only at h
        obtain rfl := Option.some.inj h
        exact callOK cxOK cxW Tryd.func39 (by kernel_rfl) (f39_e3 x1 x2 x3 x4 x5 x6 x7 x17) ⟨ch1, h2, h3, h3, h3, h3, h3, h4, ch15, (Nat.le_of_eq (Nat.zero_add _)), trivial⟩

theorem f79_p6_ok (F : Nat) (x4 : Int) (x5 : Int) (x6 : Int) (x1 : Int) (x7 : Int) (x10 : Int) (x2 : List (List Int)) (x3 : Int) (r : Int × Int) (h : f79_p6 F x4 x5 x6 x1 x7 x10 x2 x3 = some r) : f79_p6_P x4 x5 x6 x1 x7 x10 x2 x3 r := by
  unfold f79_p6 at h
  by_cases h7 : (x10 == (iAnd .i64 (iShr .i64 x4 x7) 1)) = true
  · rw [if_pos h7] at h
    obtain rfl := Option.some.inj h
    exact gRun_ok cxOK (f79_p6_e0 x1 x2 x3 x4 x5 x6 x7 x10) ⟨h7, trivial⟩
  · rw [if_neg h7] at h
    have h7 := Bool.eq_false_iff.2 h7
    obtain rfl := Option.some.inj h
    exact gRun_ok cxOK (f79_p6_e1 x1 x2 x3 x4 x5 x6 x7 x10) ⟨h7, trivial⟩
theorem f79_p5_ok (F : Nat) (x4 : Int) (x5 : Int) (x6 : Int) (x7 : Int) (x1 : Int) (x10 : Int) (x2 : List (List Int)) (x3 : Int) (r : Int × Int) (h : f79_p5 F x4 x5 x6 x7 x1 x10 x2 x3 = some r) : f79_p5_P x4 x5 x6 x7 x1 x10 x2 x3 r := by
  unfold f79_p5 at h
  by_cases h5 : (x10 == 2) = true
  · rw [if_pos h5] at h
    obtain rfl := Option.some.inj h
    exact gRun_ok cxOK (f79_p5_e0 x1 x2 x3 x4 x5 x6 x7 x10) ⟨h5, trivial⟩
  · rw [if_neg h5] at h
    have h5 := Bool.eq_false_iff.2 h5
    obtain ⟨h6, h⟩ := req_some h
    obtain ⟨rh8, h8, h⟩ := bind_some h
    have ch8 := f79_p6_ok F x4 x5 x6 x1 x7 x10 x2 x3 _ h8
    obtain ⟨x11, x12⟩ := rh8
    try dsimp only at h
    obtain rfl := Option.some.inj h
    exact gRun_ok cxOK (f79_p5_e1 x1 x2 x3 x4 x5 x6 x7 x10 x11 x12) ⟨h5, h6, ch8, trivial⟩
theorem f79_p1_ok (F : Nat) (x4 : Int) (x1 : Int) (x2 : List (List Int)) (x3 : Int) : ∀ (k : Nat) (x5 : Int) (x6 : Int) (x7 : Int) (r : Int × Int), f79_p1 F x4 x1 x2 x3 k x5 x6 x7 = some r → f79_p1_P x4 x1 x2 x3 x5 x6 x7 r
  | 0, _, _, _, _, h => by cases h
  | k + 1, x5, x6, x7, r, h => by
    unfold f79_p1 at h
    by_cases h1 : (decide (x7 < x1)) = true
    · rw [if_pos h1] at h
      obtain ⟨x8, h2, h⟩ := bind_some h
      try dsimp only at h
      obtain ⟨rh3, h3, h⟩ := bind_some h
      have ch3 := f64_ok F x4 x7 _ h3
      obtain ⟨x9, rfl⟩ : ∃ z, z = rh3 := ⟨_, rfl⟩
      try dsimp only at h
      obtain ⟨x10, h4, h⟩ := bind_some h
      try dsimp only at h
      obtain ⟨rh9, h9, h⟩ := bind_some h
      have ch9 := f79_p5_ok F x4 x5 x6 x7 x1 x10 x2 x3 _ h9
      obtain ⟨x13, x14⟩ := rh9
      try dsimp only at h
      exact Lp.again (gRun_ok cxOK (f79_p1_e0 x1 x2 x3 x4 x5 x6 x7 x8 x9 x10 x13 x14) ⟨h1, ⟨(at?_spec h2).1, x8, (at?_spec h2).2, rfl⟩, ch3, ⟨(at?_spec h4).1, x10, (at?_spec h4).2, rfl⟩, ch9, trivial⟩) (f79_p1_ok F x4 x1 x2 x3 k x13 x14 (w64 (x7 + 1)) r h)
    · rw [if_neg h1] at h
      have h1 := Bool.eq_false_iff.2 h1
      obtain rfl := Option.some.inj h
      exact Lp.out (gRun_ok cxOK (f79_p1_e1 x1 x2 x3 x4 x5 x6 x7) ⟨h1, trivial⟩) (by intro hh; cases hh)
theorem f79_ok (F : Nat) (x1 : Int) (x2 : List (List Int)) (x3 : Int) (x4 : Int) (r : Int × Int) (h : f79 F x1 x2 x3 x4 = some r) : f79_C x1 x2 x3 x4 r := by
  unfold f79 at h
  obtain ⟨rh10, h10, h⟩ := bind_some h
  have ch10 := f79_p1_ok F x4 x1 x2 x3 F 0 0 0 _ h10
  obtain ⟨x15, x16⟩ := rh10
  try dsimp only at h
  obtain rfl := Option.some.inj h
  exact callOK cxOK cxW Tryd.func79 (by kernel_rfl) (f79_e0 x1 x2 x3 x4 x15 x16) ⟨ch10, trivial⟩

theorem f32_p5_1_ok (F : Nat) (x10 : List Int) (x11 : Int) (x5 : Int) (x13 : Int) (x3 : Int) (x4 : List (List Int)) (r : (List Int)) (h : f32_p5_1 F x10 x11 x5 x13 x3 x4 = some r) : f32_p5_1_P x10 x11 x5 x13 x3 x4 r := by
  unfold f32_p5_1 at h
  by_cases h12 : (x13 == 0) = true
  · rw [if_pos h12] at h
    obtain ⟨h13, h⟩ := req_some h
    obtain rfl := Option.some.inj h
    exact gRun_ok cxOK (f32_p5_1_e0 x3 x4 x5 x10 x11 x13) ⟨h12, h13, rfl, trivial⟩
  · rw [if_neg h12] at h
    have h12 := Bool.eq_false_iff.2 h12
    obtain rfl := Option.some.inj h
    exact gRun_ok cxOK (f32_p5_1_e1 x3 x4 x5 x10 x11 x13) ⟨h12, trivial⟩
theorem f32_p2_ok (F : Nat) (x5 : Int) (x3 : Int) (x4 : List (List Int)) : ∀ (k : Nat) (x11 : Int) (x10 : List Int) (r : (List Int)), f32_p2 F x5 x3 x4 k x11 x10 = some r → f32_p2_P x5 x3 x4 x11 x10 r
  | 0, _, _, _, h => by cases h
  | k + 1, x11, x10, r, h => by
    unfold f32_p2 at h
    by_cases h9 : (decide (x11 < x5)) = true
    · rw [if_pos h9] at h
      obtain ⟨rh10, h10, h⟩ := bind_some h
      have ch10 := f79_ok F x3 x4 x5 x11 _ h10
      obtain ⟨x12, x13⟩ := rh10
      try dsimp only at h
      by_cases h11 : (decide (x12 > 0)) = true
      · rw [if_pos h11] at h
        obtain ⟨rh14, h14, h⟩ := bind_some h
        have ch14 := f32_p5_1_ok F x10 x11 x5 x13 x3 x4 _ h14
        obtain ⟨x14, rfl⟩ : ∃ z, z = rh14 := ⟨_, rfl⟩
        try dsimp only at h
        exact Lp.again (gRun_ok cxOK (f32_p2_e0 x3 x4 x5 x10 x11 x12 x13 x14) ⟨h9, ch10, h11, h11, h11, ch14, trivial⟩) (f32_p2_ok F x5 x3 x4 k (w64 (x11 + 1)) x14 r h)
      · rw [if_neg h11] at h
        have h11 := Bool.eq_false_iff.2 h11
        exact Lp.again (gRun_ok cxOK (f32_p2_e1 x3 x4 x5 x10 x11 x12 x13) ⟨h9, ch10, h11, h11, h11, rfl, trivial⟩) (f32_p2_ok F x5 x3 x4 k (w64 (x11 + 1)) x10 r h)
    · rw [if_neg h9] at h
      have h9 := Bool.eq_false_iff.2 h9
      obtain rfl := Option.some.inj h
      exact Lp.out (gRun_ok cxOK (f32_p2_e2 x3 x4 x5 x10 x11) ⟨h9, trivial⟩) (by intro hh; cases hh)
theorem f32_ok (F : Nat) (x1 : Int) (x2 : List (List Int)) (r : (List Int) × Int) (h : f32 F x1 x2 = some r) : f32_C x1 x2 r := by
  unfold f32 at h
  obtain ⟨rh1, h1, h⟩ := bind_some h
  have ch1 := f78_ok F x1 x2 _ h1
  obtain ⟨x3, x4, x5, x6⟩ := rh1
  try dsimp only at h
  by_cases h2 : (x6 != 0) = true
  · rw [if_pos h2] at h
    obtain rfl := Option.some.inj h
    exact callOK cxOK cxW Tryd.func32 (by kernel_rfl) (f32_e0 x1 x2 x3 x4 x5 x6) ⟨ch1, h2, trivial⟩
  · rw [if_neg h2] at h
    have h2 := Bool.eq_false_iff.2 h2
    obtain ⟨rh15, h15, h⟩ := bind_some h
    have ch15 := f32_p2_ok F x5 x3 x4 F 0 ([] : List Int) _ h15
    obtain ⟨x15, rfl⟩ : ∃ z, z = rh15 := ⟨_, rfl⟩
    try dsimp only at h
    obtain rfl := Option.some.inj h
    exact callOK cxOK cxW Tryd.func32 (by kernel_rfl) (f32_e1 x1 x2 x3 x4 x5 x6 x15) ⟨ch1, h2, ch15, (Nat.le_of_eq (Nat.zero_add _)), trivial⟩

theorem f37_p2_ok (F : Nat) (x5 : Int) (x3 : Int) (x4 : List (List Int)) : ∀ (k : Nat) (x7 : Int) (x8 : Int) (x9 : Int) (r : Int × Int), f37_p2 F x5 x3 x4 k x7 x8 x9 = some r → f37_p2_P x5 x3 x4 x7 x8 x9 r
  | 0, _, _, _, _, h => by cases h
  | k + 1, x7, x8, x9, r, h => by
    unfold f37_p2 at h
    by_cases h3 : (decide (x9 < x5)) = true
    · rw [if_pos h3] at h
      obtain ⟨rh4, h4, h⟩ := bind_some h
      have ch4 := f79_ok F x3 x4 x5 x9 _ h4
      obtain ⟨x10, x11⟩ := rh4
      try dsimp only at h
      exact Lp.again (gRun_ok cxOK (f37_p2_e0 x3 x4 x5 x7 x8 x9 x10 x11) ⟨h3, ch4, trivial⟩) (f37_p2_ok F x5 x3 x4 k (w64 (x7 + x10)) (w64 (x8 + x11)) (w64 (x9 + 1)) r h)
    · rw [if_neg h3] at h
      have h3 := Bool.eq_false_iff.2 h3
      obtain rfl := Option.some.inj h
      exact Lp.out (gRun_ok cxOK (f37_p2_e1 x3 x4 x5 x7 x8 x9) ⟨h3, trivial⟩) (by intro hh; cases hh)
theorem f37_ok (F : Nat) (x1 : Int) (x2 : List (List Int)) (r : Int × Int × Int) (h : f37 F x1 x2 = some r) : f37_C x1 x2 r := by
  unfold f37 at h
  obtain ⟨rh1, h1, h⟩ := bind_some h
  have ch1 := f78_ok F x1 x2 _ h1
  obtain ⟨x3, x4, x5, x6⟩ := rh1
  try dsimp only at h
  by_cases h2 : (x6 != 0) = true
  · rw [if_pos h2] at h
    obtain rfl := Option.some.inj h
    exact callOK cxOK cxW Tryd.func37 (by kernel_rfl) (f37_e0 x1 x2 x3 x4 x5 x6) ⟨ch1, h2, trivial⟩
  · rw [if_neg h2] at h
    have h2 := Bool.eq_false_iff.2 h2
    obtain ⟨rh5, h5, h⟩ := bind_some h
    have ch5 := f37_p2_ok F x5 x3 x4 F 0 0 0 _ h5
    obtain ⟨x12, x13⟩ := rh5
    try dsimp only at h
    obtain rfl := Option.some.inj h
    exact callOK cxOK cxW Tryd.func37 (by kernel_rfl) (f37_e1 x1 x2 x3 x4 x5 x6 x12 x13) ⟨ch1, h2, ch5, trivial⟩

theorem f59_p9_1_ok (F : Nat) (x1 : Int) (x17 : Int) (x2 : List Int) (x16 : Int) : ∀ (k : Nat) (x22 : Int) (x21 : List Int) (r : (List Int)), f59_p9_1 F x1 x17 x2 x16 k x22 x21 = some r → f59_p9_1_P x1 x17 x2 x16 x22 x21 r
  | 0, _, _, _, h => by cases h
  | k + 1, x22, x21, r, h => by
    unfold f59_p9_1 at h
    by_cases h37 : (decide (x22 < x1)) = true
    · rw [if_pos h37] at h
      obtain ⟨h38, h⟩ := req_some h
      obtain ⟨h39, h⟩ := req_some h
      obtain ⟨x23, h40, h⟩ := bind_some h
      try dsimp only at h
      obtain ⟨h41, h⟩ := req_some h
      exact Lp.again (gRun_ok cxOK (f59_p9_1_e0 x1 x2 x16 x17 x21 x22 x23) ⟨h37, h38, h39, ⟨x23, h40, rfl⟩, h39, h41, trivial⟩) (f59_p9_1_ok F x1 x17 x2 x16 k (w64 (x22 + 1)) (List.set x21 (0 + (Int.toNat (iXor .i64 x17 (iShl .i64 1 x22)))) (w64 (x23 + 1))) r h)
    · rw [if_neg h37] at h
      have h37 := Bool.eq_false_iff.2 h37
      obtain rfl := Option.some.inj h
      exact Lp.out (gRun_ok cxOK (f59_p9_1_e1 x1 x2 x16 x17 x21 x22) ⟨h37, trivial⟩) (by intro hh; cases hh)
theorem f59_p2_ok (F : Nat) (x1 : Int) (x2 : List Int) : ∀ (k : Nat) (x15 : Int) (x16 : Int) (x14 : List Int) (r : f59_p2_R), f59_p2 F x1 x2 k x15 x16 x14 = some r → f59_p2_P x1 x2 x15 x16 x14 r
  | 0, _, _, _, _, h => by cases h
  | k + 1, x15, x16, x14, r, h => by
    unfold f59_p2 at h
    by_cases h24 : (decide (x16 < ((List.length x2 : Nat) : Int))) = true
    · rw [if_pos h24] at h
      obtain ⟨x17, h25, h⟩ := bind_some h
      try dsimp only at h
      by_cases h26 : (decide (x17 < 0)) = true
      · rw [if_pos h26] at h
        obtain rfl := Option.some.inj h
        exact Lp.out (gRun_ok cxOK (f59_p2_e0 x1 x2 x14 x15 x16 x17) ⟨h24, ⟨(at?_spec h25).1, x17, (at?_spec h25).2, rfl⟩, h26, h26, h26, h26, h26, rfl, trivial⟩) (by intro hh; cases hh)
      · rw [if_neg h26] at h
        have h26 := Bool.eq_false_iff.2 h26
        by_cases h27 : (decide (x17 ≥ (((Int.toNat (iShl .i64 1 x1)) : Nat) : Int))) = true
        · rw [if_pos h27] at h
          obtain rfl := Option.some.inj h
          exact Lp.out (gRun_ok cxOK (f59_p2_e1 x1 x2 x14 x15 x16 x17) ⟨h24, ⟨(at?_spec h25).1, x17, (at?_spec h25).2, rfl⟩, h26, h26, h26, h26, h26, h27, trivial⟩) (by intro hh; cases hh)
        · rw [if_neg h27] at h
          have h27 := Bool.eq_false_iff.2 h27
          by_cases h28 : (decide (x17 ≤ x15)) = true
          · rw [if_pos h28] at h
            obtain rfl := Option.some.inj h
            exact Lp.out (gRun_ok cxOK (f59_p2_e2 x1 x2 x14 x15 x16 x17) ⟨h24, ⟨(at?_spec h25).1, x17, (at?_spec h25).2, rfl⟩, h26, h26, h26, h26, h26, h27, h28, trivial⟩) (by intro hh; cases hh)
          · rw [if_neg h28] at h
            have h28 := Bool.eq_false_iff.2 h28
            obtain ⟨h29, h⟩ := req_some h
            obtain ⟨x18, h30, h⟩ := bind_some h
            try dsimp only at h
            obtain ⟨h31, h⟩ := req_some h
            obtain ⟨rh42, h42, h⟩ := bind_some h
            have ch42 := f59_p9_1_ok F x1 x17 x2 x16 F 0 (List.set x14 (0 + (Int.toNat x17)) (w64 (x18 + 1))) _ h42
            obtain ⟨x24, rfl⟩ : ∃ z, z = rh42 := ⟨_, rfl⟩
            try dsimp only at h
            exact Lp.again (gRun_ok cxOK (f59_p2_e3 x1 x2 x14 x15 x16 x17 x18 x24) ⟨h24, ⟨(at?_spec h25).1, x17, (at?_spec h25).2, rfl⟩, h26, h26, h26, h26, h26, h27, h28, h29, ⟨x18, h30, rfl⟩, h29, h31, ch42, trivial⟩) (f59_p2_ok F x1 x2 k x17 (w64 (x16 + 1)) x24 r h)
    · rw [if_neg h24] at h
      have h24 := Bool.eq_false_iff.2 h24
      obtain rfl := Option.some.inj h
      exact Lp.out (gRun_ok cxOK (f59_p2_e4 x1 x2 x14 x15 x16) ⟨h24, trivial⟩) (by intro hh; cases hh)
theorem f59_ok (F : Nat) (x1 : Int) (x2 : List Int) (r : (List Int) × Int) (h : f59 F x1 x2 = some r) : f59_C x1 x2 r := by
  unfold f59 at h
  obtain ⟨rh1, h1, h⟩ := bind_some h
  have ch1 := f74_ok F x1 _ h1
  obtain ⟨x3, rfl⟩ : ∃ z, z = rh1 := ⟨_, rfl⟩
  try dsimp only at h
  by_cases h2 : x3 = true
  · rw [if_pos h2] at h
    obtain ⟨h3, h⟩ := req_some h
    obtain ⟨h4, h⟩ := req_some h
    obtain ⟨rh43, h43, h⟩ := bind_some h
    have ch43 := f59_p2_ok F x1 x2 F (-1) 0 (List.replicate (Int.toNat (iShl .i64 1 x1)) (0 : Int)) _ h43
    cases rh43 with
    | c0 x25 =>
      try dsimp only at h
      obtain rfl := Option.some.inj h
      exact callOK cxOK cxW Tryd.func59 (by kernel_rfl) (f59_e0 x1 x2 x3 x25) ⟨ch1, (by rw [h2]; rfl), h3, h4, ch43, trivial⟩
    | c1 x26 =>
      try dsimp only at h
      obtain ⟨h44, h⟩ := req_some h
      obtain rfl := Option.some.inj h
      exact callOK cxOK cxW Tryd.func59 (by kernel_rfl) (f59_e1 x1 x2 x3 x26) ⟨ch1, (by rw [h2]; rfl), h3, h4, ch43, h44, trivial⟩
  · rw [if_neg h2] at h
    have h2 := Bool.eq_false_iff.2 h2
    obtain rfl := Option.some.inj h
    exact callOK cxOK cxW Tryd.func59 (by kernel_rfl) (f59_e2 x1 x2 x3) ⟨ch1, (by rw [h2]; rfl), trivial⟩

theorem f15_ok (F : Nat) (x1 : Int) (x2 : List Int) (r : (List Int) × Int) (h : f15 F x1 x2 = some r) : f15_C x1 x2 r := by
  unfold f15 at h
  obtain ⟨rh1, h1, h⟩ := bind_some h
  have ch1 := f59_ok F x1 x2 _ h1
  obtain ⟨x3, x4⟩ := rh1
  try dsimp only at h
  obtain rfl := Option.some.inj h
  exact callOK cxOK cxW Tryd.func15 (by kernel_rfl) (f15_e0 x1 x2 x3 x4) ⟨ch1, trivial⟩

theorem f17_p5_1_ok (F : Nat) (x7 : List Int) (x8 : Int) (x3 : List Int) (x9 : Int) (r : (List Int)) (h : f17_p5_1 F x7 x8 x3 x9 = some r) : f17_p5_1_P x7 x8 x3 x9 r := by
  unfold f17_p5_1 at h
  by_cases h10 : (x9 == 0) = true
  · rw [if_pos h10] at h
    obtain ⟨h11, h⟩ := req_some h
    obtain rfl := Option.some.inj h
    exact gRun_ok cxOK (f17_p5_1_e0 x3 x7 x8 x9) ⟨h10, h11, rfl, trivial⟩
  · rw [if_neg h10] at h
    have h10 := Bool.eq_false_iff.2 h10
    obtain rfl := Option.some.inj h
    exact gRun_ok cxOK (f17_p5_1_e1 x3 x7 x8 x9) ⟨h10, trivial⟩
theorem f17_p2_ok (F : Nat) (x3 : List Int) : ∀ (k : Nat) (x8 : Int) (x7 : List Int) (r : (List Int)), f17_p2 F x3 k x8 x7 = some r → f17_p2_P x3 x8 x7 r
  | 0, _, _, _, h => by cases h
  | k + 1, x8, x7, r, h => by
    unfold f17_p2 at h
    by_cases h8 : (decide (x8 < ((List.length x3 : Nat) : Int))) = true
    · rw [if_pos h8] at h
      obtain ⟨x9, h9, h⟩ := bind_some h
      try dsimp only at h
      obtain ⟨rh12, h12, h⟩ := bind_some h
      have ch12 := f17_p5_1_ok F x7 x8 x3 x9 _ h12
      obtain ⟨x10, rfl⟩ : ∃ z, z = rh12 := ⟨_, rfl⟩
      try dsimp only at h
      exact Lp.again (gRun_ok cxOK (f17_p2_e0 x3 x7 x8 x9 x10) ⟨h8, ⟨(at?_spec h9).1, x9, (at?_spec h9).2, rfl⟩, ch12, trivial⟩) (f17_p2_ok F x3 k (w64 (x8 + 1)) x10 r h)
    · rw [if_neg h8] at h
      have h8 := Bool.eq_false_iff.2 h8
      obtain rfl := Option.some.inj h
      exact Lp.out (gRun_ok cxOK (f17_p2_e1 x3 x7 x8) ⟨h8, trivial⟩) (by intro hh; cases hh)
theorem f17_ok (F : Nat) (x1 : Int) (x2 : List Int) (r : (List Int) × Int) (h : f17 F x1 x2 = some r) : f17_C x1 x2 r := by
  unfold f17 at h
  obtain ⟨rh1, h1, h⟩ := bind_some h
  have ch1 := f59_ok F x1 x2 _ h1
  obtain ⟨x3, x4⟩ := rh1
  try dsimp only at h
  by_cases h2 : (x4 != 0) = true
  · rw [if_pos h2] at h
    obtain rfl := Option.some.inj h
    exact callOK cxOK cxW Tryd.func17 (by kernel_rfl) (f17_e0 x1 x2 x3 x4) ⟨ch1, h2, trivial⟩
  · rw [if_neg h2] at h
    have h2 := Bool.eq_false_iff.2 h2
    obtain ⟨rh13, h13, h⟩ := bind_some h
    have ch13 := f17_p2_ok F x3 F 0 ([] : List Int) _ h13
    obtain ⟨x11, rfl⟩ : ∃ z, z = rh13 := ⟨_, rfl⟩
    try dsimp only at h
    obtain rfl := Option.some.inj h
    exact callOK cxOK cxW Tryd.func17 (by kernel_rfl) (f17_e1 x1 x2 x3 x4 x11) ⟨ch1, h2, ch13, (Nat.le_of_eq (Nat.zero_add _)), trivial⟩

theorem f105_ok (F : Nat) (x1 : Int) (x2 : Int) (r : Int × Int) (h : f105 F x1 x2 = some r) : f105_C x1 x2 r := by
  unfold f105 at h
  obtain rfl := Option.some.inj h
  exact callOK cxOK cxW Tryd.func105 (by kernel_rfl) (f105_e0 x1 x2) ⟨(by decide), (by decide), (by decide), (by decide), (by decide), trivial⟩

theorem f87_ok (F : Nat) (x1 : Int) (x2 : Int) (r : Int × Int) (h : f87 F x1 x2 = some r) : f87_C x1 x2 r := by
  unfold f87 at h
  obtain ⟨rh1, h1, h⟩ := bind_some h
  have ch1 := f105_ok F x1 x2 _ h1
  obtain ⟨x3, x4⟩ := rh1
  try dsimp only at h
  obtain rfl := Option.some.inj h
  exact callOK cxOK cxW Tryd.func87 (by kernel_rfl) (f87_e0 x1 x2 x3 x4) ⟨rfl, ch1, trivial⟩

theorem f57_p0_ok (F : Nat) (x1 : List Int) (x2 : Int) (r : Unit) (h : f57_p0 F x1 x2 = some r) : f57_p0_P x1 x2 r := by
  unfold f57_p0 at h
  by_cases h1 : (decide (x2 < 0)) = true
  · rw [if_pos h1] at h
    cases h
  · rw [if_neg h1] at h
    have h1 := Bool.eq_false_iff.2 h1
    obtain rfl := Option.some.inj h
    exact gRun_ok cxOK (f57_p0_e0 x1 x2) ⟨h1, trivial⟩
theorem f57_p1_ok (F : Nat) (x1 : List Int) (x4 : Int) (r : Unit) (h : f57_p1 F x1 x4 = some r) : f57_p1_P x1 x4 r := by
  unfold f57_p1 at h
  by_cases h5 : (decide (x4 > 9223372036854775807)) = true
  · rw [if_pos h5] at h
    cases h
  · rw [if_neg h5] at h
    have h5 := Bool.eq_false_iff.2 h5
    obtain rfl := Option.some.inj h
    exact gRun_ok cxOK (f57_p1_e0 x1 x4) ⟨h5, trivial⟩
theorem f57_p3_ok (F : Nat) (x4 : Int) : ∀ (k : Nat) (x7 : Int) (x6 : List Int) (r : (List Int)), f57_p3 F x4 k x7 x6 = some r → f57_p3_P x4 x7 x6 r
  | 0, _, _, _, h => by cases h
  | k + 1, x7, x6, r, h => by
    unfold f57_p3 at h
    by_cases h14 : (decide (x7 < (((Int.toNat (w64 (x4))) : Nat) : Int))) = true
    · rw [if_pos h14] at h
      obtain ⟨h15, h⟩ := req_some h
      obtain ⟨h16, h⟩ := req_some h
      obtain ⟨h17, h⟩ := req_some h
      obtain ⟨h18, h⟩ := req_some h
      exact Lp.again (gRun_ok cxOK (f57_p3_e0 x4 x6 x7) ⟨h14, h15, h16, h17, h18, trivial⟩) (f57_p3_ok F x4 k (w64 (x7 + (((Nat.min (List.length (List.drop 0 (List.take (0 + (Int.toNat x7)) x6))) ((Int.toNat (w64 (x4))) - (Int.toNat x7))) : Nat) : Int))) (List.take (0 + (Int.toNat x7)) x6 ++ List.take (Nat.min (List.length (List.drop 0 (List.take (0 + (Int.toNat x7)) x6))) ((Int.toNat (w64 (x4))) - (Int.toNat x7))) (List.drop 0 (List.take (0 + (Int.toNat x7)) x6)) ++ List.drop ((0 + (Int.toNat x7)) + (Nat.min (List.length (List.drop 0 (List.take (0 + (Int.toNat x7)) x6))) ((Int.toNat (w64 (x4))) - (Int.toNat x7)))) x6) r h)
    · rw [if_neg h14] at h
      have h14 := Bool.eq_false_iff.2 h14
      obtain rfl := Option.some.inj h
      exact Lp.out (gRun_ok cxOK (f57_p3_e1 x4 x6 x7) ⟨h14, trivial⟩) (by intro hh; cases hh)
theorem f57_ok (F : Nat) (x1 : List Int) (x2 : Int) (r : Nat × Nat × (List Int)) (h : f57 F x1 x2 = some r) : f57_C x1 x2 r := by
  unfold f57 at h
  obtain ⟨rh2, h2, h⟩ := bind_some h
  have ch2 := f57_p0_ok F x1 x2 _ h2
  try dsimp only at h
  obtain ⟨rh3, h3, h⟩ := bind_some h
  have ch3 := f87_ok F (IntKind.wrap .u64 (((List.length x1 : Nat) : Int))) (IntKind.wrap .u64 (x2)) _ h3
  obtain ⟨x3, x4⟩ := rh3
  try dsimp only at h
  by_cases h4 : (decide (x3 > 0)) = true
  · rw [if_pos h4] at h
    cases h
  · rw [if_neg h4] at h
    have h4 := Bool.eq_false_iff.2 h4
    obtain ⟨rh6, h6, h⟩ := bind_some h
    have ch6 := f57_p1_ok F x1 x4 _ h6
    try dsimp only at h
    obtain ⟨h7, h⟩ := req_some h
    obtain ⟨h8, h⟩ := req_some h
    obtain ⟨rh19, h19, h⟩ := bind_some h
    have ch19 := f57_p3_ok F x4 F (((Nat.min (List.length x1) (Int.toNat (w64 (x4)))) : Nat) : Int) (List.take 0 (List.replicate (Int.toNat (w64 (x4))) (0 : Int)) ++ List.take (Nat.min (List.length x1) (Int.toNat (w64 (x4)))) x1 ++ List.drop (0 + (Nat.min (List.length x1) (Int.toNat (w64 (x4))))) (List.replicate (Int.toNat (w64 (x4))) (0 : Int))) _ h19
    obtain ⟨x8, rfl⟩ : ∃ z, z = rh19 := ⟨_, rfl⟩
    try dsimp only at h
    obtain rfl := Option.some.inj h
    exact callOK cxOK cxW Tryd.func57 (by kernel_rfl) (f57_e0 x1 x2 x3 x4 x8) ⟨ch2, ch3, h4, h4, h4, ch6, h7, h8, ch19, trivial⟩

theorem f80_p1_ok (F : Nat) (x1 : List Int) (x2 : Int) : ∀ (k : Nat) (x3 : Int) (r : f80_p1_R), f80_p1 F x1 x2 k x3 = some r → f80_p1_P x1 x2 x3 r
  | 0, _, _, h => by cases h
  | k + 1, x3, r, h => by
    unfold f80_p1 at h
    by_cases h1 : (decide (x3 < ((List.length x1 : Nat) : Int))) = true
    · rw [if_pos h1] at h
      obtain ⟨x4, h2, h⟩ := bind_some h
      try dsimp only at h
      by_cases h3 : (x2 == x4) = true
      · rw [if_pos h3] at h
        obtain rfl := Option.some.inj h
        exact Lp.out (gRun_ok cxOK (f80_p1_e0 x1 x2 x3 x4) ⟨h1, ⟨(at?_spec h2).1, x4, (at?_spec h2).2, rfl⟩, h3, trivial⟩) (by intro hh; cases hh)
      · rw [if_neg h3] at h
        have h3 := Bool.eq_false_iff.2 h3
        exact Lp.again (gRun_ok cxOK (f80_p1_e1 x1 x2 x3 x4) ⟨h1, ⟨(at?_spec h2).1, x4, (at?_spec h2).2, rfl⟩, h3, trivial⟩) (f80_p1_ok F x1 x2 k (w64 (x3 + 1)) r h)
    · rw [if_neg h1] at h
      have h1 := Bool.eq_false_iff.2 h1
      obtain rfl := Option.some.inj h
      exact Lp.out (gRun_ok cxOK (f80_p1_e2 x1 x2 x3) ⟨h1, trivial⟩) (by intro hh; cases hh)
theorem f80_ok (F : Nat) (x1 : List Int) (x2 : Int) (r : Int) (h : f80 F x1 x2 = some r) : f80_C x1 x2 r := by
  unfold f80 at h
  obtain ⟨rh4, h4, h⟩ := bind_some h
  have ch4 := f80_p1_ok F x1 x2 F 0 _ h4
  cases rh4 with
  | c0 x5 =>
    try dsimp only at h
    obtain rfl := Option.some.inj h
    exact callOK cxOK cxW Tryd.func80 (by kernel_rfl) (f80_e0 x1 x2 x5) ⟨ch4, trivial⟩
  | c1 =>
    try dsimp only at h
    obtain rfl := Option.some.inj h
    exact callOK cxOK cxW Tryd.func80 (by kernel_rfl) (f80_e1 x1 x2) ⟨ch4, trivial⟩

theorem f36_ok (F : Nat) (x1 : List Int) (x2 : Int) (r : Bool) (h : f36 F x1 x2 = some r) : f36_C x1 x2 r := by
  unfold f36 at h
  obtain ⟨rh1, h1, h⟩ := bind_some h
  have ch1 := f80_ok F x1 x2 _ h1
  obtain ⟨x3, rfl⟩ : ∃ z, z = rh1 := ⟨_, rfl⟩
  try dsimp only at h
  obtain rfl := Option.some.inj h
  exact callOK cxOK cxW Tryd.func36 (by kernel_rfl) (f36_e0 x1 x2 x3) ⟨ch1, trivial⟩

theorem f19_p9_5_ok (F : Nat) (x1 : Int) (x2 : List Int) (x39 : Int) (x41 : Nat) (x42 : Nat) (x51 : Int) (x50 : Int) (x52 : Bool) (x40 : Int) (x38 : List (List Int)) (x49 : List Int) (r : (List Int)) (h : f19_p9_5 F x1 x2 x39 x41 x42 x51 x50 x52 x40 x38 x49 = some r) : f19_p9_5_P x1 x2 x39 x41 x42 x51 x50 x52 x40 x38 x49 r := by
  unfold f19_p9_5 at h
  by_cases h72 : x52 = true
  · rw [if_pos h72] at h
    obtain rfl := Option.some.inj h
    exact gRun_ok cxOK (f19_p9_5_e0 x1 x2 x38 x39 x40 x41 x42 x49 x50 x51 x52) ⟨(by rw [h72]; rfl), trivial⟩
  · rw [if_neg h72] at h
    have h72 := Bool.eq_false_iff.2 h72
    obtain ⟨rh73, h73, h⟩ := bind_some h
    have ch73 := f64_ok F x51 x39 _ h73
    obtain ⟨x53, rfl⟩ : ∃ z, z = rh73 := ⟨_, rfl⟩
    try dsimp only at h
    obtain ⟨h74, h⟩ := req_some h
    obtain ⟨h75, h⟩ := req_some h
    obtain ⟨h76, h⟩ := req_some h
    obtain rfl := Option.some.inj h
    exact gRun_ok cxOK (f19_p9_5_e1 x1 x2 x38 x39 x40 x41 x42 x49 x50 x51 x52 x53) ⟨(by rw [h72]; rfl), ch73, h74, h75, h76, trivial⟩
theorem f19_p6_2_ok (F : Nat) (x1 : Int) (x2 : List Int) (x39 : Int) (x41 : Nat) (x42 : Nat) (x40 : Int) (x38 : List (List Int)) : ∀ (k : Nat) (x50 : Int) (x49 : List Int) (r : (List Int)), f19_p6_2 F x1 x2 x39 x41 x42 x40 x38 k x50 x49 = some r → f19_p6_2_P x1 x2 x39 x41 x42 x40 x38 x50 x49 r
  | 0, _, _, _, h => by cases h
  | k + 1, x50, x49, r, h => by
    unfold f19_p6_2 at h
    by_cases h68 : (decide (x50 < ((List.length x2 : Nat) : Int))) = true
    · rw [if_pos h68] at h
      obtain ⟨x51, h69, h⟩ := bind_some h
      try dsimp only at h
      obtain ⟨h70, h⟩ := req_some h
      obtain ⟨rh71, h71, h⟩ := bind_some h
      have ch71 := f36_ok F x2 (iXor .i64 x51 (iShl .i64 1 x39)) _ h71
      obtain ⟨x52, rfl⟩ : ∃ z, z = rh71 := ⟨_, rfl⟩
      try dsimp only at h
      obtain ⟨rh77, h77, h⟩ := bind_some h
      have ch77 := f19_p9_5_ok F x1 x2 x39 x41 x42 x51 x50 x52 x40 x38 x49 _ h77
      obtain ⟨x54, rfl⟩ : ∃ z, z = rh77 := ⟨_, rfl⟩
      try dsimp only at h
      exact Lp.again (gRun_ok cxOK (f19_p6_2_e0 x1 x2 x38 x39 x40 x41 x42 x49 x50 x51 x52 x54) ⟨h68, ⟨(at?_spec h69).1, x51, (at?_spec h69).2, rfl⟩, h70, ch71, ch77, trivial⟩) (f19_p6_2_ok F x1 x2 x39 x41 x42 x40 x38 k (w64 (x50 + 1)) x54 r h)
    · rw [if_neg h68] at h
      have h68 := Bool.eq_false_iff.2 h68
      obtain rfl := Option.some.inj h
      exact Lp.out (gRun_ok cxOK (f19_p6_2_e1 x1 x2 x38 x39 x40 x41 x42 x49 x50) ⟨h68, trivial⟩) (by intro hh; cases hh)
theorem f19_p2_ok (F : Nat) (x1 : Int) (x2 : List Int) : ∀ (k : Nat) (x39 : Int) (x40 : Int) (x38 : List (List Int)) (r : Int × (List (List Int))), f19_p2 F x1 x2 k x39 x40 x38 = some r → f19_p2_P x1 x2 x39 x40 x38 r
  | 0, _, _, _, _, h => by cases h
  | k + 1, x39, x40, x38, r, h => by
    unfold f19_p2 at h
    by_cases h55 : (decide (x39 < x1)) = true
    · rw [if_pos h55] at h
      obtain ⟨h56, h⟩ := req_some h
      obtain ⟨rh57, h57, h⟩ := bind_some h
      have ch57 := f57_ok F ([2] : List Int) (iShl .i64 1 (w64 (x1 - 1))) _ h57
      obtain ⟨x41, x42, x43⟩ := rh57
      try dsimp only at h
      obtain ⟨rh78, h78, h⟩ := bind_some h
      have ch78 := f19_p6_2_ok F x1 x2 x39 x41 x42 x40 x38 F 0 x43 _ h78
      obtain ⟨x55, rfl⟩ : ∃ z, z = rh78 := ⟨_, rfl⟩
      try dsimp only at h
      obtain ⟨h79, h⟩ := req_some h
      obtain ⟨h80, h⟩ := req_some h
      exact Lp.again (gRun_ok cxOK (f19_p2_e0 x1 x2 x38 x39 x40 x41 x42 x43 x55) ⟨h55, h56, ch57, ch78, h79, h80, rfl, trivial⟩) (f19_p2_ok F x1 x2 k (w64 (x39 + 1)) x40 (x38 ++ ([(List.drop x41 (List.take (x41 + x42) x55))] : List (List Int))) r h)
    · rw [if_neg h55] at h
      have h55 := Bool.eq_false_iff.2 h55
      obtain rfl := Option.some.inj h
      exact Lp.out (gRun_ok cxOK (f19_p2_e1 x1 x2 x38 x39 x40) ⟨h55, trivial⟩) (by intro hh; cases hh)
theorem f19_ok (F : Nat) (x1 : Int) (x2 : List Int) (r : Int × (List (List Int)) × Int) (h : f19 F x1 x2 = some r) : f19_C x1 x2 r := by
  unfold f19 at h
  obtain ⟨rh1, h1, h⟩ := bind_some h
  have ch1 := f59_ok F x1 x2 _ h1
  obtain ⟨x3, x4⟩ := rh1
  try dsimp only at h
  by_cases h2 : (x4 != 0) = true
  · rw [if_pos h2] at h
    obtain rfl := Option.some.inj h
    exact callOK cxOK cxW Tryd.func19 (by kernel_rfl) (f19_e0 x1 x2 x3 x4) ⟨ch1, h2, trivial⟩
  · rw [if_neg h2] at h
    have h2 := Bool.eq_false_iff.2 h2
    obtain ⟨rh81, h81, h⟩ := bind_some h
    have ch81 := f19_p2_ok F x1 x2 F 0 x1 ([] : List (List Int)) _ h81
    obtain ⟨x56, x57⟩ := rh81
    try dsimp only at h
    obtain rfl := Option.some.inj h
    exact callOK cxOK cxW Tryd.func19 (by kernel_rfl) (f19_e1 x1 x2 x3 x4 x56 x57) ⟨ch1, h2, ch81, (Nat.le_of_eq (Nat.zero_add _)), trivial⟩

theorem f69_ok (F : Nat) (x1 : Int) (r : Int) (h : f69 F x1 = some r) : f69_C x1 r := by
  unfold f69 at h
  obtain ⟨rh1, h1, h⟩ := bind_some h
  have ch1 := f74_ok F x1 _ h1
  obtain ⟨x2, rfl⟩ : ∃ z, z = rh1 := ⟨_, rfl⟩
  try dsimp only at h
  by_cases h2 : x2 = true
  · rw [if_pos h2] at h
    by_cases h3 : ((iAnd .i64 x1 (w64 (x1 + 1))) != 0) = true
    · rw [if_pos h3] at h
      obtain rfl := Option.some.inj h
      exact callOK cxOK cxW Tryd.func69 (by kernel_rfl) (f69_e0 x1 x2) ⟨ch1, (by rw [h2]; rfl), h3, trivial⟩
    · rw [if_neg h3] at h
      have h3 := Bool.eq_false_iff.2 h3
      obtain rfl := Option.some.inj h
      exact callOK cxOK cxW Tryd.func69 (by kernel_rfl) (f69_e1 x1 x2) ⟨ch1, (by rw [h2]; rfl), h3, trivial⟩
  · rw [if_neg h2] at h
    have h2 := Bool.eq_false_iff.2 h2
    obtain rfl := Option.some.inj h
    exact callOK cxOK cxW Tryd.func69 (by kernel_rfl) (f69_e2 x1 x2) ⟨ch1, (by rw [h2]; rfl), trivial⟩

theorem f107_ok (F : Nat) (x1 : Int) (r : Int) (h : f107 F x1 = some r) : f107_C x1 r := by
  unfold f107 at h
  by_cases h1 : (x1 == 0) = true
  · rw [if_pos h1] at h
    obtain rfl := Option.some.inj h
    exact callOK cxOK cxW Tryd.func107 (by kernel_rfl) (f107_e0 x1) ⟨h1, trivial⟩
  · rw [if_neg h1] at h
    have h1 := Bool.eq_false_iff.2 h1
    obtain ⟨x2, h2, h⟩ := bind_some h
    try dsimp only at h
    obtain rfl := Option.some.inj h
    exact callOK cxOK cxW Tryd.func107 (by kernel_rfl) (f107_e1 x1 x2) ⟨h1, (by decide), ⟨(at?_spec h2).1, at?_lt h2, x2, (at?_spec h2).2, rfl⟩, trivial⟩

theorem f88_ok (F : Nat) (x1 : Int) (r : Int) (h : f88 F x1 = some r) : f88_C x1 r := by
  unfold f88 at h
  obtain ⟨rh1, h1, h⟩ := bind_some h
  have ch1 := f107_ok F x1 _ h1
  obtain ⟨x2, rfl⟩ : ∃ z, z = rh1 := ⟨_, rfl⟩
  try dsimp only at h
  obtain rfl := Option.some.inj h
  exact callOK cxOK cxW Tryd.func88 (by kernel_rfl) (f88_e0 x1 x2) ⟨rfl, ch1, trivial⟩

theorem f70_p1_ok (F : Nat) : ∀ (k : Nat) (x2 : Int) (x3 : Int) (r : Int), f70_p1 F k x2 x3 = some r → f70_p1_P x2 x3 r
  | 0, _, _, _, h => by cases h
  | k + 1, x2, x3, r, h => by
    unfold f70_p1 at h
    by_cases h1 : (x3 != 0) = true
    · rw [if_pos h1] at h
      obtain ⟨rh2, h2, h⟩ := bind_some h
      have ch2 := f88_ok F x3 _ h2
      obtain ⟨x4, rfl⟩ : ∃ z, z = rh2 := ⟨_, rfl⟩
      try dsimp only at h
      exact Lp.again (gRun_ok cxOK (f70_p1_e0 x2 x3 x4) ⟨h1, ch2, trivial⟩) (f70_p1_ok F k (iXor .i64 x2 (w64 (x4 + 1))) (iAnd .u64 x3 (IntKind.wrap .u64 (x3 - 1))) r h)
    · rw [if_neg h1] at h
      have h1 := Bool.eq_false_iff.2 h1
      obtain rfl := Option.some.inj h
      exact Lp.out (gRun_ok cxOK (f70_p1_e1 x2 x3) ⟨h1, trivial⟩) (by intro hh; cases hh)
theorem f70_ok (F : Nat) (x1 : Int) (r : Int) (h : f70 F x1 = some r) : f70_C x1 r := by
  unfold f70 at h
  obtain ⟨rh3, h3, h⟩ := bind_some h
  have ch3 := f70_p1_ok F F 0 (IntKind.wrap .u64 (x1)) _ h3
  obtain ⟨x5, rfl⟩ : ∃ z, z = rh3 := ⟨_, rfl⟩
  try dsimp only at h
  obtain rfl := Option.some.inj h
  exact callOK cxOK cxW Tryd.func70 (by kernel_rfl) (f70_e0 x1 x5) ⟨ch3, trivial⟩

theorem f23_p5_1_ok (F : Nat) (x5 : List Int) (x6 : Int) (x1 : Int) (x7 : Int) (r : (List Int)) (h : f23_p5_1 F x5 x6 x1 x7 = some r) : f23_p5_1_P x5 x6 x1 x7 r := by
  unfold f23_p5_1 at h
  by_cases h11 : (x7 == 0) = true
  · rw [if_pos h11] at h
    obtain ⟨h12, h⟩ := req_some h
    obtain rfl := Option.some.inj h
    exact gRun_ok cxOK (f23_p5_1_e0 x1 x5 x6 x7) ⟨h11, h12, rfl, trivial⟩
  · rw [if_neg h11] at h
    have h11 := Bool.eq_false_iff.2 h11
    obtain rfl := Option.some.inj h
    exact gRun_ok cxOK (f23_p5_1_e1 x1 x5 x6 x7) ⟨h11, trivial⟩
theorem f23_p2_ok (F : Nat) (x1 : Int) : ∀ (k : Nat) (x6 : Int) (x5 : List Int) (r : (List Int)), f23_p2 F x1 k x6 x5 = some r → f23_p2_P x1 x6 x5 r
  | 0, _, _, _, h => by cases h
  | k + 1, x6, x5, r, h => by
    unfold f23_p2 at h
    by_cases h9 : (decide (x6 < (iShl .i64 1 x1))) = true
    · rw [if_pos h9] at h
      obtain ⟨rh10, h10, h⟩ := bind_some h
      have ch10 := f70_ok F x6 _ h10
      obtain ⟨x7, rfl⟩ : ∃ z, z = rh10 := ⟨_, rfl⟩
      try dsimp only at h
      obtain ⟨rh13, h13, h⟩ := bind_some h
      have ch13 := f23_p5_1_ok F x5 x6 x1 x7 _ h13
      obtain ⟨x8, rfl⟩ : ∃ z, z = rh13 := ⟨_, rfl⟩
      try dsimp only at h
      exact Lp.again (gRun_ok cxOK (f23_p2_e0 x1 x5 x6 x7 x8) ⟨h9, ch10, ch13, trivial⟩) (f23_p2_ok F x1 k (w64 (x6 + 1)) x8 r h)
    · rw [if_neg h9] at h
      have h9 := Bool.eq_false_iff.2 h9
      obtain rfl := Option.some.inj h
      exact Lp.out (gRun_ok cxOK (f23_p2_e1 x1 x5 x6) ⟨h9, trivial⟩) (by intro hh; cases hh)
theorem f23_ok (F : Nat) (x1 : Int) (r : (List Int) × Int) (h : f23 F x1 = some r) : f23_C x1 r := by
  unfold f23 at h
  obtain ⟨rh1, h1, h⟩ := bind_some h
  have ch1 := f69_ok F x1 _ h1
  obtain ⟨x2, rfl⟩ : ∃ z, z = rh1 := ⟨_, rfl⟩
  try dsimp only at h
  by_cases h2 : (x2 != 0) = true
  · rw [if_pos h2] at h
    obtain rfl := Option.some.inj h
    exact callOK cxOK cxW Tryd.func23 (by kernel_rfl) (f23_e0 x1 x2) ⟨ch1, h2, trivial⟩
  · rw [if_neg h2] at h
    have h2 := Bool.eq_false_iff.2 h2
    obtain ⟨h3, h⟩ := req_some h
    obtain ⟨rh14, h14, h⟩ := bind_some h
    have ch14 := f23_p2_ok F x1 F 0 ([] : List Int) _ h14
    obtain ⟨x9, rfl⟩ : ∃ z, z = rh14 := ⟨_, rfl⟩
    try dsimp only at h
    obtain rfl := Option.some.inj h
    exact callOK cxOK cxW Tryd.func23 (by kernel_rfl) (f23_e1 x1 x2 x9) ⟨ch1, h2, h3, ch14, (Nat.le_of_eq (Nat.zero_add _)), trivial⟩

theorem f25_ok (F : Nat) (x1 : Int) (x2 : Int) (r : Int × Int) (h : f25 F x1 x2 = some r) : f25_C x1 x2 r := by
  unfold f25 at h
  obtain ⟨rh1, h1, h⟩ := bind_some h
  have ch1 := f69_ok F x1 _ h1
  obtain ⟨x3, rfl⟩ : ∃ z, z = rh1 := ⟨_, rfl⟩
  try dsimp only at h
  by_cases h2 : (x3 != 0) = true
  · rw [if_pos h2] at h
    obtain rfl := Option.some.inj h
    exact callOK cxOK cxW Tryd.func25 (by kernel_rfl) (f25_e0 x1 x2 x3) ⟨ch1, h2, trivial⟩
  · rw [if_neg h2] at h
    have h2 := Bool.eq_false_iff.2 h2
    by_cases h3 : (decide (x2 < 0)) = true
    · rw [if_pos h3] at h
      obtain rfl := Option.some.inj h
      exact callOK cxOK cxW Tryd.func25 (by kernel_rfl) (f25_e1 x1 x2 x3) ⟨ch1, h2, h3, h3, h3, h3, h3, rfl, trivial⟩
    · rw [if_neg h3] at h
      have h3 := Bool.eq_false_iff.2 h3
      obtain ⟨h4, h⟩ := req_some h
      by_cases h5 : (decide (x2 ≥ (iShl .i64 1 x1))) = true
      · rw [if_pos h5] at h
        obtain rfl := Option.some.inj h
        exact callOK cxOK cxW Tryd.func25 (by kernel_rfl) (f25_e2 x1 x2 x3) ⟨ch1, h2, h3, h3, h3, h4, h3, h3, h5, trivial⟩
      · rw [if_neg h5] at h
        have h5 := Bool.eq_false_iff.2 h5
        obtain ⟨rh6, h6, h⟩ := bind_some h
        have ch6 := f70_ok F x2 _ h6
        obtain ⟨x4, rfl⟩ : ∃ z, z = rh6 := ⟨_, rfl⟩
        try dsimp only at h
        by_cases h7 : (decide (x4 > 0)) = true
        · rw [if_pos h7] at h
          obtain ⟨h8, h⟩ := req_some h
          obtain rfl := Option.some.inj h
          exact callOK cxOK cxW Tryd.func25 (by kernel_rfl) (f25_e3 x1 x2 x3 x4) ⟨ch1, h2, h3, h3, h3, h4, h3, h3, h5, ch6, h7, h8, trivial⟩
        · rw [if_neg h7] at h
          have h7 := Bool.eq_false_iff.2 h7
          obtain rfl := Option.some.inj h
          exact callOK cxOK cxW Tryd.func25 (by kernel_rfl) (f25_e4 x1 x2 x3 x4) ⟨ch1, h2, h3, h3, h3, h4, h3, h3, h5, ch6, h7, trivial⟩

theorem f89_ok (F : Nat) (x1 : Int) (r : Int) (h : f89 F x1 = some r) : f89_C x1 r := by
  unfold f89 at h
  obtain ⟨h1, h⟩ := req_some h
  obtain ⟨h2, h⟩ := req_some h
  obtain rfl := Option.some.inj h
  exact callOK cxOK cxW Tryd.func89 (by kernel_rfl) (f89_e0 x1) ⟨(by decide), h1, h2, trivial⟩

theorem f90_ok (F : Nat) (x1 : List Int) (r : (List Int)) (h : f90 F x1 = some r) : f90_C x1 r := by
  unfold f90 at h
  obtain ⟨h1, h⟩ := req_some h
  obtain rfl := Option.some.inj h
  exact callOK cxOK cxW Tryd.func90 (by kernel_rfl) (f90_e0 x1) ⟨h1, trivial⟩

theorem f75_p2_ok (F : Nat) (x4 : List Int) (x5 : Int) (x6 : Int) (x1 : Int) (x2 : List Int) (x3 : Int) (r : Int) (h : f75_p2 F x4 x5 x6 x1 x2 x3 = some r) : f75_p2_P x4 x5 x6 x1 x2 x3 r := by
  unfold f75_p2 at h
  by_cases h4 : (decide (((List.length x4 : Nat) : Int) > 0)) = true
  · rw [if_pos h4] at h
    obtain ⟨x8, h5, h⟩ := bind_some h
    try dsimp only at h
    obtain rfl := Option.some.inj h
    exact gRun_ok cxOK (f75_p2_e0 x1 x2 x3 x4 x5 x6 x8) ⟨h4, ⟨(at?_spec h5).1, x8, (at?_spec h5).2, rfl⟩, trivial⟩
  · rw [if_neg h4] at h
    have h4 := Bool.eq_false_iff.2 h4
    obtain rfl := Option.some.inj h
    exact gRun_ok cxOK (f75_p2_e1 x1 x2 x3 x4 x5 x6) ⟨h4, trivial⟩
theorem f75_p4_ok (F : Nat) (rec : Int → (List Int) → Int → (List Int) → Int → Int → Option ((List Int) × Bool)) (hrec : ∀ (x1 : Int) (x2 : List Int) (x3 : Int) (x4 : List Int) (x5 : Int) (x6 : Int) (r : (List Int) × Bool), rec x1 x2 x3 x4 x5 x6 = some r → f75_C x1 x2 x3 x4 x5 x6 r) (x4 : List Int) (x5 : Int) (x6 : Int) (x1 : Int) (x2 : List Int) (x3 : Int) : ∀ (k : Nat) (x10 : Int) (r : f75_p4_R), f75_p4 F rec x4 x5 x6 x1 x2 x3 k x10 = some r → f75_p4_P x4 x5 x6 x1 x2 x3 x10 r
  | 0, _, _, h => by cases h
  | k + 1, x10, r, h => by
    unfold f75_p4 at h
    by_cases h7 : (decide (x10 < ((List.length x2 : Nat) : Int))) = true
    · rw [if_pos h7] at h
      obtain ⟨rh8, h8, h⟩ := bind_some h
      have ch8 := f90_ok F x4 _ h8
      obtain ⟨x11, rfl⟩ : ∃ z, z = rh8 := ⟨_, rfl⟩
      try dsimp only at h
      obtain ⟨h9, h⟩ := req_some h
      obtain ⟨x12, h10, h⟩ := bind_some h
      try dsimp only at h
      obtain ⟨rh11, h11, h⟩ := bind_some h
      have ch11 := hrec x1 x2 x3 (x11 ++ ([x10] : List Int)) (iOr .u16 x5 x12) (w64 (x6 - 1)) _ h11
      obtain ⟨x13, x14⟩ := rh11
      try dsimp only at h
      by_cases h12 : x14 = true
      · rw [if_pos h12] at h
        obtain rfl := Option.some.inj h
        exact Lp.out (gRun_ok cxOK (f75_p4_e0 x1 x2 x3 x4 x5 x6 x10 x11 x12 x13 x14) ⟨h7, ch8, h9, (.inr (by simp)), rfl, ⟨(at?_spec h10).1, x12, (at?_spec h10).2, rfl⟩, ch11, h12, trivial⟩) (by intro hh; cases hh)
      · rw [if_neg h12] at h
        have h12 := Bool.eq_false_iff.2 h12
        exact Lp.again (gRun_ok cxOK (f75_p4_e1 x1 x2 x3 x4 x5 x6 x10 x11 x12 x13 x14) ⟨h7, ch8, h9, (.inr (by simp)), rfl, ⟨(at?_spec h10).1, x12, (at?_spec h10).2, rfl⟩, ch11, h12, trivial⟩) (f75_p4_ok F rec hrec x4 x5 x6 x1 x2 x3 k (w64 (x10 + 1)) r h)
    · rw [if_neg h7] at h
      have h7 := Bool.eq_false_iff.2 h7
      obtain rfl := Option.some.inj h
      exact Lp.out (gRun_ok cxOK (f75_p4_e2 x1 x2 x3 x4 x5 x6 x10) ⟨h7, trivial⟩) (by intro hh; cases hh)
theorem f75_b_ok (F : Nat) (rec : Int → (List Int) → Int → (List Int) → Int → Int → Option ((List Int) × Bool)) (hrec : ∀ (x1 : Int) (x2 : List Int) (x3 : Int) (x4 : List Int) (x5 : Int) (x6 : Int) (r : (List Int) × Bool), rec x1 x2 x3 x4 x5 x6 = some r → f75_C x1 x2 x3 x4 x5 x6 r) (x1 : Int) (x2 : List Int) (x3 : Int) (x4 : List Int) (x5 : Int) (x6 : Int) (r : (List Int) × Bool) (h : f75_b F rec x1 x2 x3 x4 x5 x6 = some r) : f75_C x1 x2 x3 x4 x5 x6 r := by
  unfold f75_b at h
  by_cases h1 : (x6 == 0) = true
  · rw [if_pos h1] at h
    obtain rfl := Option.some.inj h
    exact callOK cxOK cxW Tryd.func75 (by kernel_rfl) (f75_e0 x1 x2 x3 x4 x5 x6) ⟨h1, trivial⟩
  · rw [if_neg h1] at h
    have h1 := Bool.eq_false_iff.2 h1
    obtain ⟨rh2, h2, h⟩ := bind_some h
    have ch2 := f89_ok F (iAndNot .u16 x3 x5) _ h2
    obtain ⟨x7, rfl⟩ : ∃ z, z = rh2 := ⟨_, rfl⟩
    try dsimp only at h
    by_cases h3 : (decide (x7 > (w64 (x6 * (w64 (x1 + 1)))))) = true
    · rw [if_pos h3] at h
      obtain rfl := Option.some.inj h
      exact callOK cxOK cxW Tryd.func75 (by kernel_rfl) (f75_e1 x1 x2 x3 x4 x5 x6 x7) ⟨h1, ch2, h3, trivial⟩
    · rw [if_neg h3] at h
      have h3 := Bool.eq_false_iff.2 h3
      obtain ⟨rh6, h6, h⟩ := bind_some h
      have ch6 := f75_p2_ok F x4 x5 x6 x1 x2 x3 _ h6
      obtain ⟨x9, rfl⟩ : ∃ z, z = rh6 := ⟨_, rfl⟩
      try dsimp only at h
      obtain ⟨rh13, h13, h⟩ := bind_some h
      have ch13 := f75_p4_ok F rec hrec x4 x5 x6 x1 x2 x3 F x9 _ h13
      cases rh13 with
      | c0 x15 =>
        try dsimp only at h
        obtain rfl := Option.some.inj h
        exact callOK cxOK cxW Tryd.func75 (by kernel_rfl) (f75_e2 x1 x2 x3 x4 x5 x6 x7 x9 x15) ⟨h1, ch2, h3, ch6, ch13, trivial⟩
      | c1 =>
        try dsimp only at h
        obtain rfl := Option.some.inj h
        exact callOK cxOK cxW Tryd.func75 (by kernel_rfl) (f75_e3 x1 x2 x3 x4 x5 x6 x7 x9) ⟨h1, ch2, h3, ch6, ch13, trivial⟩
theorem f75_ok (F : Nat) : ∀ (k : Nat) (x1 : Int) (x2 : List Int) (x3 : Int) (x4 : List Int) (x5 : Int) (x6 : Int) (r : (List Int) × Bool), f75 F k x1 x2 x3 x4 x5 x6 = some r → f75_C x1 x2 x3 x4 x5 x6 r
  | 0, _, _, _, _, _, _, _, h => by cases h
  | k + 1, x1, x2, x3, x4, x5, x6, r, h => f75_b_ok F (f75 F k) (f75_ok F k) x1 x2 x3 x4 x5 x6 r h

theorem f27_p8_2_ok (F : Nat) (x1 : Int) (x14 : Int) (x15 : Int) (x13 : List Int) (x16 : Int) : ∀ (k : Nat) (x17 : Int) (x18 : Int) (r : Int), f27_p8_2 F x1 x14 x15 x13 x16 k x17 x18 = some r → f27_p8_2_P x1 x14 x15 x13 x16 x17 x18 r
  | 0, _, _, _, h => by cases h
  | k + 1, x17, x18, r, h => by
    unfold f27_p8_2 at h
    by_cases h22 : (decide (x18 < x1)) = true
    · rw [if_pos h22] at h
      obtain ⟨h23, h⟩ := req_some h
      obtain ⟨h24, h⟩ := req_some h
      exact Lp.again (gRun_ok cxOK (f27_p8_2_e0 x1 x13 x14 x15 x16 x17 x18) ⟨h22, h23, h24, trivial⟩) (f27_p8_2_ok F x1 x14 x15 x13 x16 k (iOr .u16 x17 (iShl .u16 1 (iXor .i64 x14 (iShl .i64 1 x18)))) (w64 (x18 + 1)) r h)
    · rw [if_neg h22] at h
      have h22 := Bool.eq_false_iff.2 h22
      obtain rfl := Option.some.inj h
      exact Lp.out (gRun_ok cxOK (f27_p8_2_e1 x1 x13 x14 x15 x16 x17 x18) ⟨h22, trivial⟩) (by intro hh; cases hh)
theorem f27_p4_ok (F : Nat) (x1 : Int) : ∀ (k : Nat) (x14 : Int) (x15 : Int) (x16 : Int) (x13 : List Int) (r : Int × Int × (List Int)), f27_p4 F x1 k x14 x15 x16 x13 = some r → f27_p4_P x1 x14 x15 x16 x13 r
  | 0, _, _, _, _, _, h => by cases h
  | k + 1, x14, x15, x16, x13, r, h => by
    unfold f27_p4 at h
    by_cases h20 : (decide (x14 < (iShl .i64 1 x1))) = true
    · rw [if_pos h20] at h
      obtain ⟨h21, h⟩ := req_some h
      obtain ⟨rh25, h25, h⟩ := bind_some h
      have ch25 := f27_p8_2_ok F x1 x14 x15 x13 x16 F (iShl .u16 1 x14) 0 _ h25
      obtain ⟨x19, rfl⟩ : ∃ z, z = rh25 := ⟨_, rfl⟩
      try dsimp only at h
      obtain ⟨h26, h⟩ := req_some h
      exact Lp.again (gRun_ok cxOK (f27_p4_e0 x1 x13 x14 x15 x16 x19) ⟨h20, h21, ch25, h26, rfl, trivial⟩) (f27_p4_ok F x1 k (w64 (x14 + 1)) x15 x16 (x13 ++ ([x19] : List Int)) r h)
    · rw [if_neg h20] at h
      have h20 := Bool.eq_false_iff.2 h20
      obtain rfl := Option.some.inj h
      exact Lp.out (gRun_ok cxOK (f27_p4_e1 x1 x13 x14 x15 x16) ⟨h20, trivial⟩) (by intro hh; cases hh)
theorem f27_p12_ok (F : Nat) (x20 : Int) (x22 : List Int) (x21 : Int) : ∀ (k : Nat) (x26 : Int) (r : f27_p12_R), f27_p12 F x20 x22 x21 k x26 = some r → f27_p12_P x20 x22 x21 x26 r
  | 0, _, _, h => by cases h
  | k + 1, x26, r, h => by
    unfold f27_p12 at h
    by_cases h31 : (decide (x26 ≤ ((List.length (List.drop 0 (List.take (0 + (List.length x22)) x22)) : Nat) : Int))) = true
    · rw [if_pos h31] at h
      obtain ⟨rh32, h32, h⟩ := bind_some h
      have ch32 := f75_ok F F x20 (List.drop 0 (List.take (0 + (List.length x22)) x22)) x21 ([] : List Int) 0 x26 _ h32
      obtain ⟨x27, x28⟩ := rh32
      try dsimp only at h
      by_cases h33 : x28 = true
      · rw [if_pos h33] at h
        obtain rfl := Option.some.inj h
        exact Lp.out (gRun_ok cxOK (f27_p12_e0 x20 x21 x22 x26 x27 x28) ⟨h31, ch32, h33, trivial⟩) (by intro hh; cases hh)
      · rw [if_neg h33] at h
        have h33 := Bool.eq_false_iff.2 h33
        exact Lp.again (gRun_ok cxOK (f27_p12_e1 x20 x21 x22 x26 x27 x28) ⟨h31, ch32, h33, trivial⟩) (f27_p12_ok F x20 x22 x21 k (w64 (x26 + 1)) r h)
    · rw [if_neg h31] at h
      have h31 := Bool.eq_false_iff.2 h31
      obtain rfl := Option.some.inj h
      exact Lp.out (gRun_ok cxOK (f27_p12_e2 x20 x21 x22 x26) ⟨h31, trivial⟩) (by intro hh; cases hh)
theorem f27_ok (F : Nat) (x1 : Int) (r : (List Int) × Int) (h : f27 F x1 = some r) : f27_C x1 r := by
  unfold f27 at h
  obtain ⟨rh1, h1, h⟩ := bind_some h
  have ch1 := f74_ok F x1 _ h1
  obtain ⟨x2, rfl⟩ : ∃ z, z = rh1 := ⟨_, rfl⟩
  try dsimp only at h
  by_cases h2 : x2 = true
  · rw [if_pos h2] at h
    by_cases h3 : (decide (x1 > 4)) = true
    · rw [if_pos h3] at h
      obtain rfl := Option.some.inj h
      exact callOK cxOK cxW Tryd.func27 (by kernel_rfl) (f27_e0 x1 x2) ⟨ch1, (by rw [h2]; rfl), h3, trivial⟩
    · rw [if_neg h3] at h
      have h3 := Bool.eq_false_iff.2 h3
      obtain ⟨h4, h⟩ := req_some h
      obtain ⟨h5, h⟩ := req_some h
      obtain ⟨rh27, h27, h⟩ := bind_some h
      have ch27 := f27_p4_ok F x1 F 0 x1 (IntKind.wrap .u16 ((iShl .u16 1 (iShl .u64 1 x1)) - 1)) ([] : List Int) _ h27
      obtain ⟨x20, x21, x22⟩ := rh27
      try dsimp only at h
      obtain ⟨rh34, h34, h⟩ := bind_some h
      have ch34 := f27_p12_ok F x20 x22 x21 F 1 _ h34
      cases rh34 with
      | c0 x29 =>
        try dsimp only at h
        obtain rfl := Option.some.inj h
        exact callOK cxOK cxW Tryd.func27 (by kernel_rfl) (f27_e1 x1 x2 x20 x21 x22 x29) ⟨ch1, (by rw [h2]; rfl), h3, h4, h5, h4, ch27, (Nat.le_of_eq (Nat.zero_add _)), ch34, trivial⟩
      | c1 =>
        try dsimp only at h
        obtain rfl := Option.some.inj h
        exact callOK cxOK cxW Tryd.func27 (by kernel_rfl) (f27_e2 x1 x2 x20 x21 x22) ⟨ch1, (by rw [h2]; rfl), h3, h4, h5, h4, ch27, (Nat.le_of_eq (Nat.zero_add _)), ch34, trivial⟩
  · rw [if_neg h2] at h
    have h2 := Bool.eq_false_iff.2 h2
    obtain rfl := Option.some.inj h
    exact callOK cxOK cxW Tryd.func27 (by kernel_rfl) (f27_e3 x1 x2) ⟨ch1, (by rw [h2]; rfl), trivial⟩

theorem f29_ok (F : Nat) (x1 : Int) (r : Int × Int) (h : f29 F x1 = some r) : f29_C x1 r := by
  unfold f29 at h
  obtain ⟨rh1, h1, h⟩ := bind_some h
  have ch1 := f27_ok F x1 _ h1
  obtain ⟨x2, x3⟩ := rh1
  try dsimp only at h
  by_cases h2 : (x3 != 0) = true
  · rw [if_pos h2] at h
    obtain rfl := Option.some.inj h
    exact callOK cxOK cxW Tryd.func29 (by kernel_rfl) (f29_e0 x1 x2 x3) ⟨ch1, h2, trivial⟩
  · rw [if_neg h2] at h
    have h2 := Bool.eq_false_iff.2 h2
    obtain ⟨h3, h⟩ := req_some h
    obtain rfl := Option.some.inj h
    exact callOK cxOK cxW Tryd.func29 (by kernel_rfl) (f29_e1 x1 x2 x3) ⟨ch1, h2, h3, trivial⟩

theorem f21_p2_ok (F : Nat) (x1 : List Int) (x2 : List Int) : ∀ (k : Nat) (x3 : Int) (r : f21_p2_R), f21_p2 F x1 x2 k x3 = some r → f21_p2_P x1 x2 x3 r
  | 0, _, _, h => by cases h
  | k + 1, x3, r, h => by
    unfold f21_p2 at h
    by_cases h2 : (decide (x3 < ((List.length x1 : Nat) : Int))) = true
    · rw [if_pos h2] at h
      obtain ⟨x4, h3, h⟩ := bind_some h
      try dsimp only at h
      obtain ⟨x5, h4, h⟩ := bind_some h
      try dsimp only at h
      by_cases h5 : (x4 != x5) = true
      · rw [if_pos h5] at h
        obtain rfl := Option.some.inj h
        exact Lp.out (gRun_ok cxOK (f21_p2_e0 x1 x2 x3 x4 x5) ⟨h2, ⟨(at?_spec h3).1, x4, (at?_spec h3).2, rfl⟩, ⟨(at?_spec h4).1, x5, (at?_spec h4).2, rfl⟩, h5, trivial⟩) (by intro hh; cases hh)
      · rw [if_neg h5] at h
        have h5 := Bool.eq_false_iff.2 h5
        exact Lp.again (gRun_ok cxOK (f21_p2_e1 x1 x2 x3 x4 x5) ⟨h2, ⟨(at?_spec h3).1, x4, (at?_spec h3).2, rfl⟩, ⟨(at?_spec h4).1, x5, (at?_spec h4).2, rfl⟩, h5, trivial⟩) (f21_p2_ok F x1 x2 k (w64 (x3 + 1)) r h)
    · rw [if_neg h2] at h
      have h2 := Bool.eq_false_iff.2 h2
      obtain rfl := Option.some.inj h
      exact Lp.out (gRun_ok cxOK (f21_p2_e2 x1 x2 x3) ⟨h2, trivial⟩) (by intro hh; cases hh)
theorem f21_ok (F : Nat) (x1 : List Int) (x2 : List Int) (r : Bool) (h : f21 F x1 x2 = some r) : f21_C x1 x2 r := by
  unfold f21 at h
  by_cases h1 : (((List.length x1 : Nat) : Int) != ((List.length x2 : Nat) : Int)) = true
  · rw [if_pos h1] at h
    obtain rfl := Option.some.inj h
    exact callOK cxOK cxW Tryd.func21 (by kernel_rfl) (f21_e0 x1 x2) ⟨h1, trivial⟩
  · rw [if_neg h1] at h
    have h1 := Bool.eq_false_iff.2 h1
    obtain ⟨rh6, h6, h⟩ := bind_some h
    have ch6 := f21_p2_ok F x1 x2 F 0 _ h6
    cases rh6 with
    | c0 =>
      try dsimp only at h
      obtain rfl := Option.some.inj h
      exact callOK cxOK cxW Tryd.func21 (by kernel_rfl) (f21_e1 x1 x2) ⟨h1, ch6, trivial⟩
    | c1 =>
      try dsimp only at h
      obtain rfl := Option.some.inj h
      exact callOK cxOK cxW Tryd.func21 (by kernel_rfl) (f21_e2 x1 x2) ⟨h1, ch6, trivial⟩

theorem f22_p2_ok (F : Nat) (x1 : List (List Int)) (x2 : List (List Int)) : ∀ (k : Nat) (x3 : Int) (r : f22_p2_R), f22_p2 F x1 x2 k x3 = some r → f22_p2_P x1 x2 x3 r
  | 0, _, _, h => by cases h
  | k + 1, x3, r, h => by
    unfold f22_p2 at h
    by_cases h2 : (decide (x3 < ((List.length x1 : Nat) : Int))) = true
    · rw [if_pos h2] at h
      obtain ⟨x4, h3, h⟩ := bind_some h
      try dsimp only at h
      obtain ⟨x5, h4, h⟩ := bind_some h
      try dsimp only at h
      obtain ⟨rh5, h5, h⟩ := bind_some h
      have ch5 := f21_ok F x4 x5 _ h5
      obtain ⟨x6, rfl⟩ : ∃ z, z = rh5 := ⟨_, rfl⟩
      try dsimp only at h
      by_cases h6 : x6 = true
      · rw [if_pos h6] at h
        exact Lp.again (gRun_ok cxOK (f22_p2_e0 x1 x2 x3 x4 x5 x6) ⟨h2, ⟨(at?_spec h3).1, x4, (at?_spec h3).2, rfl⟩, ⟨(at?_spec h4).1, x5, (at?_spec h4).2, rfl⟩, ch5, (by rw [h6]; rfl), trivial⟩) (f22_p2_ok F x1 x2 k (w64 (x3 + 1)) r h)
      · rw [if_neg h6] at h
        have h6 := Bool.eq_false_iff.2 h6
        obtain rfl := Option.some.inj h
        exact Lp.out (gRun_ok cxOK (f22_p2_e1 x1 x2 x3 x4 x5 x6) ⟨h2, ⟨(at?_spec h3).1, x4, (at?_spec h3).2, rfl⟩, ⟨(at?_spec h4).1, x5, (at?_spec h4).2, rfl⟩, ch5, (by rw [h6]; rfl), trivial⟩) (by intro hh; cases hh)
    · rw [if_neg h2] at h
      have h2 := Bool.eq_false_iff.2 h2
      obtain rfl := Option.some.inj h
      exact Lp.out (gRun_ok cxOK (f22_p2_e2 x1 x2 x3) ⟨h2, trivial⟩) (by intro hh; cases hh)
theorem f22_ok (F : Nat) (x1 : List (List Int)) (x2 : List (List Int)) (r : Bool) (h : f22 F x1 x2 = some r) : f22_C x1 x2 r := by
  unfold f22 at h
  by_cases h1 : (((List.length x1 : Nat) : Int) != ((List.length x2 : Nat) : Int)) = true
  · rw [if_pos h1] at h
    obtain rfl := Option.some.inj h
    exact callOK cxOK cxW Tryd.func22 (by kernel_rfl) (f22_e0 x1 x2) ⟨h1, trivial⟩
  · rw [if_neg h1] at h
    have h1 := Bool.eq_false_iff.2 h1
    obtain ⟨rh7, h7, h⟩ := bind_some h
    have ch7 := f22_p2_ok F x1 x2 F 0 _ h7
    cases rh7 with
    | c0 =>
      try dsimp only at h
      obtain rfl := Option.some.inj h
      exact callOK cxOK cxW Tryd.func22 (by kernel_rfl) (f22_e1 x1 x2) ⟨h1, ch7, trivial⟩
    | c1 =>
      try dsimp only at h
      obtain rfl := Option.some.inj h
      exact callOK cxOK cxW Tryd.func22 (by kernel_rfl) (f22_e2 x1 x2) ⟨h1, ch7, trivial⟩

theorem f14_ok (F : Nat) (r : Bool) (h : f14 F = some r) : f14_C r := by
  unfold f14 at h
  obtain ⟨rh1, h1, h⟩ := bind_some h
  have ch1 := f40_ok F 3 6 1 _ h1
  obtain ⟨x1, x2⟩ := rh1
  try dsimp only at h
  obtain ⟨rh2, h2, h⟩ := bind_some h
  have ch2 := f58_ok F _ h2
  obtain ⟨x3, x4⟩ := rh2
  try dsimp only at h
  obtain ⟨rh3, h3, h⟩ := bind_some h
  have ch3 := f39_ok F x3 x4 2 _ h3
  obtain ⟨x5, x6⟩ := rh3
  try dsimp only at h
  obtain ⟨rh4, h4, h⟩ := bind_some h
  have ch4 := f58_ok F _ h4
  obtain ⟨x7, x8⟩ := rh4
  try dsimp only at h
  obtain ⟨rh5, h5, h⟩ := bind_some h
  have ch5 := f32_ok F x7 x8 _ h5
  obtain ⟨x9, x10⟩ := rh5
  try dsimp only at h
  obtain ⟨rh6, h6, h⟩ := bind_some h
  have ch6 := f58_ok F _ h6
  obtain ⟨x11, x12⟩ := rh6
  try dsimp only at h
  obtain ⟨rh7, h7, h⟩ := bind_some h
  have ch7 := f37_ok F x11 x12 _ h7
  obtain ⟨x13, x14, x15⟩ := rh7
  try dsimp only at h
  obtain ⟨rh8, h8, h⟩ := bind_some h
  have ch8 := f42_ok F ([0] : List Int) _ h8
  obtain ⟨x16, rfl⟩ : ∃ z, z = rh8 := ⟨_, rfl⟩
  try dsimp only at h
  obtain ⟨rh9, h9, h⟩ := bind_some h
  have ch9 := f15_ok F 2 x16 _ h9
  obtain ⟨x17, x18⟩ := rh9
  try dsimp only at h
  obtain ⟨rh10, h10, h⟩ := bind_some h
  have ch10 := f42_ok F ([0] : List Int) _ h10
  obtain ⟨x19, rfl⟩ : ∃ z, z = rh10 := ⟨_, rfl⟩
  try dsimp only at h
  obtain ⟨rh11, h11, h⟩ := bind_some h
  have ch11 := f17_ok F 2 x19 _ h11
  obtain ⟨x20, x21⟩ := rh11
  try dsimp only at h
  obtain ⟨rh12, h12, h⟩ := bind_some h
  have ch12 := f42_ok F ([0, 7] : List Int) _ h12
  obtain ⟨x22, rfl⟩ : ∃ z, z = rh12 := ⟨_, rfl⟩
  try dsimp only at h
  obtain ⟨rh13, h13, h⟩ := bind_some h
  have ch13 := f19_ok F 3 x22 _ h13
  obtain ⟨x23, x24, x25⟩ := rh13
  try dsimp only at h
  by_cases h14 : (x2 != 0) = true
  · rw [if_pos h14] at h
    cases h
  · rw [if_neg h14] at h
    have h14 := Bool.eq_false_iff.2 h14
    by_cases h15 : (x6 != 0) = true
    · rw [if_pos h15] at h
      cases h
    · rw [if_neg h15] at h
      have h15 := Bool.eq_false_iff.2 h15
      by_cases h16 : (x10 != 0) = true
      · rw [if_pos h16] at h
        cases h
      · rw [if_neg h16] at h
        have h16 := Bool.eq_false_iff.2 h16
        by_cases h17 : (x15 != 0) = true
        · rw [if_pos h17] at h
          cases h
        · rw [if_neg h17] at h
          have h17 := Bool.eq_false_iff.2 h17
          by_cases h18 : (x18 != 0) = true
          · rw [if_pos h18] at h
            cases h
          · rw [if_neg h18] at h
            have h18 := Bool.eq_false_iff.2 h18
            by_cases h19 : (x21 != 0) = true
            · rw [if_pos h19] at h
              cases h
            · rw [if_neg h19] at h
              have h19 := Bool.eq_false_iff.2 h19
              by_cases h20 : (x25 != 0) = true
              · rw [if_pos h20] at h
                cases h
              · rw [if_neg h20] at h
                have h20 := Bool.eq_false_iff.2 h20
                by_cases h21 : (x23 != 3) = true
                · rw [if_pos h21] at h
                  cases h
                · rw [if_neg h21] at h
                  have h21 := Bool.eq_false_iff.2 h21
                  by_cases h22 : (((List.length x24 : Nat) : Int) != 3) = true
                  · rw [if_pos h22] at h
                    cases h
                  · rw [if_neg h22] at h
                    have h22 := Bool.eq_false_iff.2 h22
                    obtain ⟨rh23, h23, h⟩ := bind_some h
                    have ch23 := f23_ok F 3 _ h23
                    obtain ⟨x26, x27⟩ := rh23
                    try dsimp only at h
                    obtain ⟨rh24, h24, h⟩ := bind_some h
                    have ch24 := f25_ok F 3 6 _ h24
                    obtain ⟨x28, x29⟩ := rh24
                    try dsimp only at h
                    obtain ⟨rh25, h25, h⟩ := bind_some h
                    have ch25 := f27_ok F 4 _ h25
                    obtain ⟨x30, x31⟩ := rh25
                    try dsimp only at h
                    obtain ⟨rh26, h26, h⟩ := bind_some h
                    have ch26 := f29_ok F 4 _ h26
                    obtain ⟨x32, x33⟩ := rh26
                    try dsimp only at h
                    obtain ⟨rh27, h27, h⟩ := bind_some h
                    have ch27 := f23_ok F 4 _ h27
                    obtain ⟨x34, x35⟩ := rh27
                    try dsimp only at h
                    obtain ⟨rh28, h28, h⟩ := bind_some h
                    have ch28 := f27_ok F 5 _ h28
                    obtain ⟨x36, x37⟩ := rh28
                    try dsimp only at h
                    by_cases h29 : (x27 == 0) = true
                    · rw [if_pos h29] at h
                      by_cases h30 : (x29 == 0) = true
                      · rw [if_pos h30] at h
                        by_cases h31 : (x31 == 0) = true
                        · rw [if_pos h31] at h
                          by_cases h32 : (x33 == 0) = true
                          · rw [if_pos h32] at h
                            by_cases h33 : (x35 == 12) = true
                            · rw [if_pos h33] at h
                              by_cases h34 : (x37 == 3) = true
                              · rw [if_pos h34] at h
                                by_cases h35 : (x1 == 2) = true
                                · rw [if_pos h35] at h
                                  by_cases h36 : (x13 == 2) = true
                                  · rw [if_pos h36] at h
                                    by_cases h37 : (x14 == 2) = true
                                    · rw [if_pos h37] at h
                                      by_cases h38 : (x28 == 7) = true
                                      · rw [if_pos h38] at h
                                        by_cases h39 : (x32 == 12) = true
                                        · rw [if_pos h39] at h
                                          obtain ⟨rh40, h40, h⟩ := bind_some h
                                          have ch40 := f42_ok F ([1, 2] : List Int) _ h40
                                          obtain ⟨x38, rfl⟩ : ∃ z, z = rh40 := ⟨_, rfl⟩
                                          try dsimp only at h
                                          obtain ⟨rh41, h41, h⟩ := bind_some h
                                          have ch41 := f21_ok F x5 x38 _ h41
                                          obtain ⟨x39, rfl⟩ : ∃ z, z = rh41 := ⟨_, rfl⟩
                                          try dsimp only at h
                                          by_cases h42 : x39 = true
                                          · rw [if_pos h42] at h
                                            obtain ⟨rh43, h43, h⟩ := bind_some h
                                            have ch43 := f42_ok F ([1, 3] : List Int) _ h43
                                            obtain ⟨x40, rfl⟩ : ∃ z, z = rh43 := ⟨_, rfl⟩
                                            try dsimp only at h
                                            obtain ⟨rh44, h44, h⟩ := bind_some h
                                            have ch44 := f21_ok F x9 x40 _ h44
                                            obtain ⟨x41, rfl⟩ : ∃ z, z = rh44 := ⟨_, rfl⟩
                                            try dsimp only at h
                                            by_cases h45 : x41 = true
                                            · rw [if_pos h45] at h
                                              obtain ⟨rh46, h46, h⟩ := bind_some h
                                              have ch46 := f42_ok F ([1, 1, 1, 0] : List Int) _ h46
                                              obtain ⟨x42, rfl⟩ : ∃ z, z = rh46 := ⟨_, rfl⟩
                                              try dsimp only at h
                                              obtain ⟨rh47, h47, h⟩ := bind_some h
                                              have ch47 := f21_ok F x17 x42 _ h47
                                              obtain ⟨x43, rfl⟩ : ∃ z, z = rh47 := ⟨_, rfl⟩
                                              try dsimp only at h
                                              by_cases h48 : x43 = true
                                              · rw [if_pos h48] at h
                                                obtain ⟨rh49, h49, h⟩ := bind_some h
                                                have ch49 := f42_ok F ([3] : List Int) _ h49
                                                obtain ⟨x44, rfl⟩ : ∃ z, z = rh49 := ⟨_, rfl⟩
                                                try dsimp only at h
                                                obtain ⟨rh50, h50, h⟩ := bind_some h
                                                have ch50 := f21_ok F x20 x44 _ h50
                                                obtain ⟨x45, rfl⟩ : ∃ z, z = rh50 := ⟨_, rfl⟩
                                                try dsimp only at h
                                                by_cases h51 : x45 = true
                                                · rw [if_pos h51] at h
                                                  obtain ⟨rh52, h52, h⟩ := bind_some h
                                                  have ch52 := f42_ok F ([1, 2, 2, 0] : List Int) _ h52
                                                  obtain ⟨x46, rfl⟩ : ∃ z, z = rh52 := ⟨_, rfl⟩
                                                  try dsimp only at h
                                                  obtain ⟨rh53, h53, h⟩ := bind_some h
                                                  have ch53 := f42_ok F ([1, 2, 2, 0] : List Int) _ h53
                                                  obtain ⟨x47, rfl⟩ : ∃ z, z = rh53 := ⟨_, rfl⟩
                                                  try dsimp only at h
                                                  obtain ⟨rh54, h54, h⟩ := bind_some h
                                                  have ch54 := f42_ok F ([1, 2, 2, 0] : List Int) _ h54
                                                  obtain ⟨x48, rfl⟩ : ∃ z, z = rh54 := ⟨_, rfl⟩
                                                  try dsimp only at h
                                                  obtain ⟨rh55, h55, h⟩ := bind_some h
                                                  have ch55 := f51_ok F ([x46, x47, x48] : List (List Int)) _ h55
                                                  obtain ⟨x49, rfl⟩ : ∃ z, z = rh55 := ⟨_, rfl⟩
                                                  try dsimp only at h
                                                  obtain ⟨rh56, h56, h⟩ := bind_some h
                                                  have ch56 := f22_ok F x24 x49 _ h56
                                                  obtain ⟨x50, rfl⟩ : ∃ z, z = rh56 := ⟨_, rfl⟩
                                                  try dsimp only at h
                                                  by_cases h57 : x50 = true
                                                  · rw [if_pos h57] at h
                                                    obtain ⟨rh58, h58, h⟩ := bind_some h
                                                    have ch58 := f42_ok F ([0, 7] : List Int) _ h58
                                                    obtain ⟨x51, rfl⟩ : ∃ z, z = rh58 := ⟨_, rfl⟩
                                                    try dsimp only at h
                                                    obtain ⟨rh59, h59, h⟩ := bind_some h
                                                    have ch59 := f21_ok F x26 x51 _ h59
                                                    obtain ⟨x52, rfl⟩ : ∃ z, z = rh59 := ⟨_, rfl⟩
                                                    try dsimp only at h
                                                    by_cases h60 : x52 = true
                                                    · rw [if_pos h60] at h
                                                      obtain ⟨rh61, h61, h⟩ := bind_some h
                                                      have ch61 := f42_ok F ([0, 1, 14, 15] : List Int) _ h61
                                                      obtain ⟨x53, rfl⟩ : ∃ z, z = rh61 := ⟨_, rfl⟩
                                                      try dsimp only at h
                                                      obtain ⟨rh62, h62, h⟩ := bind_some h
                                                      have ch62 := f21_ok F x30 x53 _ h62
                                                      obtain ⟨x54, rfl⟩ : ∃ z, z = rh62 := ⟨_, rfl⟩
                                                      try dsimp only at h
                                                      obtain rfl := Option.some.inj h
                                                      exact callOK cxOK cxW Tryd.func14 (by kernel_rfl) (f14_e0 x1 x2 x3 x4 x5 x6 x7 x8 x9 x10 x11 x12 x13 x14 x15 x16 x17 x18 x19 x20 x21 x22 x23 x24 x25 x26 x27 x28 x29 x30 x31 x32 x33 x34 x35 x36 x37 x38 x39 x40 x41 x42 x43 x44 x45 x46 x47 x48 x49 x50 x51 x52 x53 x54) ⟨ch1, ch2, ch3, ch4, ch5, ch6, ch7, ch8, ch9, ch10, ch11, ch12, ch13, h14, h14, h14, h15, h15, h15, h16, h16, h16, h17, h17, h17, h18, h18, h18, h19, h19, h19, h20, h20, h20, h20, h21, h21, h21, h21, h21, h22, ch23, ch24, ch25, ch26, ch27, ch28, h29, h29, h29, h30, h30, h30, h31, h31, h31, h32, h32, h32, h33, h33, h33, h34, h34, h34, h35, h35, h35, h36, h36, h36, h37, h37, h37, h38, h38, h38, h39, h39, h39, ch40, h39, ch41, h39, h42, h42, h42, ch43, h42, ch44, h42, h45, h45, h45, ch46, h45, ch47, h45, h48, h48, h48, ch49, h48, ch50, h48, h51, h51, h51, h51, ch52, h51, h51, ch53, h51, h51, ch54, h51, h51, ch55, h51, ch56, h51, h57, h57, h57, ch58, h57, ch59, h57, h60, h60, h60, ch61, h60, ch62, h60, trivial⟩
                                                    · rw [if_neg h60] at h
                                                      have h60 := Bool.eq_false_iff.2 h60
                                                      cases h
                                                  · rw [if_neg h57] at h
                                                    have h57 := Bool.eq_false_iff.2 h57
                                                    cases h
                                                · rw [if_neg h51] at h
                                                  have h51 := Bool.eq_false_iff.2 h51
                                                  cases h
                                              · rw [if_neg h48] at h
                                                have h48 := Bool.eq_false_iff.2 h48
                                                cases h
                                            · rw [if_neg h45] at h
                                              have h45 := Bool.eq_false_iff.2 h45
                                              cases h
                                          · rw [if_neg h42] at h
                                            have h42 := Bool.eq_false_iff.2 h42
                                            cases h
                                        · rw [if_neg h39] at h
                                          have h39 := Bool.eq_false_iff.2 h39
                                          cases h
                                      · rw [if_neg h38] at h
                                        have h38 := Bool.eq_false_iff.2 h38
                                        cases h
                                    · rw [if_neg h37] at h
                                      have h37 := Bool.eq_false_iff.2 h37
                                      cases h
                                  · rw [if_neg h36] at h
                                    have h36 := Bool.eq_false_iff.2 h36
                                    cases h
                                · rw [if_neg h35] at h
                                  have h35 := Bool.eq_false_iff.2 h35
                                  cases h
                              · rw [if_neg h34] at h
                                have h34 := Bool.eq_false_iff.2 h34
                                cases h
                            · rw [if_neg h33] at h
                              have h33 := Bool.eq_false_iff.2 h33
                              cases h
                          · rw [if_neg h32] at h
                            have h32 := Bool.eq_false_iff.2 h32
                            cases h
                        · rw [if_neg h31] at h
                          have h31 := Bool.eq_false_iff.2 h31
                          cases h
                      · rw [if_neg h30] at h
                        have h30 := Bool.eq_false_iff.2 h30
                        cases h
                    · rw [if_neg h29] at h
                      have h29 := Bool.eq_false_iff.2 h29
                      cases h

theorem f31_p5_2_ok (F : Nat) (x20 : Int) (x1 : Int) (x3 : Int) (x21 : Int) (x2 : List Int) (x19 : List (List Int)) : ∀ (k : Nat) (x25 : Int) (x24 : List Int) (r : (List Int)), f31_p5_2 F x20 x1 x3 x21 x2 x19 k x25 x24 = some r → f31_p5_2_P x20 x1 x3 x21 x2 x19 x25 x24 r
  | 0, _, _, _, h => by cases h
  | k + 1, x25, x24, r, h => by
    unfold f31_p5_2 at h
    by_cases h37 : (decide (x25 < (iShl .i64 1 (w64 (x21 - 1))))) = true
    · rw [if_pos h37] at h
      obtain ⟨h38, h⟩ := req_some h
      obtain ⟨h39, h⟩ := req_some h
      obtain ⟨x26, h40, h⟩ := bind_some h
      try dsimp only at h
      obtain ⟨h41, h⟩ := req_some h
      exact Lp.again (gRun_ok cxOK (f31_p5_2_e0 x1 x2 x3 x19 x20 x21 x24 x25 x26) ⟨h37, h38, h39, ⟨x26, h40, rfl⟩, (by decide), h41, rfl, trivial⟩) (f31_p5_2_ok F x20 x1 x3 x21 x2 x19 k (w64 (x25 + 1)) (x24 ++ ([(Int.tmod (w64 (x26)) 3)] : List Int)) r h)
    · rw [if_neg h37] at h
      have h37 := Bool.eq_false_iff.2 h37
      obtain rfl := Option.some.inj h
      exact Lp.out (gRun_ok cxOK (f31_p5_2_e1 x1 x2 x3 x19 x20 x21 x24 x25) ⟨h37, trivial⟩) (by intro hh; cases hh)
theorem f31_p1_ok (F : Nat) (x1 : Int) (x3 : Int) (x2 : List Int) : ∀ (k : Nat) (x20 : Int) (x21 : Int) (x19 : List (List Int)) (r : Int × (List (List Int))), f31_p1 F x1 x3 x2 k x20 x21 x19 = some r → f31_p1_P x1 x3 x2 x20 x21 x19 r
  | 0, _, _, _, _, h => by cases h
  | k + 1, x20, x21, x19, r, h => by
    unfold f31_p1 at h
    by_cases h30 : (decide (x20 < (w64 (1 + (Int.tmod (w64 (x1)) x3))))) = true
    · rw [if_pos h30] at h
      obtain ⟨h31, h⟩ := req_some h
      obtain ⟨rh42, h42, h⟩ := bind_some h
      have ch42 := f31_p5_2_ok F x20 x1 x3 x21 x2 x19 F 0 ([] : List Int) _ h42
      obtain ⟨x27, rfl⟩ : ∃ z, z = rh42 := ⟨_, rfl⟩
      try dsimp only at h
      obtain ⟨h43, h⟩ := req_some h
      exact Lp.again (gRun_ok cxOK (f31_p1_e0 x1 x2 x3 x19 x20 x21 x27) ⟨h30, h31, ch42, (Nat.le_of_eq (Nat.zero_add _)), h43, rfl, trivial⟩) (f31_p1_ok F x1 x3 x2 k (w64 (x20 + 1)) x21 (x19 ++ ([(List.drop 0 (List.take (0 + (List.length x27)) x27))] : List (List Int))) r h)
    · rw [if_neg h30] at h
      have h30 := Bool.eq_false_iff.2 h30
      obtain rfl := Option.some.inj h
      exact Lp.out (gRun_ok cxOK (f31_p1_e1 x1 x2 x3 x19 x20 x21) ⟨h30, trivial⟩) (by intro hh; cases hh)
theorem f31_ok (F : Nat) (x1 : Int) (x2 : List Int) (x3 : Int) (r : Int × (List (List Int))) (h : f31 F x1 x2 x3 = some r) : f31_C x1 x2 x3 r := by
  unfold f31 at h
  obtain ⟨h1, h⟩ := req_some h
  obtain ⟨rh44, h44, h⟩ := bind_some h
  have ch44 := f31_p1_ok F x1 x3 x2 F 0 (w64 (1 + (Int.tmod (w64 (x1)) x3))) ([] : List (List Int)) _ h44
  obtain ⟨x28, x29⟩ := rh44
  try dsimp only at h
  obtain rfl := Option.some.inj h
  exact callOK cxOK cxW Tryd.func31 (by kernel_rfl) (f31_e0 x1 x2 x3 x28 x29) ⟨h1, ch44, (Nat.le_of_eq (Nat.zero_add _)), trivial⟩

theorem f41_p4_ok (F : Nat) (x2 : Int) (x3 : Int) (x4 : Int) (x5 : Int) (r : Int) (h : f41_p4 F x2 x3 x4 x5 = some r) : f41_p4_P x2 x3 x4 x5 r := by
  unfold f41_p4 at h
  by_cases h2 : (x5 != x3) = true
  · rw [if_pos h2] at h
    obtain ⟨h3, h⟩ := req_some h
    obtain rfl := Option.some.inj h
    exact gRun_ok cxOK (f41_p4_e0 x2 x3 x4 x5) ⟨h2, h3, trivial⟩
  · rw [if_neg h2] at h
    have h2 := Bool.eq_false_iff.2 h2
    obtain rfl := Option.some.inj h
    exact gRun_ok cxOK (f41_p4_e1 x2 x3 x4 x5) ⟨h2, trivial⟩
theorem f41_p1_ok (F : Nat) (x2 : Int) (x3 : Int) : ∀ (k : Nat) (x4 : Int) (x5 : Int) (r : Int), f41_p1 F x2 x3 k x4 x5 = some r → f41_p1_P x2 x3 x4 x5 r
  | 0, _, _, _, h => by cases h
  | k + 1, x4, x5, r, h => by
    unfold f41_p1 at h
    by_cases h1 : (decide (x5 ≥ 0)) = true
    · rw [if_pos h1] at h
      obtain ⟨rh4, h4, h⟩ := bind_some h
      have ch4 := f41_p4_ok F x2 x3 x4 x5 _ h4
      obtain ⟨x6, rfl⟩ : ∃ z, z = rh4 := ⟨_, rfl⟩
      try dsimp only at h
      exact Lp.again (gRun_ok cxOK (f41_p1_e0 x2 x3 x4 x5 x6) ⟨h1, ch4, trivial⟩) (f41_p1_ok F x2 x3 k x6 (w64 (x5 - 1)) r h)
    · rw [if_neg h1] at h
      have h1 := Bool.eq_false_iff.2 h1
      obtain rfl := Option.some.inj h
      exact Lp.out (gRun_ok cxOK (f41_p1_e1 x2 x3 x4 x5) ⟨h1, trivial⟩) (by intro hh; cases hh)
theorem f41_ok (F : Nat) (x1 : Int) (x2 : Int) (x3 : Int) (r : Int) (h : f41 F x1 x2 x3 = some r) : f41_C x1 x2 x3 r := by
  unfold f41 at h
  obtain ⟨rh5, h5, h⟩ := bind_some h
  have ch5 := f41_p1_ok F x2 x3 F 0 (w64 (x1 - 1)) _ h5
  obtain ⟨x7, rfl⟩ : ∃ z, z = rh5 := ⟨_, rfl⟩
  try dsimp only at h
  obtain rfl := Option.some.inj h
  exact callOK cxOK cxW Tryd.func41 (by kernel_rfl) (f41_e0 x1 x2 x3 x7) ⟨ch5, trivial⟩

theorem f43_p4_1_ok (F : Nat) (x1 : Int) (x3 : List Int) (x4 : Int) (r : (List Int)) (h : f43_p4_1 F x1 x3 x4 = some r) : f43_p4_1_P x1 x3 x4 r := by
  unfold f43_p4_1 at h
  by_cases h8 : ((iAnd .i64 (iShr .i64 x1 x4) 1) == 1) = true
  · rw [if_pos h8] at h
    obtain ⟨h9, h⟩ := req_some h
    obtain rfl := Option.some.inj h
    exact gRun_ok cxOK (f43_p4_1_e0 x1 x3 x4) ⟨h8, h9, rfl, trivial⟩
  · rw [if_neg h8] at h
    have h8 := Bool.eq_false_iff.2 h8
    obtain rfl := Option.some.inj h
    exact gRun_ok cxOK (f43_p4_1_e1 x1 x3 x4) ⟨h8, trivial⟩
theorem f43_p1_ok (F : Nat) (x1 : Int) : ∀ (k : Nat) (x4 : Int) (x3 : List Int) (r : (List Int)), f43_p1 F x1 k x4 x3 = some r → f43_p1_P x1 x4 x3 r
  | 0, _, _, _, h => by cases h
  | k + 1, x4, x3, r, h => by
    unfold f43_p1 at h
    obtain ⟨h6, h⟩ := req_some h
    by_cases h7 : ((iShr .i64 x1 x4) != 0) = true
    · rw [if_pos h7] at h
      obtain ⟨rh10, h10, h⟩ := bind_some h
      have ch10 := f43_p4_1_ok F x1 x3 x4 _ h10
      obtain ⟨x5, rfl⟩ : ∃ z, z = rh10 := ⟨_, rfl⟩
      try dsimp only at h
      exact Lp.again (gRun_ok cxOK (f43_p1_e0 x1 x3 x4 x5) ⟨h6, h7, h6, ch10, trivial⟩) (f43_p1_ok F x1 k (w64 (x4 + 1)) x5 r h)
    · rw [if_neg h7] at h
      have h7 := Bool.eq_false_iff.2 h7
      obtain rfl := Option.some.inj h
      exact Lp.out (gRun_ok cxOK (f43_p1_e1 x1 x3 x4) ⟨h6, h7, trivial⟩) (by intro hh; cases hh)
theorem f43_ok (F : Nat) (x1 : Int) (r : (List Int)) (h : f43 F x1 = some r) : f43_C x1 r := by
  unfold f43 at h
  obtain ⟨rh11, h11, h⟩ := bind_some h
  have ch11 := f43_p1_ok F x1 F 0 ([] : List Int) _ h11
  obtain ⟨x6, rfl⟩ : ∃ z, z = rh11 := ⟨_, rfl⟩
  try dsimp only at h
  obtain rfl := Option.some.inj h
  exact callOK cxOK cxW Tryd.func43 (by kernel_rfl) (f43_e0 x1 x6) ⟨ch11, (Nat.le_of_eq (Nat.zero_add _)), trivial⟩

theorem f93_ok (F : Nat) (x1 : Int) (r : Bool) (h : f93 F x1 = some r) : f93_C x1 r := by
  unfold f93 at h
  obtain rfl := Option.some.inj h
  exact callOK cxOK cxW Tryd.func93 (by kernel_rfl) (f93_e0 x1) trivial

theorem f83_ok (F : Nat) (x1 : Int) (x2 : Int) (r : Bool) (h : f83 F x1 x2 = some r) : f83_C x1 x2 r := by
  unfold f83 at h
  obtain ⟨rh1, h1, h⟩ := bind_some h
  have ch1 := f93_ok F x1 _ h1
  obtain ⟨x3, rfl⟩ : ∃ z, z = rh1 := ⟨_, rfl⟩
  try dsimp only at h
  by_cases h2 : x3 = true
  · rw [if_pos h2] at h
    obtain ⟨rh3, h3, h⟩ := bind_some h
    have ch3 := f93_ok F x2 _ h3
    obtain ⟨x4, rfl⟩ : ∃ z, z = rh3 := ⟨_, rfl⟩
    try dsimp only at h
    by_cases h4 : x4 = true
    · rw [if_pos h4] at h
      obtain rfl := Option.some.inj h
      exact callOK cxOK cxW Tryd.func83 (by kernel_rfl) (f83_e0 x1 x2 x3 x4) ⟨ch1, h2, h2, ch3, h2, h2, (by rw [h4]; rfl), (by rw [h4]; rfl), (by rw [h4]; rfl), (by rw [h4]; rfl), trivial⟩
    · rw [if_neg h4] at h
      have h4 := Bool.eq_false_iff.2 h4
      obtain rfl := Option.some.inj h
      exact callOK cxOK cxW Tryd.func83 (by kernel_rfl) (f83_e1 x1 x2 x3 x4) ⟨ch1, h2, h2, ch3, h2, h2, (by rw [h4]; rfl), (by rw [h4]; rfl), (by rw [h4]; rfl), (by rw [h4]; rfl), trivial⟩
  · rw [if_neg h2] at h
    have h2 := Bool.eq_false_iff.2 h2
    obtain rfl := Option.some.inj h
    exact callOK cxOK cxW Tryd.func83 (by kernel_rfl) (f83_e2 x1 x2 x3) ⟨ch1, h2, h2, h2, h2, rfl, rfl, rfl, rfl, trivial⟩

theorem f103_p0_ok (F : Nat) (x1 : Int) (r : Int × Int) (h : f103_p0 F x1 = some r) : f103_p0_P x1 r := by
  unfold f103_p0 at h
  by_cases h1 : (decide (x1 ≥ 4294967296)) = true
  · rw [if_pos h1] at h
    obtain rfl := Option.some.inj h
    exact gRun_ok cxOK (f103_p0_e0 x1) ⟨h1, (by decide), trivial⟩
  · rw [if_neg h1] at h
    have h1 := Bool.eq_false_iff.2 h1
    obtain rfl := Option.some.inj h
    exact gRun_ok cxOK (f103_p0_e1 x1) ⟨h1, trivial⟩
theorem f103_p1_ok (F : Nat) (x2 : Int) (x3 : Int) (r : Int × Int) (h : f103_p1 F x2 x3 = some r) : f103_p1_P x2 x3 r := by
  unfold f103_p1 at h
  by_cases h3 : (decide (x2 ≥ 65536)) = true
  · rw [if_pos h3] at h
    obtain rfl := Option.some.inj h
    exact gRun_ok cxOK (f103_p1_e0 x2 x3) ⟨h3, (by decide), trivial⟩
  · rw [if_neg h3] at h
    have h3 := Bool.eq_false_iff.2 h3
    obtain rfl := Option.some.inj h
    exact gRun_ok cxOK (f103_p1_e1 x2 x3) ⟨h3, trivial⟩
theorem f103_p2_ok (F : Nat) (x4 : Int) (x5 : Int) (r : Int × Int) (h : f103_p2 F x4 x5 = some r) : f103_p2_P x4 x5 r := by
  unfold f103_p2 at h
  by_cases h5 : (decide (x4 ≥ 256)) = true
  · rw [if_pos h5] at h
    obtain rfl := Option.some.inj h
    exact gRun_ok cxOK (f103_p2_e0 x4 x5) ⟨h5, (by decide), trivial⟩
  · rw [if_neg h5] at h
    have h5 := Bool.eq_false_iff.2 h5
    obtain rfl := Option.some.inj h
    exact gRun_ok cxOK (f103_p2_e1 x4 x5) ⟨h5, trivial⟩
theorem f103_ok (F : Nat) (x1 : Int) (r : Int) (h : f103 F x1 = some r) : f103_C x1 r := by
  unfold f103 at h
  obtain ⟨rh2, h2, h⟩ := bind_some h
  have ch2 := f103_p0_ok F x1 _ h2
  obtain ⟨x2, x3⟩ := rh2
  try dsimp only at h
  obtain ⟨rh4, h4, h⟩ := bind_some h
  have ch4 := f103_p1_ok F x2 x3 _ h4
  obtain ⟨x4, x5⟩ := rh4
  try dsimp only at h
  obtain ⟨rh6, h6, h⟩ := bind_some h
  have ch6 := f103_p2_ok F x4 x5 _ h6
  obtain ⟨x6, x7⟩ := rh6
  try dsimp only at h
  obtain ⟨h7, h⟩ := req_some h
  obtain rfl := Option.some.inj h
  exact callOK cxOK cxW Tryd.func103 (by kernel_rfl) (f103_e0 x1 x2 x3 x4 x5 x6 x7) ⟨ch2, ch4, ch6, h7, trivial⟩

theorem f86_ok (F : Nat) (x1 : Int) (r : Int) (h : f86 F x1 = some r) : f86_C x1 r := by
  unfold f86 at h
  obtain ⟨rh1, h1, h⟩ := bind_some h
  have ch1 := f103_ok F x1 _ h1
  obtain ⟨x2, rfl⟩ : ∃ z, z = rh1 := ⟨_, rfl⟩
  try dsimp only at h
  obtain rfl := Option.some.inj h
  exact callOK cxOK cxW Tryd.func86 (by kernel_rfl) (f86_e0 x1 x2) ⟨rfl, ch1, trivial⟩

theorem f94_p5_1_ok (F : Nat) (x1 : Nat) (x2 : Nat) (x3 : Int) (x4 : Int) (x18 : Int) : ∀ (k : Nat) (x24 : Int) (x23 : List Int) (r : (List Int)), f94_p5_1 F x1 x2 x3 x4 x18 k x24 x23 = some r → f94_p5_1_P x1 x2 x3 x4 x18 x24 x23 r
  | 0, _, _, _, h => by cases h
  | k + 1, x24, x23, r, h => by
    unfold f94_p5_1 at h
    by_cases h31 : (decide (x24 > x3)) = true
    · rw [if_pos h31] at h
      obtain ⟨h32, h⟩ := req_some h
      obtain ⟨x25, h33, h⟩ := bind_some h
      try dsimp only at h
      obtain ⟨h34, h⟩ := req_some h
      obtain ⟨x26, h35, h⟩ := bind_some h
      try dsimp only at h
      obtain ⟨rh36, h36, h⟩ := bind_some h
      have ch36 := f83_ok F x25 x26 _ h36
      obtain ⟨x27, rfl⟩ : ∃ z, z = rh36 := ⟨_, rfl⟩
      try dsimp only at h
      by_cases h37 : x27 = true
      · rw [if_pos h37] at h
        obtain ⟨h38, h⟩ := req_some h
        obtain ⟨h39, h⟩ := req_some h
        exact Lp.again (gRun_ok cxOK (f94_p5_1_e0 x1 x2 x3 x4 x18 x23 x24 x25 x26 x27) ⟨h31, h31, h31, h32, h31, ⟨x25, h33, rfl⟩, h31, h31, h31, h31, h34, h31, ⟨x26, h35, rfl⟩, h31, ch36, h31, h37, h34, ⟨x26, h35, rfl⟩, h32, ⟨x25, h33, rfl⟩, h32, h38, h34, h39, trivial⟩) (f94_p5_1_ok F x1 x2 x3 x4 x18 k (w64 (x24 - 1)) (List.set (List.set x23 (x1 + (Int.toNat x24)) x26) (x1 + (Int.toNat (w64 (x24 - 1)))) x25) r h)
      · rw [if_neg h37] at h
        have h37 := Bool.eq_false_iff.2 h37
        obtain rfl := Option.some.inj h
        exact Lp.out (gRun_ok cxOK (f94_p5_1_e1 x1 x2 x3 x4 x18 x23 x24 x25 x26 x27) ⟨h31, h31, h31, h32, h31, ⟨x25, h33, rfl⟩, h31, h31, h31, h31, h34, h31, ⟨x26, h35, rfl⟩, h31, ch36, h31, h37, trivial⟩) (by intro hh; cases hh)
    · rw [if_neg h31] at h
      have h31 := Bool.eq_false_iff.2 h31
      obtain rfl := Option.some.inj h
      exact Lp.out (gRun_ok cxOK (f94_p5_1_e2 x1 x2 x3 x4 x18 x23 x24) ⟨h31, h31, h31, h31, h31, h31, h31, h31, h31, h31, h31, rfl, trivial⟩) (by intro hh; cases hh)
theorem f94_p1_ok (F : Nat) (x1 : Nat) (x2 : Nat) (x3 : Int) (x4 : Int) : ∀ (k : Nat) (x18 : Int) (x17 : List Int) (r : (List Int)), f94_p1 F x1 x2 x3 x4 k x18 x17 = some r → f94_p1_P x1 x2 x3 x4 x18 x17 r
  | 0, _, _, _, h => by cases h
  | k + 1, x18, x17, r, h => by
    unfold f94_p1 at h
    by_cases h21 : (decide (x18 < x4)) = true
    · rw [if_pos h21] at h
      obtain ⟨rh40, h40, h⟩ := bind_some h
      have ch40 := f94_p5_1_ok F x1 x2 x3 x4 x18 F x18 x17 _ h40
      obtain ⟨x28, rfl⟩ : ∃ z, z = rh40 := ⟨_, rfl⟩
      try dsimp only at h
      exact Lp.again (gRun_ok cxOK (f94_p1_e0 x1 x2 x3 x4 x17 x18 x28) ⟨h21, ch40, trivial⟩) (f94_p1_ok F x1 x2 x3 x4 k (w64 (x18 + 1)) x28 r h)
    · rw [if_neg h21] at h
      have h21 := Bool.eq_false_iff.2 h21
      obtain rfl := Option.some.inj h
      exact Lp.out (gRun_ok cxOK (f94_p1_e1 x1 x2 x3 x4 x17 x18) ⟨h21, trivial⟩) (by intro hh; cases hh)
theorem f94_ok (F : Nat) (x1 : Nat) (x2 : Nat) (x3 : Int) (x4 : Int) (x5 : List Int) (r : (List Int)) (h : f94 F x1 x2 x3 x4 x5 = some r) : f94_C x1 x2 x3 x4 x5 r := by
  unfold f94 at h
  obtain ⟨rh41, h41, h⟩ := bind_some h
  have ch41 := f94_p1_ok F x1 x2 x3 x4 F (w64 (x3 + 1)) x5 _ h41
  obtain ⟨x29, rfl⟩ : ∃ z, z = rh41 := ⟨_, rfl⟩
  try dsimp only at h
  obtain rfl := Option.some.inj h
  exact callOK cxOK cxW Tryd.func94 (by kernel_rfl) (f94_e0 x1 x2 x3 x4 x5 x29) ⟨ch41, trivial⟩

theorem f85_p5_1_ok (F : Nat) (x1 : Nat) (x2 : Nat) (x14 : Int) (x15 : Int) (x16 : Int) (x17 : Bool) (x18 : Bool) (x13 : List Int) (r : Unit) (h : f85_p5_1 F x1 x2 x14 x15 x16 x17 x18 x13 = some r) : f85_p5_1_P x1 x2 x14 x15 x16 x17 x18 x13 r := by
  unfold f85_p5_1 at h
  by_cases h9 : x17 = true
  · rw [if_pos h9] at h
    obtain rfl := Option.some.inj h
    exact gRun_ok cxOK (f85_p5_1_e0 x1 x2 x13 x14 x15 x16 x17 x18) ⟨(by rw [h9]; rfl), trivial⟩
  · rw [if_neg h9] at h
    have h9 := Bool.eq_false_iff.2 h9
    cases h
theorem f85_p1_ok (F : Nat) (x1 : Nat) (x2 : Nat) : ∀ (k : Nat) (x14 : Int) (x15 : Int) (x16 : Int) (x17 : Bool) (x18 : Bool) (x13 : List Int) (r : (List Int)), f85_p1 F x1 x2 k x14 x15 x16 x17 x18 x13 = some r → f85_p1_P x1 x2 x14 x15 x16 x17 x18 x13 r
  | 0, _, _, _, _, _, _, _, h => by cases h
  | k + 1, x14, x15, x16, x17, x18, x13, r, h => by
    unfold f85_p1 at h
    dsimp only at h
    by_cases h6 : (decide ((w64 (x15 - x14)) ≤ 12)) = true
    · rw [if_pos h6] at h
      obtain ⟨rh7, h7, h⟩ := bind_some h
      have ch7 := f94_ok F x1 x2 x14 x15 x13 _ h7
      obtain ⟨x19, rfl⟩ : ∃ z, z = rh7 := ⟨_, rfl⟩
      try dsimp only at h
      obtain rfl := Option.some.inj h
      exact Lp.out (gRun_ok cxOK (f85_p1_e0 x1 x2 x13 x14 x15 x16 x17 x18 x19) ⟨h6, ch7, trivial⟩) (by intro hh; cases hh)
    · rw [if_neg h6] at h
      have h6 := Bool.eq_false_iff.2 h6
      by_cases h8 : (x16 == 0) = true
      · rw [if_pos h8] at h
        cases h
      · rw [if_neg h8] at h
        have h8 := Bool.eq_false_iff.2 h8
        obtain ⟨rh10, h10, h⟩ := bind_some h
        have ch10 := f85_p5_1_ok F x1 x2 x14 x15 x16 x17 x18 x13 _ h10
        try dsimp only at h
        cases h
theorem f85_ok (F : Nat) (x1 : Nat) (x2 : Nat) (x3 : Int) (x4 : Int) (x5 : Int) (x6 : List Int) (r : (List Int)) (h : f85 F x1 x2 x3 x4 x5 x6 = some r) : f85_C x1 x2 x3 x4 x5 x6 r := by
  unfold f85 at h
  obtain ⟨rh11, h11, h⟩ := bind_some h
  have ch11 := f85_p1_ok F x1 x2 F x3 x4 x5 true true x6 _ h11
  obtain ⟨x20, rfl⟩ : ∃ z, z = rh11 := ⟨_, rfl⟩
  try dsimp only at h
  obtain rfl := Option.some.inj h
  exact callOK cxOK cxW Tryd.func85 (by kernel_rfl) (f85_e0 x1 x2 x3 x4 x5 x6 x20) ⟨ch11, trivial⟩

theorem f55_ok (F : Nat) (x1 : Nat) (x2 : Nat) (x3 : List Int) (r : (List Int)) (h : f55 F x1 x2 x3 = some r) : f55_C x1 x2 x3 r := by
  unfold f55 at h
  obtain ⟨rh1, h1, h⟩ := bind_some h
  have ch1 := f86_ok F (IntKind.wrap .u64 (((x2 : Nat) : Int))) _ h1
  obtain ⟨x4, rfl⟩ : ∃ z, z = rh1 := ⟨_, rfl⟩
  try dsimp only at h
  obtain ⟨rh2, h2, h⟩ := bind_some h
  have ch2 := f85_ok F x1 x2 0 ((x2 : Nat) : Int) x4 x3 _ h2
  obtain ⟨x5, rfl⟩ : ∃ z, z = rh2 := ⟨_, rfl⟩
  try dsimp only at h
  obtain rfl := Option.some.inj h
  exact callOK cxOK cxW Tryd.func55 (by kernel_rfl) (f55_e0 x1 x2 x3 x4 x5) ⟨ch1, ch2, trivial⟩

theorem f94_1_p5_1_ok (F : Nat) (x1 : Nat) (x2 : Nat) (x3 : Int) (x4 : Int) (x18 : Int) : ∀ (k : Nat) (x24 : Int) (x23 : List Int) (r : (List Int)), f94_1_p5_1 F x1 x2 x3 x4 x18 k x24 x23 = some r → f94_1_p5_1_P x1 x2 x3 x4 x18 x24 x23 r
  | 0, _, _, _, h => by cases h
  | k + 1, x24, x23, r, h => by
    unfold f94_1_p5_1 at h
    by_cases h31 : (decide (x24 > x3)) = true
    · rw [if_pos h31] at h
      obtain ⟨h32, h⟩ := req_some h
      obtain ⟨x25, h33, h⟩ := bind_some h
      try dsimp only at h
      obtain ⟨h34, h⟩ := req_some h
      obtain ⟨x26, h35, h⟩ := bind_some h
      try dsimp only at h
      obtain ⟨rh36, h36, h⟩ := bind_some h
      have ch36 := f83_ok F x25 x26 _ h36
      obtain ⟨x27, rfl⟩ : ∃ z, z = rh36 := ⟨_, rfl⟩
      try dsimp only at h
      by_cases h37 : x27 = true
      · rw [if_pos h37] at h
        obtain ⟨h38, h⟩ := req_some h
        obtain ⟨h39, h⟩ := req_some h
        exact Lp.again (gRun_ok cxOK (f94_1_p5_1_e0 x1 x2 x3 x4 x18 x23 x24 x25 x26 x27) ⟨h31, h31, h31, h32, h31, ⟨x25, h33, rfl⟩, h31, h31, h31, h31, h34, h31, ⟨x26, h35, rfl⟩, h31, ch36, h31, h37, h34, ⟨x26, h35, rfl⟩, h32, ⟨x25, h33, rfl⟩, h32, h38, h34, h39, trivial⟩) (f94_1_p5_1_ok F x1 x2 x3 x4 x18 k (w64 (x24 - 1)) (List.set (List.set x23 (x1 + (Int.toNat x24)) x26) (x1 + (Int.toNat (w64 (x24 - 1)))) x25) r h)
      · rw [if_neg h37] at h
        have h37 := Bool.eq_false_iff.2 h37
        obtain rfl := Option.some.inj h
        exact Lp.out (gRun_ok cxOK (f94_1_p5_1_e1 x1 x2 x3 x4 x18 x23 x24 x25 x26 x27) ⟨h31, h31, h31, h32, h31, ⟨x25, h33, rfl⟩, h31, h31, h31, h31, h34, h31, ⟨x26, h35, rfl⟩, h31, ch36, h31, h37, trivial⟩) (by intro hh; cases hh)
    · rw [if_neg h31] at h
      have h31 := Bool.eq_false_iff.2 h31
      obtain rfl := Option.some.inj h
      exact Lp.out (gRun_ok cxOK (f94_1_p5_1_e2 x1 x2 x3 x4 x18 x23 x24) ⟨h31, h31, h31, h31, h31, h31, h31, h31, h31, h31, h31, rfl, trivial⟩) (by intro hh; cases hh)
theorem f94_1_p1_ok (F : Nat) (x1 : Nat) (x2 : Nat) (x3 : Int) (x4 : Int) : ∀ (k : Nat) (x18 : Int) (x17 : List Int) (r : (List Int)), f94_1_p1 F x1 x2 x3 x4 k x18 x17 = some r → f94_1_p1_P x1 x2 x3 x4 x18 x17 r
  | 0, _, _, _, h => by cases h
  | k + 1, x18, x17, r, h => by
    unfold f94_1_p1 at h
    by_cases h21 : (decide (x18 < x4)) = true
    · rw [if_pos h21] at h
      obtain ⟨rh40, h40, h⟩ := bind_some h
      have ch40 := f94_1_p5_1_ok F x1 x2 x3 x4 x18 F x18 x17 _ h40
      obtain ⟨x28, rfl⟩ : ∃ z, z = rh40 := ⟨_, rfl⟩
      try dsimp only at h
      exact Lp.again (gRun_ok cxOK (f94_1_p1_e0 x1 x2 x3 x4 x17 x18 x28) ⟨h21, ch40, trivial⟩) (f94_1_p1_ok F x1 x2 x3 x4 k (w64 (x18 + 1)) x28 r h)
    · rw [if_neg h21] at h
      have h21 := Bool.eq_false_iff.2 h21
      obtain rfl := Option.some.inj h
      exact Lp.out (gRun_ok cxOK (f94_1_p1_e1 x1 x2 x3 x4 x17 x18) ⟨h21, trivial⟩) (by intro hh; cases hh)
theorem f94_1_ok (F : Nat) (x1 : Nat) (x2 : Nat) (x3 : Int) (x4 : Int) (x5 : List Int) (r : (List Int)) (h : f94_1 F x1 x2 x3 x4 x5 = some r) : f94_1_C x1 x2 x3 x4 x5 r := by
  unfold f94_1 at h
  obtain ⟨rh41, h41, h⟩ := bind_some h
  have ch41 := f94_1_p1_ok F x1 x2 x3 x4 F (w64 (x3 + 1)) x5 _ h41
  obtain ⟨x29, rfl⟩ : ∃ z, z = rh41 := ⟨_, rfl⟩
  try dsimp only at h
  obtain rfl := Option.some.inj h
  exact callOK cxOK cxW Tryd.func94 (by kernel_rfl) (f94_1_e0 x1 x2 x3 x4 x5 x29) ⟨ch41, trivial⟩

theorem f85_1_p5_1_ok (F : Nat) (x1 : Nat) (x2 : Nat) (x14 : Int) (x15 : Int) (x16 : Int) (x17 : Bool) (x18 : Bool) (x13 : List Int) (r : Unit) (h : f85_1_p5_1 F x1 x2 x14 x15 x16 x17 x18 x13 = some r) : f85_1_p5_1_P x1 x2 x14 x15 x16 x17 x18 x13 r := by
  unfold f85_1_p5_1 at h
  by_cases h9 : x17 = true
  · rw [if_pos h9] at h
    obtain rfl := Option.some.inj h
    exact gRun_ok cxOK (f85_1_p5_1_e0 x1 x2 x13 x14 x15 x16 x17 x18) ⟨(by rw [h9]; rfl), trivial⟩
  · rw [if_neg h9] at h
    have h9 := Bool.eq_false_iff.2 h9
    cases h
theorem f85_1_p1_ok (F : Nat) (x1 : Nat) (x2 : Nat) : ∀ (k : Nat) (x14 : Int) (x15 : Int) (x16 : Int) (x17 : Bool) (x18 : Bool) (x13 : List Int) (r : (List Int)), f85_1_p1 F x1 x2 k x14 x15 x16 x17 x18 x13 = some r → f85_1_p1_P x1 x2 x14 x15 x16 x17 x18 x13 r
  | 0, _, _, _, _, _, _, _, h => by cases h
  | k + 1, x14, x15, x16, x17, x18, x13, r, h => by
    unfold f85_1_p1 at h
    dsimp only at h
    by_cases h6 : (decide ((w64 (x15 - x14)) ≤ 12)) = true
    · rw [if_pos h6] at h
      obtain ⟨rh7, h7, h⟩ := bind_some h
      have ch7 := f94_1_ok F x1 x2 x14 x15 x13 _ h7
      obtain ⟨x19, rfl⟩ : ∃ z, z = rh7 := ⟨_, rfl⟩
      try dsimp only at h
      obtain rfl := Option.some.inj h
      exact Lp.out (gRun_ok cxOK (f85_1_p1_e0 x1 x2 x13 x14 x15 x16 x17 x18 x19) ⟨h6, ch7, trivial⟩) (by intro hh; cases hh)
    · rw [if_neg h6] at h
      have h6 := Bool.eq_false_iff.2 h6
      by_cases h8 : (x16 == 0) = true
      · rw [if_pos h8] at h
        cases h
      · rw [if_neg h8] at h
        have h8 := Bool.eq_false_iff.2 h8
        obtain ⟨rh10, h10, h⟩ := bind_some h
        have ch10 := f85_1_p5_1_ok F x1 x2 x14 x15 x16 x17 x18 x13 _ h10
        try dsimp only at h
        cases h
theorem f85_1_ok (F : Nat) (x1 : Nat) (x2 : Nat) (x3 : Int) (x4 : Int) (x5 : Int) (x6 : List Int) (r : (List Int)) (h : f85_1 F x1 x2 x3 x4 x5 x6 = some r) : f85_1_C x1 x2 x3 x4 x5 x6 r := by
  unfold f85_1 at h
  obtain ⟨rh11, h11, h⟩ := bind_some h
  have ch11 := f85_1_p1_ok F x1 x2 F x3 x4 x5 true true x6 _ h11
  obtain ⟨x20, rfl⟩ : ∃ z, z = rh11 := ⟨_, rfl⟩
  try dsimp only at h
  obtain rfl := Option.some.inj h
  exact callOK cxOK cxW Tryd.func85 (by kernel_rfl) (f85_1_e0 x1 x2 x3 x4 x5 x6 x20) ⟨ch11, trivial⟩

theorem f55_1_ok (F : Nat) (x1 : Nat) (x2 : Nat) (x3 : List Int) (r : (List Int)) (h : f55_1 F x1 x2 x3 = some r) : f55_1_C x1 x2 x3 r := by
  unfold f55_1 at h
  obtain ⟨rh1, h1, h⟩ := bind_some h
  have ch1 := f86_ok F (IntKind.wrap .u64 (((x2 : Nat) : Int))) _ h1
  obtain ⟨x4, rfl⟩ : ∃ z, z = rh1 := ⟨_, rfl⟩
  try dsimp only at h
  obtain ⟨rh2, h2, h⟩ := bind_some h
  have ch2 := f85_1_ok F x1 x2 0 ((x2 : Nat) : Int) x4 x3 _ h2
  obtain ⟨x5, rfl⟩ : ∃ z, z = rh2 := ⟨_, rfl⟩
  try dsimp only at h
  obtain rfl := Option.some.inj h
  exact callOK cxOK cxW Tryd.func55 (by kernel_rfl) (f55_1_e0 x1 x2 x3 x4 x5) ⟨ch1, ch2, trivial⟩

theorem f17_2_p5_1_ok (F : Nat) (x7 : List Int) (x8 : Int) (x3 : List Int) (x9 : Int) (r : (List Int)) (h : f17_2_p5_1 F x7 x8 x3 x9 = some r) : f17_2_p5_1_P x7 x8 x3 x9 r := by
  unfold f17_2_p5_1 at h
  by_cases h10 : (x9 == 0) = true
  · rw [if_pos h10] at h
    obtain ⟨h11, h⟩ := req_some h
    obtain rfl := Option.some.inj h
    exact gRun_ok cxOK (f17_2_p5_1_e0 x3 x7 x8 x9) ⟨h10, h11, rfl, trivial⟩
  · rw [if_neg h10] at h
    have h10 := Bool.eq_false_iff.2 h10
    obtain rfl := Option.some.inj h
    exact gRun_ok cxOK (f17_2_p5_1_e1 x3 x7 x8 x9) ⟨h10, trivial⟩
theorem f17_2_p2_ok (F : Nat) (x3 : List Int) : ∀ (k : Nat) (x8 : Int) (x7 : List Int) (r : (List Int)), f17_2_p2 F x3 k x8 x7 = some r → f17_2_p2_P x3 x8 x7 r
  | 0, _, _, _, h => by cases h
  | k + 1, x8, x7, r, h => by
    unfold f17_2_p2 at h
    by_cases h8 : (decide (x8 < ((List.length x3 : Nat) : Int))) = true
    · rw [if_pos h8] at h
      obtain ⟨x9, h9, h⟩ := bind_some h
      try dsimp only at h
      obtain ⟨rh12, h12, h⟩ := bind_some h
      have ch12 := f17_2_p5_1_ok F x7 x8 x3 x9 _ h12
      obtain ⟨x10, rfl⟩ : ∃ z, z = rh12 := ⟨_, rfl⟩
      try dsimp only at h
      exact Lp.again (gRun_ok cxOK (f17_2_p2_e0 x3 x7 x8 x9 x10) ⟨h8, ⟨(at?_spec h9).1, x9, (at?_spec h9).2, rfl⟩, ch12, trivial⟩) (f17_2_p2_ok F x3 k (w64 (x8 + 1)) x10 r h)
    · rw [if_neg h8] at h
      have h8 := Bool.eq_false_iff.2 h8
      obtain rfl := Option.some.inj h
      exact Lp.out (gRun_ok cxOK (f17_2_p2_e1 x3 x7 x8) ⟨h8, trivial⟩) (by intro hh; cases hh)
theorem f17_2_ok (F : Nat) (x1 : Int) (x2 : List Int) (r : Int × (List Int)) (h : f17_2 F x1 x2 = some r) : f17_2_C x1 x2 r := by
  unfold f17_2 at h
  obtain ⟨rh1, h1, h⟩ := bind_some h
  have ch1 := f59_ok F x1 x2 _ h1
  obtain ⟨x3, x4⟩ := rh1
  try dsimp only at h
  by_cases h2 : (x4 != 0) = true
  · rw [if_pos h2] at h
    obtain rfl := Option.some.inj h
    exact callOK cxOK cxW Tryd.func17 (by kernel_rfl) (f17_2_e0 x1 x2 x3 x4) ⟨ch1, h2, trivial⟩
  · rw [if_neg h2] at h
    have h2 := Bool.eq_false_iff.2 h2
    obtain ⟨rh13, h13, h⟩ := bind_some h
    have ch13 := f17_2_p2_ok F x3 F 0 ([] : List Int) _ h13
    obtain ⟨x11, rfl⟩ : ∃ z, z = rh13 := ⟨_, rfl⟩
    try dsimp only at h
    obtain rfl := Option.some.inj h
    exact callOK cxOK cxW Tryd.func17 (by kernel_rfl) (f17_2_e1 x1 x2 x3 x4 x11) ⟨ch1, h2, ch13, trivial⟩

theorem f17_3_p5_1_ok (F : Nat) (x7 : List Int) (x8 : Int) (x3 : List Int) (x9 : Int) (r : (List Int)) (h : f17_3_p5_1 F x7 x8 x3 x9 = some r) : f17_3_p5_1_P x7 x8 x3 x9 r := by
  unfold f17_3_p5_1 at h
  by_cases h10 : (x9 == 0) = true
  · rw [if_pos h10] at h
    obtain ⟨h11, h⟩ := req_some h
    obtain rfl := Option.some.inj h
    exact gRun_ok cxOK (f17_3_p5_1_e0 x3 x7 x8 x9) ⟨h10, h11, rfl, trivial⟩
  · rw [if_neg h10] at h
    have h10 := Bool.eq_false_iff.2 h10
    obtain rfl := Option.some.inj h
    exact gRun_ok cxOK (f17_3_p5_1_e1 x3 x7 x8 x9) ⟨h10, trivial⟩
theorem f17_3_p2_ok (F : Nat) (x3 : List Int) : ∀ (k : Nat) (x8 : Int) (x7 : List Int) (r : (List Int)), f17_3_p2 F x3 k x8 x7 = some r → f17_3_p2_P x3 x8 x7 r
  | 0, _, _, _, h => by cases h
  | k + 1, x8, x7, r, h => by
    unfold f17_3_p2 at h
    by_cases h8 : (decide (x8 < ((List.length x3 : Nat) : Int))) = true
    · rw [if_pos h8] at h
      obtain ⟨x9, h9, h⟩ := bind_some h
      try dsimp only at h
      obtain ⟨rh12, h12, h⟩ := bind_some h
      have ch12 := f17_3_p5_1_ok F x7 x8 x3 x9 _ h12
      obtain ⟨x10, rfl⟩ : ∃ z, z = rh12 := ⟨_, rfl⟩
      try dsimp only at h
      exact Lp.again (gRun_ok cxOK (f17_3_p2_e0 x3 x7 x8 x9 x10) ⟨h8, ⟨(at?_spec h9).1, x9, (at?_spec h9).2, rfl⟩, ch12, trivial⟩) (f17_3_p2_ok F x3 k (w64 (x8 + 1)) x10 r h)
    · rw [if_neg h8] at h
      have h8 := Bool.eq_false_iff.2 h8
      obtain rfl := Option.some.inj h
      exact Lp.out (gRun_ok cxOK (f17_3_p2_e1 x3 x7 x8) ⟨h8, trivial⟩) (by intro hh; cases hh)
theorem f17_3_ok (F : Nat) (x1 : Int) (x2 : List Int) (r : Int × (List Int)) (h : f17_3 F x1 x2 = some r) : f17_3_C x1 x2 r := by
  unfold f17_3 at h
  obtain ⟨rh1, h1, h⟩ := bind_some h
  have ch1 := f59_ok F x1 x2 _ h1
  obtain ⟨x3, x4⟩ := rh1
  try dsimp only at h
  by_cases h2 : (x4 != 0) = true
  · rw [if_pos h2] at h
    obtain rfl := Option.some.inj h
    exact callOK cxOK cxW Tryd.func17 (by kernel_rfl) (f17_3_e0 x1 x2 x3 x4) ⟨ch1, h2, trivial⟩
  · rw [if_neg h2] at h
    have h2 := Bool.eq_false_iff.2 h2
    obtain ⟨rh13, h13, h⟩ := bind_some h
    have ch13 := f17_3_p2_ok F x3 F 0 ([] : List Int) _ h13
    obtain ⟨x11, rfl⟩ : ∃ z, z = rh13 := ⟨_, rfl⟩
    try dsimp only at h
    obtain rfl := Option.some.inj h
    exact callOK cxOK cxW Tryd.func17 (by kernel_rfl) (f17_3_e1 x1 x2 x3 x4 x11) ⟨ch1, h2, ch13, trivial⟩

theorem f56_ok (F : Nat) (x1 : List Int) (r : (List Int)) (h : f56 F x1 = some r) : f56_C x1 r := by
  unfold f56 at h
  obtain ⟨h1, h⟩ := req_some h
  obtain ⟨h2, h⟩ := req_some h
  obtain rfl := Option.some.inj h
  exact callOK cxOK cxW Tryd.func56 (by kernel_rfl) (f56_e0 x1) ⟨h1, rfl, h2, (.inl rfl), trivial⟩

theorem f57_1_p0_ok (F : Nat) (x1 : List Int) (x2 : Int) (r : Unit) (h : f57_1_p0 F x1 x2 = some r) : f57_1_p0_P x1 x2 r := by
  unfold f57_1_p0 at h
  by_cases h1 : (decide (x2 < 0)) = true
  · rw [if_pos h1] at h
    cases h
  · rw [if_neg h1] at h
    have h1 := Bool.eq_false_iff.2 h1
    obtain rfl := Option.some.inj h
    exact gRun_ok cxOK (f57_1_p0_e0 x1 x2) ⟨h1, trivial⟩
theorem f57_1_p1_ok (F : Nat) (x1 : List Int) (x4 : Int) (r : Unit) (h : f57_1_p1 F x1 x4 = some r) : f57_1_p1_P x1 x4 r := by
  unfold f57_1_p1 at h
  by_cases h5 : (decide (x4 > 9223372036854775807)) = true
  · rw [if_pos h5] at h
    cases h
  · rw [if_neg h5] at h
    have h5 := Bool.eq_false_iff.2 h5
    obtain rfl := Option.some.inj h
    exact gRun_ok cxOK (f57_1_p1_e0 x1 x4) ⟨h5, trivial⟩
theorem f57_1_p3_ok (F : Nat) (x4 : Int) : ∀ (k : Nat) (x7 : Int) (x6 : List Int) (r : (List Int)), f57_1_p3 F x4 k x7 x6 = some r → f57_1_p3_P x4 x7 x6 r
  | 0, _, _, _, h => by cases h
  | k + 1, x7, x6, r, h => by
    unfold f57_1_p3 at h
    by_cases h14 : (decide (x7 < (((Int.toNat (w64 (x4))) : Nat) : Int))) = true
    · rw [if_pos h14] at h
      obtain ⟨h15, h⟩ := req_some h
      obtain ⟨h16, h⟩ := req_some h
      obtain ⟨h17, h⟩ := req_some h
      obtain ⟨h18, h⟩ := req_some h
      exact Lp.again (gRun_ok cxOK (f57_1_p3_e0 x4 x6 x7) ⟨h14, h15, h16, h17, h18, trivial⟩) (f57_1_p3_ok F x4 k (w64 (x7 + (((Nat.min (List.length (List.drop 0 (List.take (0 + (Int.toNat x7)) x6))) ((Int.toNat (w64 (x4))) - (Int.toNat x7))) : Nat) : Int))) (List.take (0 + (Int.toNat x7)) x6 ++ List.take (Nat.min (List.length (List.drop 0 (List.take (0 + (Int.toNat x7)) x6))) ((Int.toNat (w64 (x4))) - (Int.toNat x7))) (List.drop 0 (List.take (0 + (Int.toNat x7)) x6)) ++ List.drop ((0 + (Int.toNat x7)) + (Nat.min (List.length (List.drop 0 (List.take (0 + (Int.toNat x7)) x6))) ((Int.toNat (w64 (x4))) - (Int.toNat x7)))) x6) r h)
    · rw [if_neg h14] at h
      have h14 := Bool.eq_false_iff.2 h14
      obtain rfl := Option.some.inj h
      exact Lp.out (gRun_ok cxOK (f57_1_p3_e1 x4 x6 x7) ⟨h14, trivial⟩) (by intro hh; cases hh)
theorem f57_1_ok (F : Nat) (x1 : List Int) (x2 : Int) (r : (List Int)) (h : f57_1 F x1 x2 = some r) : f57_1_C x1 x2 r := by
  unfold f57_1 at h
  obtain ⟨rh2, h2, h⟩ := bind_some h
  have ch2 := f57_1_p0_ok F x1 x2 _ h2
  try dsimp only at h
  obtain ⟨rh3, h3, h⟩ := bind_some h
  have ch3 := f87_ok F (IntKind.wrap .u64 (((List.length x1 : Nat) : Int))) (IntKind.wrap .u64 (x2)) _ h3
  obtain ⟨x3, x4⟩ := rh3
  try dsimp only at h
  by_cases h4 : (decide (x3 > 0)) = true
  · rw [if_pos h4] at h
    cases h
  · rw [if_neg h4] at h
    have h4 := Bool.eq_false_iff.2 h4
    obtain ⟨rh6, h6, h⟩ := bind_some h
    have ch6 := f57_1_p1_ok F x1 x4 _ h6
    try dsimp only at h
    obtain ⟨h7, h⟩ := req_some h
    obtain ⟨h8, h⟩ := req_some h
    obtain ⟨rh19, h19, h⟩ := bind_some h
    have ch19 := f57_1_p3_ok F x4 F (((Nat.min (List.length x1) (Int.toNat (w64 (x4)))) : Nat) : Int) (List.take 0 (List.replicate (Int.toNat (w64 (x4))) (0 : Int)) ++ List.take (Nat.min (List.length x1) (Int.toNat (w64 (x4)))) x1 ++ List.drop (0 + (Nat.min (List.length x1) (Int.toNat (w64 (x4))))) (List.replicate (Int.toNat (w64 (x4))) (0 : Int))) _ h19
    obtain ⟨x8, rfl⟩ : ∃ z, z = rh19 := ⟨_, rfl⟩
    try dsimp only at h
    obtain ⟨h20, h⟩ := req_some h
    obtain rfl := Option.some.inj h
    exact callOK cxOK cxW Tryd.func57 (by kernel_rfl) (f57_1_e0 x1 x2 x3 x4 x8) ⟨ch2, ch3, h4, h4, h4, ch6, h7, h8, ch19, h20, trivial⟩

theorem f13_p5_2_ok (F : Nat) (x4 : Int) (x5 : Int) (x7 : List Int) (x19 : List Int) (x20 : List Int) (x22 : Int) (x21 : Int) (x6 : List (List Int)) : ∀ (k : Nat) (x23 : Int) (x24 : Int) (r : Int), f13_p5_2 F x4 x5 x7 x19 x20 x22 x21 x6 k x23 x24 = some r → f13_p5_2_P x4 x5 x7 x19 x20 x22 x21 x6 x23 x24 r
  | 0, _, _, _, h => by cases h
  | k + 1, x23, x24, r, h => by
    unfold f13_p5_2 at h
    by_cases h27 : (decide (x24 < x5)) = true
    · rw [if_pos h27] at h
      obtain ⟨h28, h⟩ := req_some h
      obtain ⟨h29, h⟩ := req_some h
      obtain ⟨h30, h⟩ := req_some h
      exact Lp.again (gRun_ok cxOK (f13_p5_2_e0 x4 x5 x6 x7 x19 x20 x21 x22 x23 x24) ⟨h27, h28, h29, h30, trivial⟩) (f13_p5_2_ok F x4 x5 x7 x19 x20 x22 x21 x6 k (iOr .i64 x23 (iShl .i64 (iAnd .i64 (iShr .i64 x22 x24) 1) (Int.tmod (w64 (x24 + (w64 (x4)))) x5))) (w64 (x24 + 1)) r h)
    · rw [if_neg h27] at h
      have h27 := Bool.eq_false_iff.2 h27
      obtain rfl := Option.some.inj h
      exact Lp.out (gRun_ok cxOK (f13_p5_2_e1 x4 x5 x6 x7 x19 x20 x21 x22 x23 x24) ⟨h27, trivial⟩) (by intro hh; cases hh)
theorem f13_p1_ok (F : Nat) (x4 : Int) (x5 : Int) (x7 : List Int) (x6 : List (List Int)) : ∀ (k : Nat) (x21 : Int) (x19 : List Int) (x20 : List Int) (r : (List Int) × (List Int)), f13_p1 F x4 x5 x7 x6 k x21 x19 x20 = some r → f13_p1_P x4 x5 x7 x6 x21 x19 x20 r
  | 0, _, _, _, _, h => by cases h
  | k + 1, x21, x19, x20, r, h => by
    unfold f13_p1 at h
    by_cases h25 : (decide (x21 < ((List.length x7 : Nat) : Int))) = true
    · rw [if_pos h25] at h
      obtain ⟨x22, h26, h⟩ := bind_some h
      try dsimp only at h
      obtain ⟨rh31, h31, h⟩ := bind_some h
      have ch31 := f13_p5_2_ok F x4 x5 x7 x19 x20 x22 x21 x6 F 0 0 _ h31
      obtain ⟨x25, rfl⟩ : ∃ z, z = rh31 := ⟨_, rfl⟩
      try dsimp only at h
      obtain ⟨h32, h⟩ := req_some h
      obtain ⟨h33, h⟩ := req_some h
      exact Lp.again (gRun_ok cxOK (f13_p1_e0 x4 x5 x6 x7 x19 x20 x21 x22 x25) ⟨h25, ⟨(at?_spec h26).1, x22, (at?_spec h26).2, rfl⟩, ch31, h32, rfl, h33, rfl, trivial⟩) (f13_p1_ok F x4 x5 x7 x6 k (w64 (x21 + 1)) (x19 ++ ([x25] : List Int)) (x20 ++ ([(iXor .i64 x22 (Int.tmod (w64 (x4)) (iShl .i64 1 x5)))] : List Int)) r h)
    · rw [if_neg h25] at h
      have h25 := Bool.eq_false_iff.2 h25
      obtain rfl := Option.some.inj h
      exact Lp.out (gRun_ok cxOK (f13_p1_e1 x4 x5 x6 x7 x19 x20 x21) ⟨h25, trivial⟩) (by intro hh; cases hh)
theorem f13_p17_7_ok (F : Nat) (x5 : Int) (x4 : Int) (x91 : Int) (x94 : (List Int)) (x101 : Int) (x103 : Int) (x6 : List (List Int)) (x92 : Int) (x89 : List (List Int)) (x93 : Int) (x90 : List (List Int)) (x100 : List Int) (r : Int) (h : f13_p17_7 F x5 x4 x91 x94 x101 x103 x6 x92 x89 x93 x90 x100 = some r) : f13_p17_7_P x5 x4 x91 x94 x101 x103 x6 x92 x89 x93 x90 x100 r := by
  unfold f13_p17_7 at h
  by_cases h165 : ((iAnd .i64 (iShr .i64 (Int.tmod (w64 (x4)) (iShl .i64 1 x5)) x91) 1) == 1) = true
  · rw [if_pos h165] at h
    obtain rfl := Option.some.inj h
    exact gRun_ok cxOK (f13_p17_7_e0 x4 x5 x6 x89 x90 x91 x92 x93 x94 x100 x101 x103) ⟨h165, trivial⟩
  · rw [if_neg h165] at h
    have h165 := Bool.eq_false_iff.2 h165
    obtain rfl := Option.some.inj h
    exact gRun_ok cxOK (f13_p17_7_e1 x4 x5 x6 x89 x90 x91 x92 x93 x94 x100 x101 x103) ⟨h165, trivial⟩
theorem f13_p14_3_ok (F : Nat) (x5 : Int) (x4 : Int) (x91 : Int) (x94 : (List Int)) (x6 : List (List Int)) (x92 : Int) (x89 : List (List Int)) (x93 : Int) (x90 : List (List Int)) : ∀ (k : Nat) (x101 : Int) (x100 : List Int) (r : (List Int)), f13_p14_3 F x5 x4 x91 x94 x6 x92 x89 x93 x90 k x101 x100 = some r → f13_p14_3_P x5 x4 x91 x94 x6 x92 x89 x93 x90 x101 x100 r
  | 0, _, _, _, h => by cases h
  | k + 1, x101, x100, r, h => by
    unfold f13_p14_3 at h
    by_cases h160 : (decide (x101 < (iShl .i64 1 x5))) = true
    · rw [if_pos h160] at h
      obtain ⟨rh161, h161, h⟩ := bind_some h
      have ch161 := f41_ok F x5 x101 x91 _ h161
      obtain ⟨x102, rfl⟩ : ∃ z, z = rh161 := ⟨_, rfl⟩
      try dsimp only at h
      obtain ⟨x103, h162, h⟩ := bind_some h
      try dsimp only at h
      by_cases h163 : (decide (x103 < 2)) = true
      · rw [if_pos h163] at h
        obtain ⟨h164, h⟩ := req_some h
        obtain ⟨rh166, h166, h⟩ := bind_some h
        have ch166 := f13_p17_7_ok F x5 x4 x91 x94 x101 x103 x6 x92 x89 x93 x90 x100 _ h166
        obtain ⟨x104, rfl⟩ : ∃ z, z = rh166 := ⟨_, rfl⟩
        try dsimp only at h
        obtain ⟨rh167, h167, h⟩ := bind_some h
        have ch167 := f41_ok F x5 (iXor .i64 x101 (Int.tmod (w64 (x4)) (iShl .i64 1 x5))) x91 _ h167
        obtain ⟨x105, rfl⟩ : ∃ z, z = rh167 := ⟨_, rfl⟩
        try dsimp only at h
        obtain ⟨h168, h⟩ := req_some h
        obtain ⟨h169, h⟩ := req_some h
        exact Lp.again (gRun_ok cxOK (f13_p14_3_e0 x4 x5 x6 x89 x90 x91 x92 x93 x94 x100 x101 x102 x103 x104 x105) ⟨h160, ch161, ⟨(at?_spec h162).1, x103, (at?_spec h162).2, rfl⟩, h163, h163, h163, h164, h163, h163, h163, ch166, ch167, h168, h169, trivial⟩) (f13_p14_3_ok F x5 x4 x91 x94 x6 x92 x89 x93 x90 k (w64 (x101 + 1)) (List.set x100 (0 + (Int.toNat x105)) x104) r h)
      · rw [if_neg h163] at h
        have h163 := Bool.eq_false_iff.2 h163
        obtain ⟨rh170, h170, h⟩ := bind_some h
        have ch170 := f41_ok F x5 (iXor .i64 x101 (Int.tmod (w64 (x4)) (iShl .i64 1 x5))) x91 _ h170
        obtain ⟨x106, rfl⟩ : ∃ z, z = rh170 := ⟨_, rfl⟩
        try dsimp only at h
        obtain ⟨h171, h⟩ := req_some h
        obtain ⟨h172, h⟩ := req_some h
        exact Lp.again (gRun_ok cxOK (f13_p14_3_e1 x4 x5 x6 x89 x90 x91 x92 x93 x94 x100 x101 x102 x103 x106) ⟨h160, ch161, ⟨(at?_spec h162).1, x103, (at?_spec h162).2, rfl⟩, h163, h163, h163, h163, h163, h163, rfl, ch170, h171, h172, trivial⟩) (f13_p14_3_ok F x5 x4 x91 x94 x6 x92 x89 x93 x90 k (w64 (x101 + 1)) (List.set x100 (0 + (Int.toNat x106)) x103) r h)
    · rw [if_neg h160] at h
      have h160 := Bool.eq_false_iff.2 h160
      obtain rfl := Option.some.inj h
      exact Lp.out (gRun_ok cxOK (f13_p14_3_e2 x4 x5 x6 x89 x90 x91 x92 x93 x94 x100 x101) ⟨h160, trivial⟩) (by intro hh; cases hh)
theorem f13_p10_ok (F : Nat) (x5 : Int) (x4 : Int) (x6 : List (List Int)) : ∀ (k : Nat) (x91 : Int) (x92 : Int) (x93 : Int) (x89 : List (List Int)) (x90 : List (List Int)) (r : Int × Int × (List (List Int)) × (List (List Int))), f13_p10 F x5 x4 x6 k x91 x92 x93 x89 x90 = some r → f13_p10_P x5 x4 x6 x91 x92 x93 x89 x90 r
  | 0, _, _, _, _, _, _, h => by cases h
  | k + 1, x91, x92, x93, x89, x90, r, h => by
    unfold f13_p10 at h
    by_cases h146 : (decide (x91 < ((List.length x6 : Nat) : Int))) = true
    · rw [if_pos h146] at h
      obtain ⟨x94, h147, h⟩ := bind_some h
      try dsimp only at h
      obtain ⟨h148, h⟩ := req_some h
      obtain ⟨h149, h⟩ := req_some h
      obtain ⟨rh173, h173, h⟩ := bind_some h
      have ch173 := f13_p14_3_ok F x5 x4 x91 x94 x6 x92 x89 x93 x90 F 0 (List.replicate (Int.toNat ((List.length x94 : Nat) : Int)) (0 : Int)) _ h173
      obtain ⟨x107, rfl⟩ : ∃ z, z = rh173 := ⟨_, rfl⟩
      try dsimp only at h
      obtain ⟨h174, h⟩ := req_some h
      obtain ⟨h175, h⟩ := req_some h
      obtain ⟨rh176, h176, h⟩ := bind_some h
      have ch176 := f56_ok F x94 _ h176
      obtain ⟨x108, rfl⟩ : ∃ z, z = rh176 := ⟨_, rfl⟩
      try dsimp only at h
      obtain ⟨h177, h⟩ := req_some h
      obtain ⟨h178, h⟩ := req_some h
      exact Lp.again (gRun_ok cxOK (f13_p10_e0 x4 x5 x6 x89 x90 x91 x92 x93 x94 x107 x108) ⟨h146, ⟨(at?_spec h147).1, x94, (at?_spec h147).2, rfl⟩, h148, h149, ch173, h174, h175, rfl, ch176, h177, rfl, rfl, h178, rfl, trivial⟩) (f13_p10_ok F x5 x4 x6 k (w64 (x91 + 1)) x92 x93 (x89 ++ ([(List.drop 0 (List.take (0 + (Int.toNat ((List.length x94 : Nat) : Int))) x107))] : List (List Int))) (x90 ++ ([(x108 ++ x94)] : List (List Int))) r h)
    · rw [if_neg h146] at h
      have h146 := Bool.eq_false_iff.2 h146
      obtain rfl := Option.some.inj h
      exact Lp.out (gRun_ok cxOK (f13_p10_e1 x4 x5 x6 x89 x90 x91 x92 x93) ⟨h146, trivial⟩) (by intro hh; cases hh)
theorem f13_ok (F : Nat) (x1 : Int) (x2 : List Int) (x3 : Int) (x4 : Int) (r : Bool) (h : f13 F x1 x2 x3 x4 = some r) : f13_C x1 x2 x3 x4 r := by
  unfold f13 at h
  obtain ⟨rh1, h1, h⟩ := bind_some h
  have ch1 := f31_ok F x1 x2 3 _ h1
  obtain ⟨x5, x6⟩ := rh1
  try dsimp only at h
  obtain ⟨h2, h⟩ := req_some h
  obtain ⟨h3, h⟩ := req_some h
  obtain ⟨h4, h⟩ := req_some h
  obtain ⟨rh5, h5, h⟩ := bind_some h
  have ch5 := f43_ok F (Int.tmod (w64 (x3)) (iShl .i64 1 (iShl .u64 1 x5))) _ h5
  obtain ⟨x7, rfl⟩ : ∃ z, z = rh5 := ⟨_, rfl⟩
  try dsimp only at h
  obtain ⟨h6, h⟩ := req_some h
  obtain ⟨rh34, h34, h⟩ := bind_some h
  have ch34 := f13_p1_ok F x4 x5 x7 x6 F 0 ([] : List Int) ([] : List Int) _ h34
  obtain ⟨x26, x27⟩ := rh34
  try dsimp only at h
  obtain ⟨rh35, h35, h⟩ := bind_some h
  have ch35 := f55_ok F 0 (List.length x26) x26 _ h35
  obtain ⟨x28, rfl⟩ : ∃ z, z = rh35 := ⟨_, rfl⟩
  try dsimp only at h
  obtain ⟨rh36, h36, h⟩ := bind_some h
  have ch36 := f55_1_ok F 0 (List.length x27) x27 _ h36
  obtain ⟨x29, rfl⟩ : ∃ z, z = rh36 := ⟨_, rfl⟩
  try dsimp only at h
  obtain ⟨rh37, h37, h⟩ := bind_some h
  have ch37 := f17_ok F x5 x7 _ h37
  obtain ⟨x30, x31⟩ := rh37
  try dsimp only at h
  obtain ⟨rh38, h38, h⟩ := bind_some h
  have ch38 := f17_2_ok F x5 (List.drop 0 (List.take (0 + (List.length x26)) x28)) _ h38
  obtain ⟨x32, x33⟩ := rh38
  try dsimp only at h
  obtain ⟨h39, h⟩ := req_some h
  obtain ⟨rh40, h40, h⟩ := bind_some h
  have ch40 := f17_3_ok F x5 (List.drop 0 (List.take (0 + (List.length x27)) x29)) _ h40
  obtain ⟨x34, x35⟩ := rh40
  try dsimp only at h
  obtain ⟨h41, h⟩ := req_some h
  by_cases h42 : (x31 != 0) = true
  · rw [if_pos h42] at h
    cases h
  · rw [if_neg h42] at h
    have h42 := Bool.eq_false_iff.2 h42
    by_cases h43 : (x32 != 0) = true
    · rw [if_pos h43] at h
      cases h
    · rw [if_neg h43] at h
      have h43 := Bool.eq_false_iff.2 h43
      by_cases h44 : (x34 != 0) = true
      · rw [if_pos h44] at h
        cases h
      · rw [if_neg h44] at h
        have h44 := Bool.eq_false_iff.2 h44
        by_cases h45 : (((List.length x30 : Nat) : Int) != (((List.length x33) : Nat) : Int)) = true
        · rw [if_pos h45] at h
          cases h
        · rw [if_neg h45] at h
          have h45 := Bool.eq_false_iff.2 h45
          by_cases h46 : (((List.length x30 : Nat) : Int) != (((List.length x35) : Nat) : Int)) = true
          · rw [if_pos h46] at h
            cases h
          · rw [if_neg h46] at h
            have h46 := Bool.eq_false_iff.2 h46
            obtain ⟨rh179, h179, h⟩ := bind_some h
            have ch179 := f13_p10_ok F x5 x4 x6 F 0 x5 (w64 (x5 + 1)) ([] : List (List Int)) ([] : List (List Int)) _ h179
            obtain ⟨x109, x110, x111, x112⟩ := rh179
            try dsimp only at h
            obtain ⟨rh180, h180, h⟩ := bind_some h
            have ch180 := f57_1_ok F ([2] : List Int) (iShl .i64 1 x5) _ h180
            obtain ⟨x113, rfl⟩ : ∃ z, z = rh180 := ⟨_, rfl⟩
            try dsimp only at h
            obtain ⟨h181, h⟩ := req_some h
            obtain ⟨rh182, h182, h⟩ := bind_some h
            have ch182 := f32_ok F x5 x6 _ h182
            obtain ⟨x114, x115⟩ := rh182
            try dsimp only at h
            obtain ⟨rh183, h183, h⟩ := bind_some h
            have ch183 := f32_ok F x109 (List.drop 0 (List.take (0 + (List.length x111)) x111)) _ h183
            obtain ⟨x116, x117⟩ := rh183
            try dsimp only at h
            obtain ⟨rh184, h184, h⟩ := bind_some h
            have ch184 := f32_ok F x110 (List.drop 0 (List.take (0 + (List.length (x112 ++ ([x113] : List (List Int))))) (x112 ++ ([x113] : List (List Int))))) _ h184
            obtain ⟨x118, x119⟩ := rh184
            try dsimp only at h
            by_cases h185 : (x115 == 0) = true
            · rw [if_pos h185] at h
              by_cases h186 : (x117 == 0) = true
              · rw [if_pos h186] at h
                by_cases h187 : (x119 == 0) = true
                · rw [if_pos h187] at h
                  by_cases h188 : (((List.length x114 : Nat) : Int) == ((List.length x116 : Nat) : Int)) = true
                  · rw [if_pos h188] at h
                    by_cases h189 : (((List.length x118 : Nat) : Int) == (w64 (2 * ((List.length x114 : Nat) : Int)))) = true
                    · rw [if_pos h189] at h
                      obtain ⟨rh190, h190, h⟩ := bind_some h
                      have ch190 := f14_ok F _ h190
                      obtain ⟨x120, rfl⟩ : ∃ z, z = rh190 := ⟨_, rfl⟩
                      try dsimp only at h
                      obtain rfl := Option.some.inj h
                      exact callOK cxOK cxW Tryd.func13 (by kernel_rfl) (f13_e0 x1 x2 x3 x4 x5 x6 x7 x26 x27 x28 x29 x30 x31 x32 x33 x34 x35 x109 x110 x111 x112 x113 x114 x115 x116 x117 x118 x119 x120) ⟨ch1, h2, h3, h4, ch5, h2, h6, ch34, ch35, ch36, ch37, ch38, h39, ch40, h41, h42, h42, h42, h43, h43, h43, h44, h44, h44, h44, h44, h44, h45, h45, h45, h45, h45, h45, h46, ch179, h2, ch180, h181, rfl, ch182, (Nat.le_of_eq (Nat.zero_add _)), ch183, (Nat.le_of_eq (Nat.zero_add _)), ch184, h185, h185, h185, h186, h186, h186, h187, h187, h187, h187, h187, h187, h188, h188, h188, h188, h188, h188, h188, h189, ch190, h189, trivial⟩
                    · rw [if_neg h189] at h
                      have h189 := Bool.eq_false_iff.2 h189
                      cases h
                  · rw [if_neg h188] at h
                    have h188 := Bool.eq_false_iff.2 h188
                    cases h
                · rw [if_neg h187] at h
                  have h187 := Bool.eq_false_iff.2 h187
                  cases h
              · rw [if_neg h186] at h
                have h186 := Bool.eq_false_iff.2 h186
                cases h
            · rw [if_neg h185] at h
              have h185 := Bool.eq_false_iff.2 h185
              cases h

end Go.Gh.Hat
