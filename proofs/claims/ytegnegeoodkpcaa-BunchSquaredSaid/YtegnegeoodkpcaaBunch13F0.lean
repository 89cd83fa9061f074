/- Bunch13F0: printed by wip/tool/gx.py -/
import Derived.Test.YtegnegeoodkpcaaBunch13E0
import Derived.Test.YtegnegeoodkpcaaBunch13E1
namespace Go.Gh.Bunch
set_option linter.unusedVariables false
set_option linter.unusedSimpArgs false
open Go.Proofs

theorem f106_p0_ok (F : Nat) (x1 : Int) (r : Int × Int) (h : f106_p0 F x1 = some r) : f106_p0_P x1 r := by
  unfold f106_p0 at h
  by_cases h1 : (decide (x1 ≥ 4294967296)) = true
  · rw [if_pos h1] at h
    obtain rfl := Option.some.inj h
    exact gRun_ok cxOK (f106_p0_e0 x1) ⟨h1, (by decide), trivial⟩
  · rw [if_neg h1] at h
    have h1 := Bool.eq_false_iff.2 h1
    obtain rfl := Option.some.inj h
    exact gRun_ok cxOK (f106_p0_e1 x1) ⟨h1, trivial⟩
theorem f106_p1_ok (F : Nat) (x2 x3 : Int) (r : Int × Int) (h : f106_p1 F x2 x3 = some r) : f106_p1_P x2 x3 r := by
  unfold f106_p1 at h
  by_cases h3 : (decide (x2 ≥ 65536)) = true
  · rw [if_pos h3] at h
    obtain rfl := Option.some.inj h
    exact gRun_ok cxOK (f106_p1_e0 x2 x3) ⟨h3, (by decide), trivial⟩
  · rw [if_neg h3] at h
    have h3 := Bool.eq_false_iff.2 h3
    obtain rfl := Option.some.inj h
    exact gRun_ok cxOK (f106_p1_e1 x2 x3) ⟨h3, trivial⟩
theorem f106_p2_ok (F : Nat) (x4 x5 : Int) (r : Int × Int) (h : f106_p2 F x4 x5 = some r) : f106_p2_P x4 x5 r := by
  unfold f106_p2 at h
  by_cases h5 : (decide (x4 ≥ 256)) = true
  · rw [if_pos h5] at h
    obtain rfl := Option.some.inj h
    exact gRun_ok cxOK (f106_p2_e0 x4 x5) ⟨h5, (by decide), trivial⟩
  · rw [if_neg h5] at h
    have h5 := Bool.eq_false_iff.2 h5
    obtain rfl := Option.some.inj h
    exact gRun_ok cxOK (f106_p2_e1 x4 x5) ⟨h5, trivial⟩
theorem f106_ok (F : Nat) (x1 : Int) (r : Int) (h : f106 F x1 = some r) : f106_C x1 r := by
  unfold f106 at h
  obtain ⟨rh2, h2, h⟩ := bind_some h
  have ch2 := f106_p0_ok F x1 _ h2
  obtain ⟨x2, x3⟩ := rh2
  try dsimp only at h
  obtain ⟨rh4, h4, h⟩ := bind_some h
  have ch4 := f106_p1_ok F x2 x3 _ h4
  obtain ⟨x4, x5⟩ := rh4
  try dsimp only at h
  obtain ⟨rh6, h6, h⟩ := bind_some h
  have ch6 := f106_p2_ok F x4 x5 _ h6
  obtain ⟨x6, x7⟩ := rh6
  try dsimp only at h
  obtain ⟨h7, h⟩ := req_some h
  obtain rfl := Option.some.inj h
  exact callOK cxOK cxW Try.func106 (by kernel_rfl) (f106_e0 x1 x2 x3 x4 x5 x6 x7) ⟨ch2, ch4, ch6, h7, trivial⟩

theorem f92_ok (F : Nat) (x1 : Int) (r : Int) (h : f92 F x1 = some r) : f92_C x1 r := by
  unfold f92 at h
  obtain ⟨x2, h1, h⟩ := bind_some h
  have ch1 := f106_ok F x1 _ h1
  try dsimp only at h
  obtain rfl := Option.some.inj h
  exact callOK cxOK cxW Try.func92 (by kernel_rfl) (f92_e0 x1 x2) ⟨rfl, ch1, trivial⟩

theorem f120_ok (F : Nat) (x1 : Int) (r : Bool) (h : f120 F x1 = some r) : f120_C x1 r := by
  unfold f120 at h
  obtain rfl := Option.some.inj h
  exact callOK cxOK cxW Try.func120 (by kernel_rfl) (f120_e0 x1) trivial

theorem f102_ok (F : Nat) (x1 x2 : Int) (r : Bool) (h : f102 F x1 x2 = some r) : f102_C x1 x2 r := by
  unfold f102 at h
  obtain ⟨x3, h1, h⟩ := bind_some h
  have ch1 := f120_ok F x1 _ h1
  try dsimp only at h
  by_cases h2 : x3 = true
  · rw [if_pos h2] at h
    obtain ⟨x4, h3, h⟩ := bind_some h
    have ch3 := f120_ok F x2 _ h3
    try dsimp only at h
    by_cases h4 : x4 = true
    · rw [if_pos h4] at h
      obtain rfl := Option.some.inj h
      exact callOK cxOK cxW Try.func102 (by kernel_rfl) (f102_e0 x1 x2 x3 x4) ⟨ch1, h2, h2, ch3, h2, h2, (by rw [h4]; rfl), (by rw [h4]; rfl), (by rw [h4]; rfl), (by rw [h4]; rfl), trivial⟩
    · rw [if_neg h4] at h
      have h4 := Bool.eq_false_iff.2 h4
      obtain rfl := Option.some.inj h
      exact callOK cxOK cxW Try.func102 (by kernel_rfl) (f102_e1 x1 x2 x3 x4) ⟨ch1, h2, h2, ch3, h2, h2, (by rw [h4]; rfl), (by rw [h4]; rfl), (by rw [h4]; rfl), (by rw [h4]; rfl), trivial⟩
  · rw [if_neg h2] at h
    have h2 := Bool.eq_false_iff.2 h2
    obtain rfl := Option.some.inj h
    exact callOK cxOK cxW Try.func102 (by kernel_rfl) (f102_e2 x1 x2 x3) ⟨ch1, h2, h2, h2, h2, rfl, rfl, rfl, rfl, trivial⟩

theorem f96_p5_1_ok (F : Nat) (x1 x2 : Nat) (x3 x4 x18 : Int) : ∀ (k : Nat) (x24 : Int) (x23 : List Int) (r : (List Int)), f96_p5_1 F x1 x2 x3 x4 x18 k x24 x23 = some r → f96_p5_1_P x1 x2 x3 x4 x18 x24 x23 r
  | 0, _, _, _, h => by cases h
  | k + 1, x24, x23, r, h => by
    unfold f96_p5_1 at h
    by_cases h31 : (decide (x24 > x3)) = true
    · rw [if_pos h31] at h
      obtain ⟨h32, h⟩ := req_some h
      obtain ⟨x25, h33, h⟩ := bind_some h
      try dsimp only at h
      obtain ⟨h34, h⟩ := req_some h
      obtain ⟨x26, h35, h⟩ := bind_some h
      try dsimp only at h
      obtain ⟨x27, h36, h⟩ := bind_some h
      have ch36 := f102_ok F x25 x26 _ h36
      try dsimp only at h
      by_cases h37 : x27 = true
      · rw [if_pos h37] at h
        obtain ⟨h38, h⟩ := req_some h
        obtain ⟨h39, h⟩ := req_some h
        exact Lp.again (gRun_ok cxOK (f96_p5_1_e0 x1 x2 x3 x4 x18 x23 x24 x25 x26 x27) ⟨h31, h31, h31, h32, h31, ⟨x25, h33, rfl⟩, h31, h31, h31, h31, h34, h31, ⟨x26, h35, rfl⟩, h31, ch36, h31, h37, h34, ⟨x26, h35, rfl⟩, h32, ⟨x25, h33, rfl⟩, h32, h38, h34, h39, trivial⟩) (f96_p5_1_ok F x1 x2 x3 x4 x18 k (w64 (x24 - 1)) (List.set (List.set x23 (x1 + (Int.toNat x24)) x26) (x1 + (Int.toNat (w64 (x24 - 1)))) x25) r h)
      · rw [if_neg h37] at h
        have h37 := Bool.eq_false_iff.2 h37
        obtain rfl := Option.some.inj h
        exact Lp.out (gRun_ok cxOK (f96_p5_1_e1 x1 x2 x3 x4 x18 x23 x24 x25 x26 x27) ⟨h31, h31, h31, h32, h31, ⟨x25, h33, rfl⟩, h31, h31, h31, h31, h34, h31, ⟨x26, h35, rfl⟩, h31, ch36, h31, h37, trivial⟩) (by intro hh; cases hh)
    · rw [if_neg h31] at h
      have h31 := Bool.eq_false_iff.2 h31
      obtain rfl := Option.some.inj h
      exact Lp.out (gRun_ok cxOK (f96_p5_1_e2 x1 x2 x3 x4 x18 x23 x24) ⟨h31, h31, h31, h31, h31, h31, h31, h31, h31, h31, h31, rfl, trivial⟩) (by intro hh; cases hh)
theorem f96_p1_ok (F : Nat) (x1 x2 : Nat) (x3 x4 : Int) : ∀ (k : Nat) (x18 : Int) (x17 : List Int) (r : (List Int)), f96_p1 F x1 x2 x3 x4 k x18 x17 = some r → f96_p1_P x1 x2 x3 x4 x18 x17 r
  | 0, _, _, _, h => by cases h
  | k + 1, x18, x17, r, h => by
    unfold f96_p1 at h
    by_cases h21 : (decide (x18 < x4)) = true
    · rw [if_pos h21] at h
      obtain ⟨x28, h40, h⟩ := bind_some h
      have ch40 := f96_p5_1_ok F x1 x2 x3 x4 x18 F x18 x17 _ h40
      try dsimp only at h
      exact Lp.again (gRun_ok cxOK (f96_p1_e0 x1 x2 x3 x4 x17 x18 x28) ⟨h21, ch40, trivial⟩) (f96_p1_ok F x1 x2 x3 x4 k (w64 (x18 + 1)) x28 r h)
    · rw [if_neg h21] at h
      have h21 := Bool.eq_false_iff.2 h21
      obtain rfl := Option.some.inj h
      exact Lp.out (gRun_ok cxOK (f96_p1_e1 x1 x2 x3 x4 x17 x18) ⟨h21, trivial⟩) (by intro hh; cases hh)
theorem f96_ok (F : Nat) (x1 x2 : Nat) (x3 x4 : Int) (x5 : List Int) (r : (List Int)) (h : f96 F x1 x2 x3 x4 x5 = some r) : f96_C x1 x2 x3 x4 x5 r := by
  unfold f96 at h
  obtain ⟨x29, h41, h⟩ := bind_some h
  have ch41 := f96_p1_ok F x1 x2 x3 x4 F (w64 (x3 + 1)) x5 _ h41
  try dsimp only at h
  obtain rfl := Option.some.inj h
  exact callOK cxOK cxW Try.func96 (by kernel_rfl) (f96_e0 x1 x2 x3 x4 x5 x29) ⟨ch41, trivial⟩

theorem f115_p4_1_ok (F : Nat) (x1 x2 : Nat) (x4 x5 x16 : Int) (x19 : Bool) (x15 : List Int) (r : Int) (h : f115_p4_1 F x1 x2 x4 x5 x16 x19 x15 = some r) : f115_p4_1_P x1 x2 x4 x5 x16 x19 x15 r := by
  unfold f115_p4_1 at h
  by_cases h25 : x19 = true
  · rw [if_pos h25] at h
    obtain rfl := Option.some.inj h
    exact gRun_ok cxOK (f115_p4_1_e0 x1 x2 x4 x5 x15 x16 x19) ⟨h25, trivial⟩
  · rw [if_neg h25] at h
    have h25 := Bool.eq_false_iff.2 h25
    obtain rfl := Option.some.inj h
    exact gRun_ok cxOK (f115_p4_1_e1 x1 x2 x4 x5 x15 x16 x19) ⟨h25, trivial⟩
theorem f115_p1_ok (F : Nat) (x1 x2 : Nat) (x4 x5 : Int) : ∀ (k : Nat) (x16 : Int) (x15 : List Int) (r : f115_p1_R), f115_p1 F x1 x2 x4 x5 k x16 x15 = some r → f115_p1_P x1 x2 x4 x5 x16 x15 r
  | 0, _, _, _, h => by cases h
  | k + 1, x16, x15, r, h => by
    unfold f115_p1 at h
    by_cases h18 : (decide ((w64 ((w64 (2 * x16)) + 1)) ≥ x4)) = true
    · rw [if_pos h18] at h
      obtain rfl := Option.some.inj h
      exact Lp.out (gRun_ok cxOK (f115_p1_e0 x1 x2 x4 x5 x15 x16) ⟨h18, trivial⟩) (by intro hh; cases hh)
    · rw [if_neg h18] at h
      have h18 := Bool.eq_false_iff.2 h18
      by_cases h19 : (decide ((w64 ((w64 ((w64 (2 * x16)) + 1)) + 1)) < x4)) = true
      · rw [if_pos h19] at h
        obtain ⟨h20, h⟩ := req_some h
        obtain ⟨x17, h21, h⟩ := bind_some h
        try dsimp only at h
        obtain ⟨h22, h⟩ := req_some h
        obtain ⟨x18, h23, h⟩ := bind_some h
        try dsimp only at h
        obtain ⟨x19, h24, h⟩ := bind_some h
        have ch24 := f102_ok F x17 x18 _ h24
        try dsimp only at h
        obtain ⟨x20, h26, h⟩ := bind_some h
        have ch26 := f115_p4_1_ok F x1 x2 x4 x5 x16 x19 x15 _ h26
        try dsimp only at h
        obtain ⟨h27, h⟩ := req_some h
        obtain ⟨x21, h28, h⟩ := bind_some h
        try dsimp only at h
        obtain ⟨h29, h⟩ := req_some h
        obtain ⟨x22, h30, h⟩ := bind_some h
        try dsimp only at h
        obtain ⟨x23, h31, h⟩ := bind_some h
        have ch31 := f102_ok F x21 x22 _ h31
        try dsimp only at h
        by_cases h32 : x23 = true
        · rw [if_pos h32] at h
          obtain ⟨h33, h⟩ := req_some h
          obtain ⟨h34, h⟩ := req_some h
          exact Lp.again (gRun_ok cxOK (f115_p1_e1 x1 x2 x4 x5 x15 x16 x17 x18 x19 x20 x21 x22 x23) ⟨h18, h19, h19, h19, h19, h19, h20, h19, ⟨x17, h21, rfl⟩, h19, h19, h19, h19, h19, h19, h22, h19, ⟨x18, h23, rfl⟩, h19, ch24, h19, ch26, h27, ⟨x21, h28, rfl⟩, h29, ⟨x22, h30, rfl⟩, ch31, (by rw [h32]; rfl), h29, ⟨x22, h30, rfl⟩, h27, ⟨x21, h28, rfl⟩, h27, h33, h29, h34, trivial⟩) (f115_p1_ok F x1 x2 x4 x5 k x20 (List.set (List.set x15 (x1 + (Int.toNat (w64 (x5 + x16)))) x22) (x1 + (Int.toNat (w64 (x5 + x20)))) x21) r h)
        · rw [if_neg h32] at h
          have h32 := Bool.eq_false_iff.2 h32
          obtain rfl := Option.some.inj h
          exact Lp.out (gRun_ok cxOK (f115_p1_e2 x1 x2 x4 x5 x15 x16 x17 x18 x19 x20 x21 x22 x23) ⟨h18, h19, h19, h19, h19, h19, h20, h19, ⟨x17, h21, rfl⟩, h19, h19, h19, h19, h19, h19, h22, h19, ⟨x18, h23, rfl⟩, h19, ch24, h19, ch26, h27, ⟨x21, h28, rfl⟩, h29, ⟨x22, h30, rfl⟩, ch31, (by rw [h32]; rfl), trivial⟩) (by intro hh; cases hh)
      · rw [if_neg h19] at h
        have h19 := Bool.eq_false_iff.2 h19
        obtain ⟨h35, h⟩ := req_some h
        obtain ⟨x24, h36, h⟩ := bind_some h
        try dsimp only at h
        obtain ⟨h37, h⟩ := req_some h
        obtain ⟨x25, h38, h⟩ := bind_some h
        try dsimp only at h
        obtain ⟨x26, h39, h⟩ := bind_some h
        have ch39 := f102_ok F x24 x25 _ h39
        try dsimp only at h
        by_cases h40 : x26 = true
        · rw [if_pos h40] at h
          obtain ⟨h41, h⟩ := req_some h
          obtain ⟨h42, h⟩ := req_some h
          exact Lp.again (gRun_ok cxOK (f115_p1_e3 x1 x2 x4 x5 x15 x16 x24 x25 x26) ⟨h18, h19, h19, h19, h19, h19, h19, h19, h19, h19, h19, h19, h19, h19, h19, h19, rfl, h35, ⟨x24, h36, rfl⟩, h37, ⟨x25, h38, rfl⟩, ch39, (by rw [h40]; rfl), h37, ⟨x25, h38, rfl⟩, h35, ⟨x24, h36, rfl⟩, h35, h41, h37, h42, trivial⟩) (f115_p1_ok F x1 x2 x4 x5 k (w64 ((w64 (2 * x16)) + 1)) (List.set (List.set x15 (x1 + (Int.toNat (w64 (x5 + x16)))) x25) (x1 + (Int.toNat (w64 (x5 + (w64 ((w64 (2 * x16)) + 1)))))) x24) r h)
        · rw [if_neg h40] at h
          have h40 := Bool.eq_false_iff.2 h40
          obtain rfl := Option.some.inj h
          exact Lp.out (gRun_ok cxOK (f115_p1_e4 x1 x2 x4 x5 x15 x16 x24 x25 x26) ⟨h18, h19, h19, h19, h19, h19, h19, h19, h19, h19, h19, h19, h19, h19, h19, h19, rfl, h35, ⟨x24, h36, rfl⟩, h37, ⟨x25, h38, rfl⟩, ch39, (by rw [h40]; rfl), trivial⟩) (by intro hh; cases hh)
theorem f115_ok (F : Nat) (x1 x2 : Nat) (x3 x4 x5 : Int) (x6 : List Int) (r : (List Int)) (h : f115 F x1 x2 x3 x4 x5 x6 = some r) : f115_C x1 x2 x3 x4 x5 x6 r := by
  unfold f115 at h
  obtain ⟨rh43, h43, h⟩ := bind_some h
  have ch43 := f115_p1_ok F x1 x2 x4 x5 F x3 x6 _ h43
  cases rh43 with
  | c0 x27 =>
    try dsimp only at h
    obtain rfl := Option.some.inj h
    exact callOK cxOK cxW Try.func115 (by kernel_rfl) (f115_e0 x1 x2 x3 x4 x5 x6 x27) ⟨ch43, trivial⟩
  | c1 x28 =>
    try dsimp only at h
    obtain rfl := Option.some.inj h
    exact callOK cxOK cxW Try.func115 (by kernel_rfl) (f115_e1 x1 x2 x3 x4 x5 x6 x28) ⟨ch43, trivial⟩

theorem f97_p1_ok (F : Nat) (x1 x2 : Nat) (x3 x4 : Int) : ∀ (k : Nat) (x9 : Int) (x8 : List Int) (r : (List Int)), f97_p1 F x1 x2 x3 x4 k x9 x8 = some r → f97_p1_P x1 x2 x3 x4 x9 x8 r
  | 0, _, _, _, h => by cases h
  | k + 1, x9, x8, r, h => by
    unfold f97_p1 at h
    by_cases h3 : (decide (x9 ≥ 0)) = true
    · rw [if_pos h3] at h
      obtain ⟨x10, h4, h⟩ := bind_some h
      have ch4 := f115_ok F x1 x2 x9 (w64 (x4 - x3)) x3 x8 _ h4
      try dsimp only at h
      exact Lp.again (gRun_ok cxOK (f97_p1_e0 x1 x2 x3 x4 x8 x9 x10) ⟨h3, ch4, trivial⟩) (f97_p1_ok F x1 x2 x3 x4 k (w64 (x9 - 1)) x10 r h)
    · rw [if_neg h3] at h
      have h3 := Bool.eq_false_iff.2 h3
      obtain rfl := Option.some.inj h
      exact Lp.out (gRun_ok cxOK (f97_p1_e1 x1 x2 x3 x4 x8 x9) ⟨h3, trivial⟩) (by intro hh; cases hh)
theorem f97_p5_ok (F : Nat) (x1 x2 : Nat) (x3 : Int) : ∀ (k : Nat) (x17 : Int) (x16 : List Int) (r : (List Int)), f97_p5 F x1 x2 x3 k x17 x16 = some r → f97_p5_P x1 x2 x3 x17 x16 r
  | 0, _, _, _, h => by cases h
  | k + 1, x17, x16, r, h => by
    unfold f97_p5 at h
    by_cases h14 : (decide (x17 ≥ 0)) = true
    · rw [if_pos h14] at h
      obtain ⟨h15, h⟩ := req_some h
      obtain ⟨x18, h16, h⟩ := bind_some h
      try dsimp only at h
      obtain ⟨h17, h⟩ := req_some h
      obtain ⟨x19, h18, h⟩ := bind_some h
      try dsimp only at h
      obtain ⟨h19, h⟩ := req_some h
      obtain ⟨h20, h⟩ := req_some h
      obtain ⟨x20, h21, h⟩ := bind_some h
      have ch21 := f115_ok F x1 x2 0 x17 x3 (List.set (List.set x16 (x1 + (Int.toNat x3)) x18) (x1 + (Int.toNat (w64 (x3 + x17)))) x19) _ h21
      try dsimp only at h
      exact Lp.again (gRun_ok cxOK (f97_p5_e0 x1 x2 x3 x16 x17 x18 x19 x20) ⟨h14, h15, ⟨x18, h16, rfl⟩, h17, ⟨x19, h18, rfl⟩, h17, h19, h15, h20, ch21, trivial⟩) (f97_p5_ok F x1 x2 x3 k (w64 (x17 - 1)) x20 r h)
    · rw [if_neg h14] at h
      have h14 := Bool.eq_false_iff.2 h14
      obtain rfl := Option.some.inj h
      exact Lp.out (gRun_ok cxOK (f97_p5_e1 x1 x2 x3 x16 x17) ⟨h14, trivial⟩) (by intro hh; cases hh)
theorem f97_ok (F : Nat) (x1 x2 : Nat) (x3 x4 : Int) (x5 : List Int) (r : (List Int)) (h : f97 F x1 x2 x3 x4 x5 = some r) : f97_C x1 x2 x3 x4 x5 r := by
  unfold f97 at h
  obtain ⟨x11, h5, h⟩ := bind_some h
  have ch5 := f97_p1_ok F x1 x2 x3 x4 F (w64 (Int.tdiv (w64 ((w64 (x4 - x3)) - 1)) 2)) x5 _ h5
  try dsimp only at h
  obtain ⟨x21, h22, h⟩ := bind_some h
  have ch22 := f97_p5_ok F x1 x2 x3 F (w64 ((w64 (x4 - x3)) - 1)) x11 _ h22
  try dsimp only at h
  obtain rfl := Option.some.inj h
  exact callOK cxOK cxW Try.func97 (by kernel_rfl) (f97_e0 x1 x2 x3 x4 x5 x11 x21) ⟨(by decide), ch5, ch22, trivial⟩

theorem f116_ok (F : Nat) (x1 : Int) (r : Int) (h : f116 F x1 = some r) : f116_C x1 r := by
  unfold f116 at h
  obtain ⟨x2, h1, h⟩ := bind_some h
  have ch1 := f92_ok F (IntKind.wrap .u64 (x1)) _ h1
  try dsimp only at h
  obtain ⟨h2, h⟩ := req_some h
  obtain rfl := Option.some.inj h
  exact callOK cxOK cxW Try.func116 (by kernel_rfl) (f116_e0 x1 x2) ⟨ch1, h2, trivial⟩

theorem f117_ok (F : Nat) (x1 : Int) (r : Int × Int) (h : f117 F x1 = some r) : f117_C x1 r := by
  unfold f117 at h
  obtain rfl := Option.some.inj h
  exact callOK cxOK cxW Try.func117 (by kernel_rfl) (f117_e0 x1) ⟨(by decide), (by decide), (by decide), trivial⟩

theorem f98_p5_1_ok (F : Nat) (x1 x2 : Nat) (x3 x4 : Int) (x6 x14 x16 : Int) (x13 : List Int) (x17 : Int) (r : Int) (h : f98_p5_1 F x1 x2 x3 x4 x6 x14 x16 x13 x17 = some r) : f98_p5_1_P x1 x2 x3 x4 x6 x14 x16 x13 x17 r := by
  unfold f98_p5_1 at h
  by_cases h15 : (decide ((w64 ((iAnd .u64 x16 (IntKind.wrap .u64 (x6 - 1))))) ≥ (w64 (x4 - x3)))) = true
  · rw [if_pos h15] at h
    obtain rfl := Option.some.inj h
    exact gRun_ok cxOK (f98_p5_1_e0 x1 x2 x3 x4 x6 x13 x14 x16 x17) ⟨h15, trivial⟩
  · rw [if_neg h15] at h
    have h15 := Bool.eq_false_iff.2 h15
    obtain rfl := Option.some.inj h
    exact gRun_ok cxOK (f98_p5_1_e1 x1 x2 x3 x4 x6 x13 x14 x16 x17) ⟨h15, trivial⟩
theorem f98_p2_ok (F : Nat) (x1 x2 : Nat) (x3 x4 x6 : Int) : ∀ (k : Nat) (x14 : Int) (x13 : List Int) (x15 : Int) (r : (List Int)), f98_p2 F x1 x2 x3 x4 x6 k x14 x13 x15 = some r → f98_p2_P x1 x2 x3 x4 x6 x14 x13 x15 r
  | 0, _, _, _, _, h => by cases h
  | k + 1, x14, x13, x15, r, h => by
    unfold f98_p2 at h
    by_cases h13 : (decide (x14 ≤ (w64 ((w64 (x3 + (w64 ((w64 (Int.tdiv (w64 (x4 - x3)) 4)) * 2)))) + 1)))) = true
    · rw [if_pos h13] at h
      obtain ⟨rh14, h14, h⟩ := bind_some h
      have ch14 := f117_ok F x15 _ h14
      obtain ⟨x16, x17⟩ := rh14
      try dsimp only at h
      obtain ⟨x18, h16, h⟩ := bind_some h
      have ch16 := f98_p5_1_ok F x1 x2 x3 x4 x6 x14 x16 x13 x17 _ h16
      try dsimp only at h
      obtain ⟨h17, h⟩ := req_some h
      obtain ⟨x19, h18, h⟩ := bind_some h
      try dsimp only at h
      obtain ⟨h19, h⟩ := req_some h
      obtain ⟨x20, h20, h⟩ := bind_some h
      try dsimp only at h
      obtain ⟨h21, h⟩ := req_some h
      obtain ⟨h22, h⟩ := req_some h
      exact Lp.again (gRun_ok cxOK (f98_p2_e0 x1 x2 x3 x4 x6 x13 x14 x15 x16 x17 x18 x19 x20) ⟨(by decide), h13, ch14, ch16, h17, ⟨x19, h18, rfl⟩, h19, ⟨x20, h20, rfl⟩, h19, h21, h17, h22, trivial⟩) (f98_p2_ok F x1 x2 x3 x4 x6 k (w64 (x14 + 1)) (List.set (List.set x13 (x1 + (Int.toNat x14)) x19) (x1 + (Int.toNat (w64 (x3 + x18)))) x20) x17 r h)
    · rw [if_neg h13] at h
      have h13 := Bool.eq_false_iff.2 h13
      obtain rfl := Option.some.inj h
      exact Lp.out (gRun_ok cxOK (f98_p2_e1 x1 x2 x3 x4 x6 x13 x14 x15) ⟨(by decide), h13, trivial⟩) (by intro hh; cases hh)
theorem f98_p0_ok (F : Nat) (x1 x2 : Nat) (x3 x4 : Int) (x5 : List Int) (r : (List Int)) (h : f98_p0 F x1 x2 x3 x4 x5 = some r) : f98_p0_P x1 x2 x3 x4 x5 r := by
  unfold f98_p0 at h
  by_cases h1 : (decide ((w64 (x4 - x3)) ≥ 8)) = true
  · rw [if_pos h1] at h
    obtain ⟨x6, h2, h⟩ := bind_some h
    have ch2 := f116_ok F (w64 (x4 - x3)) _ h2
    try dsimp only at h
    obtain ⟨x21, h23, h⟩ := bind_some h
    have ch23 := f98_p2_ok F x1 x2 x3 x4 x6 F (w64 ((w64 (x3 + (w64 ((w64 (Int.tdiv (w64 (x4 - x3)) 4)) * 2)))) - 1)) x5 (IntKind.wrap .u64 ((w64 (x4 - x3)))) _ h23
    try dsimp only at h
    obtain rfl := Option.some.inj h
    exact gRun_ok cxOK (f98_p0_e0 x1 x2 x3 x4 x5 x6 x21) ⟨h1, ch2, (by decide), ch23, trivial⟩
  · rw [if_neg h1] at h
    have h1 := Bool.eq_false_iff.2 h1
    obtain rfl := Option.some.inj h
    exact gRun_ok cxOK (f98_p0_e1 x1 x2 x3 x4 x5) ⟨h1, trivial⟩
theorem f98_ok (F : Nat) (x1 x2 : Nat) (x3 x4 : Int) (x5 : List Int) (r : (List Int)) (h : f98 F x1 x2 x3 x4 x5 = some r) : f98_C x1 x2 x3 x4 x5 r := by
  unfold f98 at h
  obtain ⟨x22, h24, h⟩ := bind_some h
  have ch24 := f98_p0_ok F x1 x2 x3 x4 x5 _ h24
  try dsimp only at h
  obtain rfl := Option.some.inj h
  exact callOK cxOK cxW Try.func98 (by kernel_rfl) (f98_e0 x1 x2 x3 x4 x5 x22) ⟨ch24, trivial⟩

theorem f124_ok (F : Nat) (x1 x2 : Nat) (x3 x4 : Int) (x5 : List Int) (x6 : Int) (r : Int × Int × Int) (h : f124 F x1 x2 x3 x4 x5 x6 = some r) : f124_C x1 x2 x3 x4 x5 x6 r := by
  unfold f124 at h
  obtain ⟨h1, h⟩ := req_some h
  obtain ⟨x7, h2, h⟩ := bind_some h
  try dsimp only at h
  obtain ⟨h3, h⟩ := req_some h
  obtain ⟨x8, h4, h⟩ := bind_some h
  try dsimp only at h
  obtain ⟨x9, h5, h⟩ := bind_some h
  have ch5 := f102_ok F x7 x8 _ h5
  try dsimp only at h
  by_cases h6 : x9 = true
  · rw [if_pos h6] at h
    obtain rfl := Option.some.inj h
    exact callOK cxOK cxW Try.func124 (by kernel_rfl) (f124_e0 x1 x2 x3 x4 x5 x6 x7 x8 x9) ⟨h1, ⟨x7, h2, rfl⟩, h3, ⟨x8, h4, rfl⟩, ch5, h6, trivial⟩
  · rw [if_neg h6] at h
    have h6 := Bool.eq_false_iff.2 h6
    obtain rfl := Option.some.inj h
    exact callOK cxOK cxW Try.func124 (by kernel_rfl) (f124_e1 x1 x2 x3 x4 x5 x6 x7 x8 x9) ⟨h1, ⟨x7, h2, rfl⟩, h3, ⟨x8, h4, rfl⟩, ch5, h6, trivial⟩

theorem f119_ok (F : Nat) (x1 x2 : Nat) (x3 x4 x5 : Int) (x6 : List Int) (x7 : Int) (r : Int × Int) (h : f119 F x1 x2 x3 x4 x5 x6 x7 = some r) : f119_C x1 x2 x3 x4 x5 x6 x7 r := by
  unfold f119 at h
  obtain ⟨rh1, h1, h⟩ := bind_some h
  have ch1 := f124_ok F x1 x2 x3 x4 x6 x7 _ h1
  obtain ⟨x8, x9, x10⟩ := rh1
  try dsimp only at h
  obtain ⟨rh2, h2, h⟩ := bind_some h
  have ch2 := f124_ok F x1 x2 x9 x5 x6 x10 _ h2
  obtain ⟨x11, x12, x13⟩ := rh2
  try dsimp only at h
  obtain ⟨rh3, h3, h⟩ := bind_some h
  have ch3 := f124_ok F x1 x2 x8 x11 x6 x13 _ h3
  obtain ⟨x14, x15, x16⟩ := rh3
  try dsimp only at h
  obtain rfl := Option.some.inj h
  exact callOK cxOK cxW Try.func119 (by kernel_rfl) (f119_e0 x1 x2 x3 x4 x5 x6 x7 x8 x9 x10 x11 x12 x13 x14 x15 x16) ⟨ch1, ch2, ch3, trivial⟩

theorem f118_ok (F : Nat) (x1 x2 : Nat) (x3 : Int) (x4 : List Int) (x5 : Int) (r : Int × Int) (h : f118 F x1 x2 x3 x4 x5 = some r) : f118_C x1 x2 x3 x4 x5 r := by
  unfold f118 at h
  obtain ⟨rh1, h1, h⟩ := bind_some h
  have ch1 := f119_ok F x1 x2 (w64 (x3 - 1)) x3 (w64 (x3 + 1)) x4 x5 _ h1
  obtain ⟨x6, x7⟩ := rh1
  try dsimp only at h
  obtain rfl := Option.some.inj h
  exact callOK cxOK cxW Try.func118 (by kernel_rfl) (f118_e0 x1 x2 x3 x4 x5 x6 x7) ⟨ch1, trivial⟩

theorem f99_p1_ok (F : Nat) (x1 x2 : Nat) (x3 x4 : Int) (x5 : List Int) (r : Int × Int × Int × Int) (h : f99_p1 F x1 x2 x3 x4 x5 = some r) : f99_p1_P x1 x2 x3 x4 x5 r := by
  unfold f99_p1 at h
  by_cases h2 : (decide ((w64 (x4 - x3)) ≥ 50)) = true
  · rw [if_pos h2] at h
    obtain ⟨rh3, h3, h⟩ := bind_some h
    have ch3 := f118_ok F x1 x2 (w64 (x3 + (w64 ((w64 (Int.tdiv (w64 (x4 - x3)) 4)) * 1)))) x5 0 _ h3
    obtain ⟨x6, x7⟩ := rh3
    try dsimp only at h
    obtain ⟨rh4, h4, h⟩ := bind_some h
    have ch4 := f118_ok F x1 x2 (w64 (x3 + (w64 ((w64 (Int.tdiv (w64 (x4 - x3)) 4)) * 2)))) x5 x7 _ h4
    obtain ⟨x8, x9⟩ := rh4
    try dsimp only at h
    obtain ⟨rh5, h5, h⟩ := bind_some h
    have ch5 := f118_ok F x1 x2 (w64 (x3 + (w64 ((w64 (Int.tdiv (w64 (x4 - x3)) 4)) * 3)))) x5 x9 _ h5
    obtain ⟨x10, x11⟩ := rh5
    try dsimp only at h
    obtain rfl := Option.some.inj h
    exact gRun_ok cxOK (f99_p1_e0 x1 x2 x3 x4 x5 x6 x7 x8 x9 x10 x11) ⟨h2, ch3, ch4, ch5, trivial⟩
  · rw [if_neg h2] at h
    have h2 := Bool.eq_false_iff.2 h2
    obtain rfl := Option.some.inj h
    exact gRun_ok cxOK (f99_p1_e1 x1 x2 x3 x4 x5) ⟨h2, trivial⟩
theorem f99_p0_ok (F : Nat) (x1 x2 : Nat) (x4 x3 : Int) (x5 : List Int) (r : Int × Int) (h : f99_p0 F x1 x2 x4 x3 x5 = some r) : f99_p0_P x1 x2 x4 x3 x5 r := by
  unfold f99_p0 at h
  by_cases h1 : (decide ((w64 (x4 - x3)) ≥ 8)) = true
  · rw [if_pos h1] at h
    obtain ⟨rh6, h6, h⟩ := bind_some h
    have ch6 := f99_p1_ok F x1 x2 x3 x4 x5 _ h6
    obtain ⟨x12, x13, x14, x15⟩ := rh6
    try dsimp only at h
    obtain ⟨rh7, h7, h⟩ := bind_some h
    have ch7 := f119_ok F x1 x2 x12 x13 x14 x5 x15 _ h7
    obtain ⟨x16, x17⟩ := rh7
    try dsimp only at h
    obtain rfl := Option.some.inj h
    exact gRun_ok cxOK (f99_p0_e0 x1 x2 x3 x4 x5 x12 x13 x14 x15 x16 x17) ⟨h1, ch6, ch7, trivial⟩
  · rw [if_neg h1] at h
    have h1 := Bool.eq_false_iff.2 h1
    obtain rfl := Option.some.inj h
    exact gRun_ok cxOK (f99_p0_e1 x1 x2 x3 x4 x5) ⟨h1, trivial⟩
theorem f99_ok (F : Nat) (x1 x2 : Nat) (x3 x4 : Int) (x5 : List Int) (r : Int × Int) (h : f99 F x1 x2 x3 x4 x5 = some r) : f99_C x1 x2 x3 x4 x5 r := by
  unfold f99 at h
  obtain ⟨rh8, h8, h⟩ := bind_some h
  have ch8 := f99_p0_ok F x1 x2 x4 x3 x5 _ h8
  obtain ⟨x18, x19⟩ := rh8
  try dsimp only at h
  by_cases h9 : (x19 == 0) = true
  · rw [if_pos h9] at h
    obtain rfl := Option.some.inj h
    exact callOK cxOK cxW Try.func99 (by kernel_rfl) (f99_e0 x1 x2 x3 x4 x5 x18 x19) ⟨(by decide), (by decide), (by decide), ch8, h9, trivial⟩
  · rw [if_neg h9] at h
    have h9 := Bool.eq_false_iff.2 h9
    by_cases h10 : (x19 == 12) = true
    · rw [if_pos h10] at h
      obtain rfl := Option.some.inj h
      exact callOK cxOK cxW Try.func99 (by kernel_rfl) (f99_e1 x1 x2 x3 x4 x5 x18 x19) ⟨(by decide), (by decide), (by decide), ch8, h9, h10, trivial⟩
    · rw [if_neg h10] at h
      have h10 := Bool.eq_false_iff.2 h10
      obtain rfl := Option.some.inj h
      exact callOK cxOK cxW Try.func99 (by kernel_rfl) (f99_e2 x1 x2 x3 x4 x5 x18 x19) ⟨(by decide), (by decide), (by decide), ch8, h9, h10, trivial⟩

theorem f100_p1_ok (F : Nat) (x1 x2 : Nat) : ∀ (k : Nat) (x11 x12 : Int) (x10 : List Int) (r : (List Int)), f100_p1 F x1 x2 k x11 x12 x10 = some r → f100_p1_P x1 x2 x11 x12 x10 r
  | 0, _, _, _, _, h => by cases h
  | k + 1, x11, x12, x10, r, h => by
    unfold f100_p1 at h
    by_cases h8 : (decide (x11 < x12)) = true
    · rw [if_pos h8] at h
      obtain ⟨h9, h⟩ := req_some h
      obtain ⟨x13, h10, h⟩ := bind_some h
      try dsimp only at h
      obtain ⟨h11, h⟩ := req_some h
      obtain ⟨x14, h12, h⟩ := bind_some h
      try dsimp only at h
      obtain ⟨h13, h⟩ := req_some h
      obtain ⟨h14, h⟩ := req_some h
      exact Lp.again (gRun_ok cxOK (f100_p1_e0 x1 x2 x10 x11 x12 x13 x14) ⟨h8, h9, ⟨x13, h10, rfl⟩, h11, ⟨x14, h12, rfl⟩, h11, h13, h9, h14, trivial⟩) (f100_p1_ok F x1 x2 k (w64 (x11 + 1)) (w64 (x12 - 1)) (List.set (List.set x10 (x1 + (Int.toNat x11)) x13) (x1 + (Int.toNat x12)) x14) r h)
    · rw [if_neg h8] at h
      have h8 := Bool.eq_false_iff.2 h8
      obtain rfl := Option.some.inj h
      exact Lp.out (gRun_ok cxOK (f100_p1_e1 x1 x2 x10 x11 x12) ⟨h8, trivial⟩) (by intro hh; cases hh)
theorem f100_ok (F : Nat) (x1 x2 : Nat) (x3 x4 : Int) (x5 : List Int) (r : (List Int)) (h : f100 F x1 x2 x3 x4 x5 = some r) : f100_C x1 x2 x3 x4 x5 r := by
  unfold f100 at h
  obtain ⟨x15, h15, h⟩ := bind_some h
  have ch15 := f100_p1_ok F x1 x2 F x3 (w64 (x4 - 1)) x5 _ h15
  try dsimp only at h
  obtain rfl := Option.some.inj h
  exact callOK cxOK cxW Try.func100 (by kernel_rfl) (f100_e0 x1 x2 x3 x4 x5 x15) ⟨ch15, trivial⟩

theorem f101_p5_1_ok (F : Nat) (x1 x2 : Nat) (x3 x4 x39 : Int) (x37 : List Int) : ∀ (k : Nat) (x40 : Int) (r : Int), f101_p5_1 F x1 x2 x3 x4 x39 x37 k x40 = some r → f101_p5_1_P x1 x2 x3 x4 x39 x37 x40 r
  | 0, _, _, h => by cases h
  | k + 1, x40, r, h => by
    unfold f101_p5_1 at h
    by_cases h61 : (decide (x40 < x4)) = true
    · rw [if_pos h61] at h
      obtain ⟨h62, h⟩ := req_some h
      obtain ⟨x41, h63, h⟩ := bind_some h
      try dsimp only at h
      obtain ⟨h64, h⟩ := req_some h
      obtain ⟨x42, h65, h⟩ := bind_some h
      try dsimp only at h
      obtain ⟨x43, h66, h⟩ := bind_some h
      have ch66 := f102_ok F x41 x42 _ h66
      try dsimp only at h
      by_cases h67 : x43 = true
      · rw [if_pos h67] at h
        obtain rfl := Option.some.inj h
        exact Lp.out (gRun_ok cxOK (f101_p5_1_e0 x1 x2 x3 x4 x37 x39 x40 x41 x42 x43) ⟨h61, h61, h61, h62, h61, ⟨x41, h63, rfl⟩, h61, h61, h61, h61, h64, h61, ⟨x42, h65, rfl⟩, h61, ch66, h61, h61, (by rw [h67]; rfl), trivial⟩) (by intro hh; cases hh)
      · rw [if_neg h67] at h
        have h67 := Bool.eq_false_iff.2 h67
        exact Lp.again (gRun_ok cxOK (f101_p5_1_e1 x1 x2 x3 x4 x37 x39 x40 x41 x42 x43) ⟨h61, h61, h61, h62, h61, ⟨x41, h63, rfl⟩, h61, h61, h61, h61, h64, h61, ⟨x42, h65, rfl⟩, h61, ch66, h61, h61, (by rw [h67]; rfl), trivial⟩) (f101_p5_1_ok F x1 x2 x3 x4 x39 x37 k (w64 (x40 + 1)) r h)
    · rw [if_neg h61] at h
      have h61 := Bool.eq_false_iff.2 h61
      obtain rfl := Option.some.inj h
      exact Lp.out (gRun_ok cxOK (f101_p5_1_e2 x1 x2 x3 x4 x37 x39 x40) ⟨h61, h61, h61, h61, h61, h61, h61, h61, h61, h61, h61, h61, rfl, trivial⟩) (by intro hh; cases hh)
theorem f101_p12_1_ok (F : Nat) (x1 x2 : Nat) (x3 x4 : Int) (x44 x39 : Int) : ∀ (k : Nat) (x52 : Int) (x51 : List Int) (r : (List Int)), f101_p12_1 F x1 x2 x3 x4 x44 x39 k x52 x51 = some r → f101_p12_1_P x1 x2 x3 x4 x44 x39 x52 x51 r
  | 0, _, _, _, h => by cases h
  | k + 1, x52, x51, r, h => by
    unfold f101_p12_1 at h
    by_cases h87 : (decide (x52 ≥ 1)) = true
    · rw [if_pos h87] at h
      obtain ⟨h88, h⟩ := req_some h
      obtain ⟨x53, h89, h⟩ := bind_some h
      try dsimp only at h
      obtain ⟨h90, h⟩ := req_some h
      obtain ⟨x54, h91, h⟩ := bind_some h
      try dsimp only at h
      obtain ⟨x55, h92, h⟩ := bind_some h
      have ch92 := f102_ok F x53 x54 _ h92
      try dsimp only at h
      by_cases h93 : x55 = true
      · rw [if_pos h93] at h
        obtain ⟨h94, h⟩ := req_some h
        obtain ⟨h95, h⟩ := req_some h
        exact Lp.again (gRun_ok cxOK (f101_p12_1_e0 x1 x2 x3 x4 x39 x44 x51 x52 x53 x54 x55) ⟨h87, h88, ⟨x53, h89, rfl⟩, h90, ⟨x54, h91, rfl⟩, ch92, (by rw [h93]; rfl), h90, ⟨x54, h91, rfl⟩, h88, ⟨x53, h89, rfl⟩, h88, h94, h90, h95, trivial⟩) (f101_p12_1_ok F x1 x2 x3 x4 x44 x39 k (w64 (x52 - 1)) (List.set (List.set x51 (x1 + (Int.toNat x52)) x54) (x1 + (Int.toNat (w64 (x52 - 1)))) x53) r h)
      · rw [if_neg h93] at h
        have h93 := Bool.eq_false_iff.2 h93
        obtain rfl := Option.some.inj h
        exact Lp.out (gRun_ok cxOK (f101_p12_1_e1 x1 x2 x3 x4 x39 x44 x51 x52 x53 x54 x55) ⟨h87, h88, ⟨x53, h89, rfl⟩, h90, ⟨x54, h91, rfl⟩, ch92, (by rw [h93]; rfl), trivial⟩) (by intro hh; cases hh)
    · rw [if_neg h87] at h
      have h87 := Bool.eq_false_iff.2 h87
      obtain rfl := Option.some.inj h
      exact Lp.out (gRun_ok cxOK (f101_p12_1_e2 x1 x2 x3 x4 x39 x44 x51 x52) ⟨h87, trivial⟩) (by intro hh; cases hh)
theorem f101_p10_1_ok (F : Nat) (x1 x2 : Nat) (x3 x4 : Int) (x44 x39 : Int) (x37 : List Int) (x45 x46 : Int) (r : (List Int)) (h : f101_p10_1 F x1 x2 x3 x4 x44 x39 x37 x45 x46 = some r) : f101_p10_1_P x1 x2 x3 x4 x44 x39 x37 x45 x46 r := by
  unfold f101_p10_1 at h
  by_cases h77 : (decide ((w64 (x44 - x3)) ≥ 2)) = true
  · rw [if_pos h77] at h
    obtain ⟨x56, h96, h⟩ := bind_some h
    have ch96 := f101_p12_1_ok F x1 x2 x3 x4 x44 x39 F (w64 (x44 - 1)) (List.set (List.set x37 (x1 + (Int.toNat x44)) x45) (x1 + (Int.toNat (w64 (x44 - 1)))) x46) _ h96
    try dsimp only at h
    obtain rfl := Option.some.inj h
    exact gRun_ok cxOK (f101_p10_1_e0 x1 x2 x3 x4 x37 x39 x44 x45 x46 x56) ⟨h77, ch96, trivial⟩
  · rw [if_neg h77] at h
    have h77 := Bool.eq_false_iff.2 h77
    obtain rfl := Option.some.inj h
    exact gRun_ok cxOK (f101_p10_1_e1 x1 x2 x3 x4 x37 x39 x44 x45 x46) ⟨h77, trivial⟩
theorem f101_p18_1_ok (F : Nat) (x1 x2 : Nat) (x3 x4 : Int) (x44 x39 : Int) : ∀ (k : Nat) (x63 : Int) (x62 : List Int) (r : (List Int)), f101_p18_1 F x1 x2 x3 x4 x44 x39 k x63 x62 = some r → f101_p18_1_P x1 x2 x3 x4 x44 x39 x63 x62 r
  | 0, _, _, _, h => by cases h
  | k + 1, x63, x62, r, h => by
    unfold f101_p18_1 at h
    by_cases h108 : (decide (x63 < x4)) = true
    · rw [if_pos h108] at h
      obtain ⟨h109, h⟩ := req_some h
      obtain ⟨x64, h110, h⟩ := bind_some h
      try dsimp only at h
      obtain ⟨h111, h⟩ := req_some h
      obtain ⟨x65, h112, h⟩ := bind_some h
      try dsimp only at h
      obtain ⟨x66, h113, h⟩ := bind_some h
      have ch113 := f102_ok F x64 x65 _ h113
      try dsimp only at h
      by_cases h114 : x66 = true
      · rw [if_pos h114] at h
        obtain ⟨h115, h⟩ := req_some h
        obtain ⟨h116, h⟩ := req_some h
        exact Lp.again (gRun_ok cxOK (f101_p18_1_e0 x1 x2 x3 x4 x39 x44 x62 x63 x64 x65 x66) ⟨h108, h109, ⟨x64, h110, rfl⟩, h111, ⟨x65, h112, rfl⟩, ch113, (by rw [h114]; rfl), h111, ⟨x65, h112, rfl⟩, h109, ⟨x64, h110, rfl⟩, h109, h115, h111, h116, trivial⟩) (f101_p18_1_ok F x1 x2 x3 x4 x44 x39 k (w64 (x63 + 1)) (List.set (List.set x62 (x1 + (Int.toNat x63)) x65) (x1 + (Int.toNat (w64 (x63 - 1)))) x64) r h)
      · rw [if_neg h114] at h
        have h114 := Bool.eq_false_iff.2 h114
        obtain rfl := Option.some.inj h
        exact Lp.out (gRun_ok cxOK (f101_p18_1_e1 x1 x2 x3 x4 x39 x44 x62 x63 x64 x65 x66) ⟨h108, h109, ⟨x64, h110, rfl⟩, h111, ⟨x65, h112, rfl⟩, ch113, (by rw [h114]; rfl), trivial⟩) (by intro hh; cases hh)
    · rw [if_neg h108] at h
      have h108 := Bool.eq_false_iff.2 h108
      obtain rfl := Option.some.inj h
      exact Lp.out (gRun_ok cxOK (f101_p18_1_e2 x1 x2 x3 x4 x39 x44 x62 x63) ⟨h108, trivial⟩) (by intro hh; cases hh)
theorem f101_p16_1_ok (F : Nat) (x1 x2 : Nat) (x3 x4 : Int) (x44 x39 : Int) (x57 : List Int) (r : (List Int)) (h : f101_p16_1 F x1 x2 x3 x4 x44 x39 x57 = some r) : f101_p16_1_P x1 x2 x3 x4 x44 x39 x57 r := by
  unfold f101_p16_1 at h
  by_cases h98 : (decide ((w64 (x4 - x44)) ≥ 2)) = true
  · rw [if_pos h98] at h
    obtain ⟨x67, h117, h⟩ := bind_some h
    have ch117 := f101_p18_1_ok F x1 x2 x3 x4 x44 x39 F (w64 (x44 + 1)) x57 _ h117
    try dsimp only at h
    obtain rfl := Option.some.inj h
    exact gRun_ok cxOK (f101_p16_1_e0 x1 x2 x3 x4 x39 x44 x57 x67) ⟨h98, ch117, trivial⟩
  · rw [if_neg h98] at h
    have h98 := Bool.eq_false_iff.2 h98
    obtain rfl := Option.some.inj h
    exact gRun_ok cxOK (f101_p16_1_e1 x1 x2 x3 x4 x39 x44 x57) ⟨h98, trivial⟩
theorem f101_p1_8_ok (F : Nat) (x1 x2 : Nat) (x3 x4 : Int) : ∀ (k : Nat) (x38 x39 : Int) (x37 : List Int) (r : f101_p1_8_R), f101_p1_8 F x1 x2 x3 x4 k x38 x39 x37 = some r → f101_p1_8_P x1 x2 x3 x4 x38 x39 x37 r
  | 0, _, _, _, _, h => by cases h
  | k + 1, x38, x39, x37, r, h => by
    unfold f101_p1_8 at h
    by_cases h60 : (decide (x39 < 5)) = true
    · rw [if_pos h60] at h
      obtain ⟨x44, h68, h⟩ := bind_some h
      have ch68 := f101_p5_1_ok F x1 x2 x3 x4 x39 x37 F x38 _ h68
      try dsimp only at h
      by_cases h69 : (x44 == x4) = true
      · rw [if_pos h69] at h
        obtain rfl := Option.some.inj h
        exact Lp.out (gRun_ok cxOK (f101_p1_8_e0 x1 x2 x3 x4 x37 x38 x39 x44) ⟨h60, ch68, h69, trivial⟩) (by intro hh; cases hh)
      · rw [if_neg h69] at h
        have h69 := Bool.eq_false_iff.2 h69
        by_cases h70 : (decide ((w64 (x4 - x3)) < 50)) = true
        · rw [if_pos h70] at h
          obtain rfl := Option.some.inj h
          exact Lp.out (gRun_ok cxOK (f101_p1_8_e1 x1 x2 x3 x4 x37 x38 x39 x44) ⟨h60, ch68, h69, h70, trivial⟩) (by intro hh; cases hh)
        · rw [if_neg h70] at h
          have h70 := Bool.eq_false_iff.2 h70
          obtain ⟨h71, h⟩ := req_some h
          obtain ⟨x45, h72, h⟩ := bind_some h
          try dsimp only at h
          obtain ⟨h73, h⟩ := req_some h
          obtain ⟨x46, h74, h⟩ := bind_some h
          try dsimp only at h
          obtain ⟨h75, h⟩ := req_some h
          obtain ⟨h76, h⟩ := req_some h
          obtain ⟨x57, h97, h⟩ := bind_some h
          have ch97 := f101_p10_1_ok F x1 x2 x3 x4 x44 x39 x37 x45 x46 _ h97
          try dsimp only at h
          obtain ⟨x68, h118, h⟩ := bind_some h
          have ch118 := f101_p16_1_ok F x1 x2 x3 x4 x44 x39 x57 _ h118
          try dsimp only at h
          exact Lp.again (gRun_ok cxOK (f101_p1_8_e2 x1 x2 x3 x4 x37 x38 x39 x44 x45 x46 x57 x68) ⟨h60, ch68, h69, h70, h71, ⟨x45, h72, rfl⟩, h73, ⟨x46, h74, rfl⟩, h73, h75, h71, h76, ch97, ch118, trivial⟩) (f101_p1_8_ok F x1 x2 x3 x4 k x44 (w64 (x39 + 1)) x68 r h)
    · rw [if_neg h60] at h
      have h60 := Bool.eq_false_iff.2 h60
      obtain rfl := Option.some.inj h
      exact Lp.out (gRun_ok cxOK (f101_p1_8_e3 x1 x2 x3 x4 x37 x38 x39) ⟨h60, trivial⟩) (by intro hh; cases hh)
theorem f101_ok (F : Nat) (x1 x2 : Nat) (x3 x4 : Int) (x5 : List Int) (r : Bool × (List Int)) (h : f101 F x1 x2 x3 x4 x5 = some r) : f101_C x1 x2 x3 x4 x5 r := by
  unfold f101 at h
  obtain ⟨rh119, h119, h⟩ := bind_some h
  have ch119 := f101_p1_8_ok F x1 x2 x3 x4 F (w64 (x3 + 1)) 0 x5 _ h119
  cases rh119 with
  | c0 x69 x70 =>
    try dsimp only at h
    obtain rfl := Option.some.inj h
    exact callOK cxOK cxW Try.func101 (by kernel_rfl) (f101_e0 x1 x2 x3 x4 x5 x69 x70) ⟨ch119, trivial⟩
  | c1 x71 =>
    try dsimp only at h
    obtain rfl := Option.some.inj h
    exact callOK cxOK cxW Try.func101 (by kernel_rfl) (f101_e1 x1 x2 x3 x4 x5 x71) ⟨ch119, trivial⟩

theorem f104_p1_ok (F : Nat) (x1 x2 : Nat) (x3 x4 : Int) (x6 : List Int) (x7 x5 x8 : Int) : ∀ (k : Nat) (x9 : Int) (r : Int), f104_p1 F x1 x2 x3 x4 x6 x7 x5 x8 k x9 = some r → f104_p1_P x1 x2 x3 x4 x6 x7 x5 x8 x9 r
  | 0, _, _, h => by cases h
  | k + 1, x9, r, h => by
    unfold f104_p1 at h
    by_cases h7 : (decide (x9 ≤ (w64 (x4 - 1)))) = true
    · rw [if_pos h7] at h
      obtain ⟨h8, h⟩ := req_some h
      obtain ⟨x10, h9, h⟩ := bind_some h
      try dsimp only at h
      obtain ⟨h10, h⟩ := req_some h
      obtain ⟨x11, h11, h⟩ := bind_some h
      try dsimp only at h
      obtain ⟨x12, h12, h⟩ := bind_some h
      have ch12 := f102_ok F x10 x11 _ h12
      try dsimp only at h
      by_cases h13 : x12 = true
      · rw [if_pos h13] at h
        exact Lp.again (gRun_ok cxOK (f104_p1_e0 x1 x2 x3 x4 x5 x6 x7 x8 x9 x10 x11 x12) ⟨h7, h7, h7, h8, h7, ⟨x10, h9, rfl⟩, h7, h7, h7, h10, h7, ⟨x11, h11, rfl⟩, h7, ch12, h7, h13, trivial⟩) (f104_p1_ok F x1 x2 x3 x4 x6 x7 x5 x8 k (w64 (x9 + 1)) r h)
      · rw [if_neg h13] at h
        have h13 := Bool.eq_false_iff.2 h13
        obtain rfl := Option.some.inj h
        exact Lp.out (gRun_ok cxOK (f104_p1_e1 x1 x2 x3 x4 x5 x6 x7 x8 x9 x10 x11 x12) ⟨h7, h7, h7, h8, h7, ⟨x10, h9, rfl⟩, h7, h7, h7, h10, h7, ⟨x11, h11, rfl⟩, h7, ch12, h7, h13, trivial⟩) (by intro hh; cases hh)
    · rw [if_neg h7] at h
      have h7 := Bool.eq_false_iff.2 h7
      obtain rfl := Option.some.inj h
      exact Lp.out (gRun_ok cxOK (f104_p1_e2 x1 x2 x3 x4 x5 x6 x7 x8 x9) ⟨h7, h7, h7, h7, h7, h7, h7, h7, h7, h7, rfl, trivial⟩) (by intro hh; cases hh)
theorem f104_p5_ok (F : Nat) (x1 x2 : Nat) (x3 x13 : Int) (x6 : List Int) (x7 x5 x8 : Int) : ∀ (k : Nat) (x14 : Int) (r : Int), f104_p5 F x1 x2 x3 x13 x6 x7 x5 x8 k x14 = some r → f104_p5_P x1 x2 x3 x13 x6 x7 x5 x8 x14 r
  | 0, _, _, h => by cases h
  | k + 1, x14, r, h => by
    unfold f104_p5 at h
    by_cases h15 : (decide (x13 ≤ x14)) = true
    · rw [if_pos h15] at h
      obtain ⟨h16, h⟩ := req_some h
      obtain ⟨x15, h17, h⟩ := bind_some h
      try dsimp only at h
      obtain ⟨h18, h⟩ := req_some h
      obtain ⟨x16, h19, h⟩ := bind_some h
      try dsimp only at h
      obtain ⟨x17, h20, h⟩ := bind_some h
      have ch20 := f102_ok F x15 x16 _ h20
      try dsimp only at h
      by_cases h21 : x17 = true
      · rw [if_pos h21] at h
        obtain rfl := Option.some.inj h
        exact Lp.out (gRun_ok cxOK (f104_p5_e0 x1 x2 x3 x5 x6 x7 x8 x13 x14 x15 x16 x17) ⟨h15, h15, h15, h16, h15, ⟨x15, h17, rfl⟩, h15, h15, h15, h18, h15, ⟨x16, h19, rfl⟩, h15, ch20, h15, h15, (by rw [h21]; rfl), trivial⟩) (by intro hh; cases hh)
      · rw [if_neg h21] at h
        have h21 := Bool.eq_false_iff.2 h21
        exact Lp.again (gRun_ok cxOK (f104_p5_e1 x1 x2 x3 x5 x6 x7 x8 x13 x14 x15 x16 x17) ⟨h15, h15, h15, h16, h15, ⟨x15, h17, rfl⟩, h15, h15, h15, h18, h15, ⟨x16, h19, rfl⟩, h15, ch20, h15, h15, (by rw [h21]; rfl), trivial⟩) (f104_p5_ok F x1 x2 x3 x13 x6 x7 x5 x8 k (w64 (x14 - 1)) r h)
    · rw [if_neg h15] at h
      have h15 := Bool.eq_false_iff.2 h15
      obtain rfl := Option.some.inj h
      exact Lp.out (gRun_ok cxOK (f104_p5_e2 x1 x2 x3 x5 x6 x7 x8 x13 x14) ⟨h15, h15, h15, h15, h15, h15, h15, h15, h15, h15, h15, rfl, trivial⟩) (by intro hh; cases hh)
theorem f104_p13_1_ok (F : Nat) (x1 x2 : Nat) (x3 x39 : Int) (x37 : List Int) : ∀ (k : Nat) (x40 : Int) (r : Int), f104_p13_1 F x1 x2 x3 x39 x37 k x40 = some r → f104_p13_1_P x1 x2 x3 x39 x37 x40 r
  | 0, _, _, h => by cases h
  | k + 1, x40, r, h => by
    unfold f104_p13_1 at h
    by_cases h58 : (decide (x40 ≤ x39)) = true
    · rw [if_pos h58] at h
      obtain ⟨h59, h⟩ := req_some h
      obtain ⟨x41, h60, h⟩ := bind_some h
      try dsimp only at h
      obtain ⟨h61, h⟩ := req_some h
      obtain ⟨x42, h62, h⟩ := bind_some h
      try dsimp only at h
      obtain ⟨x43, h63, h⟩ := bind_some h
      have ch63 := f102_ok F x41 x42 _ h63
      try dsimp only at h
      by_cases h64 : x43 = true
      · rw [if_pos h64] at h
        exact Lp.again (gRun_ok cxOK (f104_p13_1_e0 x1 x2 x3 x37 x39 x40 x41 x42 x43) ⟨h58, h58, h58, h59, h58, ⟨x41, h60, rfl⟩, h58, h58, h58, h61, h58, ⟨x42, h62, rfl⟩, h58, ch63, h58, h64, trivial⟩) (f104_p13_1_ok F x1 x2 x3 x39 x37 k (w64 (x40 + 1)) r h)
      · rw [if_neg h64] at h
        have h64 := Bool.eq_false_iff.2 h64
        obtain rfl := Option.some.inj h
        exact Lp.out (gRun_ok cxOK (f104_p13_1_e1 x1 x2 x3 x37 x39 x40 x41 x42 x43) ⟨h58, h58, h58, h59, h58, ⟨x41, h60, rfl⟩, h58, h58, h58, h61, h58, ⟨x42, h62, rfl⟩, h58, ch63, h58, h64, trivial⟩) (by intro hh; cases hh)
    · rw [if_neg h58] at h
      have h58 := Bool.eq_false_iff.2 h58
      obtain rfl := Option.some.inj h
      exact Lp.out (gRun_ok cxOK (f104_p13_1_e2 x1 x2 x3 x37 x39 x40) ⟨h58, h58, h58, h58, h58, h58, h58, h58, h58, h58, rfl, trivial⟩) (by intro hh; cases hh)
theorem f104_p17_1_ok (F : Nat) (x1 x2 : Nat) (x3 x44 : Int) (x37 : List Int) : ∀ (k : Nat) (x45 : Int) (r : Int), f104_p17_1 F x1 x2 x3 x44 x37 k x45 = some r → f104_p17_1_P x1 x2 x3 x44 x37 x45 r
  | 0, _, _, h => by cases h
  | k + 1, x45, r, h => by
    unfold f104_p17_1 at h
    by_cases h66 : (decide (x44 ≤ x45)) = true
    · rw [if_pos h66] at h
      obtain ⟨h67, h⟩ := req_some h
      obtain ⟨x46, h68, h⟩ := bind_some h
      try dsimp only at h
      obtain ⟨h69, h⟩ := req_some h
      obtain ⟨x47, h70, h⟩ := bind_some h
      try dsimp only at h
      obtain ⟨x48, h71, h⟩ := bind_some h
      have ch71 := f102_ok F x46 x47 _ h71
      try dsimp only at h
      by_cases h72 : x48 = true
      · rw [if_pos h72] at h
        obtain rfl := Option.some.inj h
        exact Lp.out (gRun_ok cxOK (f104_p17_1_e0 x1 x2 x3 x37 x44 x45 x46 x47 x48) ⟨h66, h66, h66, h67, h66, ⟨x46, h68, rfl⟩, h66, h66, h66, h69, h66, ⟨x47, h70, rfl⟩, h66, ch71, h66, h66, (by rw [h72]; rfl), trivial⟩) (by intro hh; cases hh)
      · rw [if_neg h72] at h
        have h72 := Bool.eq_false_iff.2 h72
        exact Lp.again (gRun_ok cxOK (f104_p17_1_e1 x1 x2 x3 x37 x44 x45 x46 x47 x48) ⟨h66, h66, h66, h67, h66, ⟨x46, h68, rfl⟩, h66, h66, h66, h69, h66, ⟨x47, h70, rfl⟩, h66, ch71, h66, h66, (by rw [h72]; rfl), trivial⟩) (f104_p17_1_ok F x1 x2 x3 x44 x37 k (w64 (x45 - 1)) r h)
    · rw [if_neg h66] at h
      have h66 := Bool.eq_false_iff.2 h66
      obtain rfl := Option.some.inj h
      exact Lp.out (gRun_ok cxOK (f104_p17_1_e2 x1 x2 x3 x37 x44 x45) ⟨h66, h66, h66, h66, h66, h66, h66, h66, h66, h66, h66, rfl, trivial⟩) (by intro hh; cases hh)
theorem f104_p10_ok (F : Nat) (x1 x2 : Nat) (x3 : Int) : ∀ (k : Nat) (x38 x39 : Int) (x37 : List Int) (r : Int × (List Int)), f104_p10 F x1 x2 x3 k x38 x39 x37 = some r → f104_p10_P x1 x2 x3 x38 x39 x37 r
  | 0, _, _, _, _, h => by cases h
  | k + 1, x38, x39, x37, r, h => by
    unfold f104_p10 at h
    obtain ⟨x44, h65, h⟩ := bind_some h
    have ch65 := f104_p13_1_ok F x1 x2 x3 x39 x37 F x38 _ h65
    try dsimp only at h
    obtain ⟨x49, h73, h⟩ := bind_some h
    have ch73 := f104_p17_1_ok F x1 x2 x3 x44 x37 F x39 _ h73
    try dsimp only at h
    by_cases h74 : (decide (x44 > x49)) = true
    · rw [if_pos h74] at h
      obtain rfl := Option.some.inj h
      exact Lp.out (gRun_ok cxOK (f104_p10_e0 x1 x2 x3 x37 x38 x39 x44 x49) ⟨ch65, ch73, h74, trivial⟩) (by intro hh; cases hh)
    · rw [if_neg h74] at h
      have h74 := Bool.eq_false_iff.2 h74
      obtain ⟨h75, h⟩ := req_some h
      obtain ⟨x50, h76, h⟩ := bind_some h
      try dsimp only at h
      obtain ⟨h77, h⟩ := req_some h
      obtain ⟨x51, h78, h⟩ := bind_some h
      try dsimp only at h
      obtain ⟨h79, h⟩ := req_some h
      obtain ⟨h80, h⟩ := req_some h
      exact Lp.again (gRun_ok cxOK (f104_p10_e1 x1 x2 x3 x37 x38 x39 x44 x49 x50 x51) ⟨ch65, ch73, h74, h75, ⟨x50, h76, rfl⟩, h77, ⟨x51, h78, rfl⟩, h77, h79, h75, h80, trivial⟩) (f104_p10_ok F x1 x2 x3 k (w64 (x44 + 1)) (w64 (x49 - 1)) (List.set (List.set x37 (x1 + (Int.toNat x44)) x50) (x1 + (Int.toNat x49)) x51) r h)
theorem f104_ok (F : Nat) (x1 x2 : Nat) (x3 x4 x5 : Int) (x6 : List Int) (r : Int × Bool × (List Int)) (h : f104 F x1 x2 x3 x4 x5 x6 = some r) : f104_C x1 x2 x3 x4 x5 x6 r := by
  unfold f104 at h
  obtain ⟨h1, h⟩ := req_some h
  obtain ⟨x7, h2, h⟩ := bind_some h
  try dsimp only at h
  obtain ⟨h3, h⟩ := req_some h
  obtain ⟨x8, h4, h⟩ := bind_some h
  try dsimp only at h
  obtain ⟨h5, h⟩ := req_some h
  obtain ⟨h6, h⟩ := req_some h
  obtain ⟨x13, h14, h⟩ := bind_some h
  have ch14 := f104_p1_ok F x1 x2 x3 x4 x6 x7 x5 x8 F (w64 (x3 + 1)) _ h14
  try dsimp only at h
  obtain ⟨x18, h22, h⟩ := bind_some h
  have ch22 := f104_p5_ok F x1 x2 x3 x13 x6 x7 x5 x8 F (w64 (x4 - 1)) _ h22
  try dsimp only at h
  by_cases h23 : (decide (x13 > x18)) = true
  · rw [if_pos h23] at h
    obtain ⟨x19, h24, h⟩ := bind_some h
    try dsimp only at h
    obtain ⟨h25, h⟩ := req_some h
    obtain ⟨x20, h26, h⟩ := bind_some h
    try dsimp only at h
    obtain ⟨h27, h⟩ := req_some h
    obtain ⟨h28, h⟩ := req_some h
    obtain rfl := Option.some.inj h
    exact callOK cxOK cxW Try.func104 (by kernel_rfl) (f104_e0 x1 x2 x3 x4 x5 x6 x7 x8 x13 x18 x19 x20) ⟨h1, ⟨x7, h2, rfl⟩, h3, ⟨x8, h4, rfl⟩, h3, h5, h1, h6, ch14, ch22, h23, h3, ⟨x19, h24, rfl⟩, h25, ⟨x20, h26, rfl⟩, h25, h27, h3, h28, trivial⟩
  · rw [if_neg h23] at h
    have h23 := Bool.eq_false_iff.2 h23
    obtain ⟨h29, h⟩ := req_some h
    obtain ⟨x21, h30, h⟩ := bind_some h
    try dsimp only at h
    obtain ⟨h31, h⟩ := req_some h
    obtain ⟨x22, h32, h⟩ := bind_some h
    try dsimp only at h
    obtain ⟨h33, h⟩ := req_some h
    obtain ⟨h34, h⟩ := req_some h
    obtain ⟨rh81, h81, h⟩ := bind_some h
    have ch81 := f104_p10_ok F x1 x2 x3 F (w64 (x13 + 1)) (w64 (x18 - 1)) (List.set (List.set (List.set (List.set x6 (x1 + (Int.toNat x3)) x7) (x1 + (Int.toNat x5)) x8) (x1 + (Int.toNat x13)) x21) (x1 + (Int.toNat x18)) x22) _ h81
    obtain ⟨x52, x53⟩ := rh81
    try dsimp only at h
    obtain ⟨x54, h82, h⟩ := bind_some h
    try dsimp only at h
    obtain ⟨h83, h⟩ := req_some h
    obtain ⟨x55, h84, h⟩ := bind_some h
    try dsimp only at h
    obtain ⟨h85, h⟩ := req_some h
    obtain ⟨h86, h⟩ := req_some h
    obtain rfl := Option.some.inj h
    exact callOK cxOK cxW Try.func104 (by kernel_rfl) (f104_e1 x1 x2 x3 x4 x5 x6 x7 x8 x13 x18 x21 x22 x52 x53 x54 x55) ⟨h1, ⟨x7, h2, rfl⟩, h3, ⟨x8, h4, rfl⟩, h3, h5, h1, h6, ch14, ch22, h23, h29, ⟨x21, h30, rfl⟩, h31, ⟨x22, h32, rfl⟩, h31, h33, h29, h34, ch81, h3, ⟨x54, h82, rfl⟩, h83, ⟨x55, h84, rfl⟩, h83, h85, h3, h86, trivial⟩

theorem f103_p4_1_ok (F : Nat) (x1 x2 : Nat) (x3 x25 : Int) (x23 : List Int) : ∀ (k : Nat) (x26 : Int) (r : Int), f103_p4_1 F x1 x2 x3 x25 x23 k x26 = some r → f103_p4_1_P x1 x2 x3 x25 x23 x26 r
  | 0, _, _, h => by cases h
  | k + 1, x26, r, h => by
    unfold f103_p4_1 at h
    by_cases h30 : (decide (x26 ≤ x25)) = true
    · rw [if_pos h30] at h
      obtain ⟨h31, h⟩ := req_some h
      obtain ⟨x27, h32, h⟩ := bind_some h
      try dsimp only at h
      obtain ⟨h33, h⟩ := req_some h
      obtain ⟨x28, h34, h⟩ := bind_some h
      try dsimp only at h
      obtain ⟨x29, h35, h⟩ := bind_some h
      have ch35 := f102_ok F x27 x28 _ h35
      try dsimp only at h
      by_cases h36 : x29 = true
      · rw [if_pos h36] at h
        obtain rfl := Option.some.inj h
        exact Lp.out (gRun_ok cxOK (f103_p4_1_e0 x1 x2 x3 x23 x25 x26 x27 x28 x29) ⟨h30, h30, h30, h31, h30, ⟨x27, h32, rfl⟩, h30, h30, h30, h33, h30, ⟨x28, h34, rfl⟩, h30, ch35, h30, h30, (by rw [h36]; rfl), trivial⟩) (by intro hh; cases hh)
      · rw [if_neg h36] at h
        have h36 := Bool.eq_false_iff.2 h36
        exact Lp.again (gRun_ok cxOK (f103_p4_1_e1 x1 x2 x3 x23 x25 x26 x27 x28 x29) ⟨h30, h30, h30, h31, h30, ⟨x27, h32, rfl⟩, h30, h30, h30, h33, h30, ⟨x28, h34, rfl⟩, h30, ch35, h30, h30, (by rw [h36]; rfl), trivial⟩) (f103_p4_1_ok F x1 x2 x3 x25 x23 k (w64 (x26 + 1)) r h)
    · rw [if_neg h30] at h
      have h30 := Bool.eq_false_iff.2 h30
      obtain rfl := Option.some.inj h
      exact Lp.out (gRun_ok cxOK (f103_p4_1_e2 x1 x2 x3 x23 x25 x26) ⟨h30, h30, h30, h30, h30, h30, h30, h30, h30, h30, h30, rfl, trivial⟩) (by intro hh; cases hh)
theorem f103_p8_1_ok (F : Nat) (x1 x2 : Nat) (x3 x30 : Int) (x23 : List Int) : ∀ (k : Nat) (x31 : Int) (r : Int), f103_p8_1 F x1 x2 x3 x30 x23 k x31 = some r → f103_p8_1_P x1 x2 x3 x30 x23 x31 r
  | 0, _, _, h => by cases h
  | k + 1, x31, r, h => by
    unfold f103_p8_1 at h
    by_cases h38 : (decide (x30 ≤ x31)) = true
    · rw [if_pos h38] at h
      obtain ⟨h39, h⟩ := req_some h
      obtain ⟨x32, h40, h⟩ := bind_some h
      try dsimp only at h
      obtain ⟨h41, h⟩ := req_some h
      obtain ⟨x33, h42, h⟩ := bind_some h
      try dsimp only at h
      obtain ⟨x34, h43, h⟩ := bind_some h
      have ch43 := f102_ok F x32 x33 _ h43
      try dsimp only at h
      by_cases h44 : x34 = true
      · rw [if_pos h44] at h
        exact Lp.again (gRun_ok cxOK (f103_p8_1_e0 x1 x2 x3 x23 x30 x31 x32 x33 x34) ⟨h38, h38, h38, h39, h38, ⟨x32, h40, rfl⟩, h38, h38, h38, h41, h38, ⟨x33, h42, rfl⟩, h38, ch43, h38, h44, trivial⟩) (f103_p8_1_ok F x1 x2 x3 x30 x23 k (w64 (x31 - 1)) r h)
      · rw [if_neg h44] at h
        have h44 := Bool.eq_false_iff.2 h44
        obtain rfl := Option.some.inj h
        exact Lp.out (gRun_ok cxOK (f103_p8_1_e1 x1 x2 x3 x23 x30 x31 x32 x33 x34) ⟨h38, h38, h38, h39, h38, ⟨x32, h40, rfl⟩, h38, h38, h38, h41, h38, ⟨x33, h42, rfl⟩, h38, ch43, h38, h44, trivial⟩) (by intro hh; cases hh)
    · rw [if_neg h38] at h
      have h38 := Bool.eq_false_iff.2 h38
      obtain rfl := Option.some.inj h
      exact Lp.out (gRun_ok cxOK (f103_p8_1_e2 x1 x2 x3 x23 x30 x31) ⟨h38, h38, h38, h38, h38, h38, h38, h38, h38, h38, rfl, trivial⟩) (by intro hh; cases hh)
theorem f103_p1_ok (F : Nat) (x1 x2 : Nat) (x3 : Int) : ∀ (k : Nat) (x24 x25 : Int) (x23 : List Int) (r : Int × (List Int)), f103_p1 F x1 x2 x3 k x24 x25 x23 = some r → f103_p1_P x1 x2 x3 x24 x25 x23 r
  | 0, _, _, _, _, h => by cases h
  | k + 1, x24, x25, x23, r, h => by
    unfold f103_p1 at h
    obtain ⟨x30, h37, h⟩ := bind_some h
    have ch37 := f103_p4_1_ok F x1 x2 x3 x25 x23 F x24 _ h37
    try dsimp only at h
    obtain ⟨x35, h45, h⟩ := bind_some h
    have ch45 := f103_p8_1_ok F x1 x2 x3 x30 x23 F x25 _ h45
    try dsimp only at h
    by_cases h46 : (decide (x30 > x35)) = true
    · rw [if_pos h46] at h
      obtain rfl := Option.some.inj h
      exact Lp.out (gRun_ok cxOK (f103_p1_e0 x1 x2 x3 x23 x24 x25 x30 x35) ⟨ch37, ch45, h46, trivial⟩) (by intro hh; cases hh)
    · rw [if_neg h46] at h
      have h46 := Bool.eq_false_iff.2 h46
      obtain ⟨h47, h⟩ := req_some h
      obtain ⟨x36, h48, h⟩ := bind_some h
      try dsimp only at h
      obtain ⟨h49, h⟩ := req_some h
      obtain ⟨x37, h50, h⟩ := bind_some h
      try dsimp only at h
      obtain ⟨h51, h⟩ := req_some h
      obtain ⟨h52, h⟩ := req_some h
      exact Lp.again (gRun_ok cxOK (f103_p1_e1 x1 x2 x3 x23 x24 x25 x30 x35 x36 x37) ⟨ch37, ch45, h46, h47, ⟨x36, h48, rfl⟩, h49, ⟨x37, h50, rfl⟩, h49, h51, h47, h52, trivial⟩) (f103_p1_ok F x1 x2 x3 k (w64 (x30 + 1)) (w64 (x35 - 1)) (List.set (List.set x23 (x1 + (Int.toNat x30)) x36) (x1 + (Int.toNat x35)) x37) r h)
theorem f103_ok (F : Nat) (x1 x2 : Nat) (x3 x4 x5 : Int) (x6 : List Int) (r : Int × (List Int)) (h : f103 F x1 x2 x3 x4 x5 x6 = some r) : f103_C x1 x2 x3 x4 x5 x6 r := by
  unfold f103 at h
  obtain ⟨h1, h⟩ := req_some h
  obtain ⟨x7, h2, h⟩ := bind_some h
  try dsimp only at h
  obtain ⟨h3, h⟩ := req_some h
  obtain ⟨x8, h4, h⟩ := bind_some h
  try dsimp only at h
  obtain ⟨h5, h⟩ := req_some h
  obtain ⟨h6, h⟩ := req_some h
  obtain ⟨rh53, h53, h⟩ := bind_some h
  have ch53 := f103_p1_ok F x1 x2 x3 F (w64 (x3 + 1)) (w64 (x4 - 1)) (List.set (List.set x6 (x1 + (Int.toNat x3)) x7) (x1 + (Int.toNat x5)) x8) _ h53
  obtain ⟨x38, x39⟩ := rh53
  try dsimp only at h
  obtain rfl := Option.some.inj h
  exact callOK cxOK cxW Try.func103 (by kernel_rfl) (f103_e0 x1 x2 x3 x4 x5 x6 x7 x8 x38 x39) ⟨h1, ⟨x7, h2, rfl⟩, h3, ⟨x8, h4, rfl⟩, h3, h5, h1, h6, ch53, trivial⟩

theorem f91_p5_1_ok (F : Nat) (x1 x2 : Nat) (x40 x41 x42 : Int) (x43 x44 : Bool) (x39 : List Int) (r : Int × (List Int)) (h : f91_p5_1 F x1 x2 x40 x41 x42 x43 x44 x39 = some r) : f91_p5_1_P x1 x2 x40 x41 x42 x43 x44 x39 r := by
  unfold f91_p5_1 at h
  by_cases h34 : x43 = true
  · rw [if_pos h34] at h
    obtain rfl := Option.some.inj h
    exact gRun_ok cxOK (f91_p5_1_e0 x1 x2 x39 x40 x41 x42 x43 x44) ⟨(by rw [h34]; rfl), trivial⟩
  · rw [if_neg h34] at h
    have h34 := Bool.eq_false_iff.2 h34
    obtain ⟨x47, h35, h⟩ := bind_some h
    have ch35 := f98_ok F x1 x2 x40 x41 x39 _ h35
    try dsimp only at h
    obtain rfl := Option.some.inj h
    exact gRun_ok cxOK (f91_p5_1_e1 x1 x2 x39 x40 x41 x42 x43 x44 x47) ⟨(by rw [h34]; rfl), ch35, trivial⟩
theorem f91_p6_1_ok (F : Nat) (x1 x2 : Nat) (x40 x41 x48 : Int) (x43 x44 : Bool) (x50 x51 : Int) (x49 : List Int) (r : Int × Int × (List Int)) (h : f91_p6_1 F x1 x2 x40 x41 x48 x43 x44 x50 x51 x49 = some r) : f91_p6_1_P x1 x2 x40 x41 x48 x43 x44 x50 x51 x49 r := by
  unfold f91_p6_1 at h
  by_cases h38 : (x51 == 2) = true
  · rw [if_pos h38] at h
    obtain ⟨x52, h39, h⟩ := bind_some h
    have ch39 := f100_ok F x1 x2 x40 x41 x49 _ h39
    try dsimp only at h
    obtain rfl := Option.some.inj h
    exact gRun_ok cxOK (f91_p6_1_e0 x1 x2 x40 x41 x43 x44 x48 x49 x50 x51 x52) ⟨h38, ch39, trivial⟩
  · rw [if_neg h38] at h
    have h38 := Bool.eq_false_iff.2 h38
    obtain rfl := Option.some.inj h
    exact gRun_ok cxOK (f91_p6_1_e1 x1 x2 x40 x41 x43 x44 x48 x49 x50 x51) ⟨h38, trivial⟩
theorem f91_p7_1_ok (F : Nat) (x1 x2 : Nat) (x40 x41 x48 : Int) (x43 x44 : Bool) (x53 x54 : Int) (x55 : List Int) (r : f91_p7_1_R) (h : f91_p7_1 F x1 x2 x40 x41 x48 x43 x44 x53 x54 x55 = some r) : f91_p7_1_P x1 x2 x40 x41 x48 x43 x44 x53 x54 x55 r := by
  unfold f91_p7_1 at h
  by_cases h43 : (x54 == 1) = true
  · rw [if_pos h43] at h
    obtain ⟨rh44, h44, h⟩ := bind_some h
    have ch44 := f101_ok F x1 x2 x40 x41 x55 _ h44
    obtain ⟨x56, x57⟩ := rh44
    try dsimp only at h
    by_cases h45 : x56 = true
    · rw [if_pos h45] at h
      obtain rfl := Option.some.inj h
      exact gRun_ok cxOK (f91_p7_1_e0 x1 x2 x40 x41 x43 x44 x48 x53 x54 x55 x56 x57) ⟨h43, ch44, h45, trivial⟩
    · rw [if_neg h45] at h
      have h45 := Bool.eq_false_iff.2 h45
      obtain rfl := Option.some.inj h
      exact gRun_ok cxOK (f91_p7_1_e1 x1 x2 x40 x41 x43 x44 x48 x53 x54 x55 x56 x57) ⟨h43, ch44, h45, trivial⟩
  · rw [if_neg h43] at h
    have h43 := Bool.eq_false_iff.2 h43
    obtain rfl := Option.some.inj h
    exact gRun_ok cxOK (f91_p7_1_e2 x1 x2 x40 x41 x43 x44 x48 x53 x54 x55) ⟨h43, trivial⟩
theorem f91_p10_1_ok (F : Nat) (rec : Nat → Nat → Int → Int → Int → (List Int) → Option (List Int)) (hrec : ∀ (x1 x2 : Nat) (x3 x4 x5 : Int) (x6 : List Int) (r : (List Int)), rec x1 x2 x3 x4 x5 x6 = some r → f91_C x1 x2 x3 x4 x5 x6 r) (x1 x2 : Nat) (x40 x41 x48 : Int) (x64 : Bool) (x63 : Int) (x65 : List Int) (r : Int × Int × Bool × (List Int)) (h : f91_p10_1 F rec x1 x2 x40 x41 x48 x64 x63 x65 = some r) : f91_p10_1_P x1 x2 x40 x41 x48 x64 x63 x65 r := by
  unfold f91_p10_1 at h
  by_cases h55 : (decide ((w64 (x63 - x40)) < (w64 (x41 - x63)))) = true
  · rw [if_pos h55] at h
    obtain ⟨x66, h56, h⟩ := bind_some h
    have ch56 := hrec x1 x2 x40 x63 x48 x65 _ h56
    try dsimp only at h
    obtain rfl := Option.some.inj h
    exact gRun_ok cxOK (f91_p10_1_e0 x1 x2 x40 x41 x48 x63 x64 x65 x66) ⟨h55, ch56, trivial⟩
  · rw [if_neg h55] at h
    have h55 := Bool.eq_false_iff.2 h55
    obtain ⟨x67, h57, h⟩ := bind_some h
    have ch57 := hrec x1 x2 (w64 (x63 + 1)) x41 x48 x65 _ h57
    try dsimp only at h
    obtain rfl := Option.some.inj h
    exact gRun_ok cxOK (f91_p10_1_e1 x1 x2 x40 x41 x48 x63 x64 x65 x67) ⟨h55, ch57, trivial⟩
theorem f91_p10_2_ok (F : Nat) (rec : Nat → Nat → Int → Int → Int → (List Int) → Option (List Int)) (hrec : ∀ (x1 x2 : Nat) (x3 x4 x5 : Int) (x6 : List Int) (r : (List Int)), rec x1 x2 x3 x4 x5 x6 = some r → f91_C x1 x2 x3 x4 x5 x6 r) (x1 x2 : Nat) (x40 x41 x48 : Int) (x75 : Bool) (x74 : Int) (x76 : List Int) (r : Int × Int × Bool × (List Int)) (h : f91_p10_2 F rec x1 x2 x40 x41 x48 x75 x74 x76 = some r) : f91_p10_2_P x1 x2 x40 x41 x48 x75 x74 x76 r := by
  unfold f91_p10_2 at h
  by_cases h61 : (decide ((w64 (x74 - x40)) < (w64 (x41 - x74)))) = true
  · rw [if_pos h61] at h
    obtain ⟨x77, h62, h⟩ := bind_some h
    have ch62 := hrec x1 x2 x40 x74 x48 x76 _ h62
    try dsimp only at h
    obtain rfl := Option.some.inj h
    exact gRun_ok cxOK (f91_p10_2_e0 x1 x2 x40 x41 x48 x74 x75 x76 x77) ⟨h61, ch62, trivial⟩
  · rw [if_neg h61] at h
    have h61 := Bool.eq_false_iff.2 h61
    obtain ⟨x78, h63, h⟩ := bind_some h
    have ch63 := hrec x1 x2 (w64 (x74 + 1)) x41 x48 x76 _ h63
    try dsimp only at h
    obtain rfl := Option.some.inj h
    exact gRun_ok cxOK (f91_p10_2_e1 x1 x2 x40 x41 x48 x74 x75 x76 x78) ⟨h61, ch63, trivial⟩
theorem f91_p10_3_ok (F : Nat) (rec : Nat → Nat → Int → Int → Int → (List Int) → Option (List Int)) (hrec : ∀ (x1 x2 : Nat) (x3 x4 x5 : Int) (x6 : List Int) (r : (List Int)), rec x1 x2 x3 x4 x5 x6 = some r → f91_C x1 x2 x3 x4 x5 x6 r) (x1 x2 : Nat) (x40 x41 x48 : Int) (x87 : Bool) (x86 : Int) (x88 : List Int) (r : Int × Int × Bool × (List Int)) (h : f91_p10_3 F rec x1 x2 x40 x41 x48 x87 x86 x88 = some r) : f91_p10_3_P x1 x2 x40 x41 x48 x87 x86 x88 r := by
  unfold f91_p10_3 at h
  by_cases h73 : (decide ((w64 (x86 - x40)) < (w64 (x41 - x86)))) = true
  · rw [if_pos h73] at h
    obtain ⟨x89, h74, h⟩ := bind_some h
    have ch74 := hrec x1 x2 x40 x86 x48 x88 _ h74
    try dsimp only at h
    obtain rfl := Option.some.inj h
    exact gRun_ok cxOK (f91_p10_3_e0 x1 x2 x40 x41 x48 x86 x87 x88 x89) ⟨h73, ch74, trivial⟩
  · rw [if_neg h73] at h
    have h73 := Bool.eq_false_iff.2 h73
    obtain ⟨x90, h75, h⟩ := bind_some h
    have ch75 := hrec x1 x2 (w64 (x86 + 1)) x41 x48 x88 _ h75
    try dsimp only at h
    obtain rfl := Option.some.inj h
    exact gRun_ok cxOK (f91_p10_3_e1 x1 x2 x40 x41 x48 x86 x87 x88 x90) ⟨h73, ch75, trivial⟩
theorem f91_p10_4_ok (F : Nat) (rec : Nat → Nat → Int → Int → Int → (List Int) → Option (List Int)) (hrec : ∀ (x1 x2 : Nat) (x3 x4 x5 : Int) (x6 : List Int) (r : (List Int)), rec x1 x2 x3 x4 x5 x6 = some r → f91_C x1 x2 x3 x4 x5 x6 r) (x1 x2 : Nat) (x40 x41 x48 : Int) (x98 : Bool) (x97 : Int) (x99 : List Int) (r : Int × Int × Bool × (List Int)) (h : f91_p10_4 F rec x1 x2 x40 x41 x48 x98 x97 x99 = some r) : f91_p10_4_P x1 x2 x40 x41 x48 x98 x97 x99 r := by
  unfold f91_p10_4 at h
  by_cases h79 : (decide ((w64 (x97 - x40)) < (w64 (x41 - x97)))) = true
  · rw [if_pos h79] at h
    obtain ⟨x100, h80, h⟩ := bind_some h
    have ch80 := hrec x1 x2 x40 x97 x48 x99 _ h80
    try dsimp only at h
    obtain rfl := Option.some.inj h
    exact gRun_ok cxOK (f91_p10_4_e0 x1 x2 x40 x41 x48 x97 x98 x99 x100) ⟨h79, ch80, trivial⟩
  · rw [if_neg h79] at h
    have h79 := Bool.eq_false_iff.2 h79
    obtain ⟨x101, h81, h⟩ := bind_some h
    have ch81 := hrec x1 x2 (w64 (x97 + 1)) x41 x48 x99 _ h81
    try dsimp only at h
    obtain rfl := Option.some.inj h
    exact gRun_ok cxOK (f91_p10_4_e1 x1 x2 x40 x41 x48 x97 x98 x99 x101) ⟨h79, ch81, trivial⟩
theorem f91_p10_5_ok (F : Nat) (rec : Nat → Nat → Int → Int → Int → (List Int) → Option (List Int)) (hrec : ∀ (x1 x2 : Nat) (x3 x4 x5 : Int) (x6 : List Int) (r : (List Int)), rec x1 x2 x3 x4 x5 x6 = some r → f91_C x1 x2 x3 x4 x5 x6 r) (x1 x2 : Nat) (x40 x41 x48 : Int) (x110 : Bool) (x109 : Int) (x111 : List Int) (r : Int × Int × Bool × (List Int)) (h : f91_p10_5 F rec x1 x2 x40 x41 x48 x110 x109 x111 = some r) : f91_p10_5_P x1 x2 x40 x41 x48 x110 x109 x111 r := by
  unfold f91_p10_5 at h
  by_cases h91 : (decide ((w64 (x109 - x40)) < (w64 (x41 - x109)))) = true
  · rw [if_pos h91] at h
    obtain ⟨x112, h92, h⟩ := bind_some h
    have ch92 := hrec x1 x2 x40 x109 x48 x111 _ h92
    try dsimp only at h
    obtain rfl := Option.some.inj h
    exact gRun_ok cxOK (f91_p10_5_e0 x1 x2 x40 x41 x48 x109 x110 x111 x112) ⟨h91, ch92, trivial⟩
  · rw [if_neg h91] at h
    have h91 := Bool.eq_false_iff.2 h91
    obtain ⟨x113, h93, h⟩ := bind_some h
    have ch93 := hrec x1 x2 (w64 (x109 + 1)) x41 x48 x111 _ h93
    try dsimp only at h
    obtain rfl := Option.some.inj h
    exact gRun_ok cxOK (f91_p10_5_e1 x1 x2 x40 x41 x48 x109 x110 x111 x113) ⟨h91, ch93, trivial⟩
theorem f91_p10_6_ok (F : Nat) (rec : Nat → Nat → Int → Int → Int → (List Int) → Option (List Int)) (hrec : ∀ (x1 x2 : Nat) (x3 x4 x5 : Int) (x6 : List Int) (r : (List Int)), rec x1 x2 x3 x4 x5 x6 = some r → f91_C x1 x2 x3 x4 x5 x6 r) (x1 x2 : Nat) (x40 x41 x48 : Int) (x121 : Bool) (x120 : Int) (x122 : List Int) (r : Int × Int × Bool × (List Int)) (h : f91_p10_6 F rec x1 x2 x40 x41 x48 x121 x120 x122 = some r) : f91_p10_6_P x1 x2 x40 x41 x48 x121 x120 x122 r := by
  unfold f91_p10_6 at h
  by_cases h97 : (decide ((w64 (x120 - x40)) < (w64 (x41 - x120)))) = true
  · rw [if_pos h97] at h
    obtain ⟨x123, h98, h⟩ := bind_some h
    have ch98 := hrec x1 x2 x40 x120 x48 x122 _ h98
    try dsimp only at h
    obtain rfl := Option.some.inj h
    exact gRun_ok cxOK (f91_p10_6_e0 x1 x2 x40 x41 x48 x120 x121 x122 x123) ⟨h97, ch98, trivial⟩
  · rw [if_neg h97] at h
    have h97 := Bool.eq_false_iff.2 h97
    obtain ⟨x124, h99, h⟩ := bind_some h
    have ch99 := hrec x1 x2 (w64 (x120 + 1)) x41 x48 x122 _ h99
    try dsimp only at h
    obtain rfl := Option.some.inj h
    exact gRun_ok cxOK (f91_p10_6_e1 x1 x2 x40 x41 x48 x120 x121 x122 x124) ⟨h97, ch99, trivial⟩
theorem f91_p1_7_ok (F : Nat) (rec : Nat → Nat → Int → Int → Int → (List Int) → Option (List Int)) (hrec : ∀ (x1 x2 : Nat) (x3 x4 x5 : Int) (x6 : List Int) (r : (List Int)), rec x1 x2 x3 x4 x5 x6 = some r → f91_C x1 x2 x3 x4 x5 x6 r) (x1 x2 : Nat) : ∀ (k : Nat) (x40 x41 x42 : Int) (x43 x44 : Bool) (x39 : List Int) (r : (List Int)), f91_p1_7 F rec x1 x2 k x40 x41 x42 x43 x44 x39 = some r → f91_p1_7_P x1 x2 x40 x41 x42 x43 x44 x39 r
  | 0, _, _, _, _, _, _, _, h => by cases h
  | k + 1, x40, x41, x42, x43, x44, x39, r, h => by
    unfold f91_p1_7 at h
    by_cases h30 : (decide ((w64 (x41 - x40)) ≤ 12)) = true
    · rw [if_pos h30] at h
      obtain ⟨x45, h31, h⟩ := bind_some h
      have ch31 := f96_ok F x1 x2 x40 x41 x39 _ h31
      try dsimp only at h
      obtain rfl := Option.some.inj h
      exact Lp.out (gRun_ok cxOK (f91_p1_7_e0 x1 x2 x39 x40 x41 x42 x43 x44 x45) ⟨h30, ch31, trivial⟩) (by intro hh; cases hh)
    · rw [if_neg h30] at h
      have h30 := Bool.eq_false_iff.2 h30
      by_cases h32 : (x42 == 0) = true
      · rw [if_pos h32] at h
        obtain ⟨x46, h33, h⟩ := bind_some h
        have ch33 := f97_ok F x1 x2 x40 x41 x39 _ h33
        try dsimp only at h
        obtain rfl := Option.some.inj h
        exact Lp.out (gRun_ok cxOK (f91_p1_7_e1 x1 x2 x39 x40 x41 x42 x43 x44 x46) ⟨h30, h32, ch33, trivial⟩) (by intro hh; cases hh)
      · rw [if_neg h32] at h
        have h32 := Bool.eq_false_iff.2 h32
        obtain ⟨rh36, h36, h⟩ := bind_some h
        have ch36 := f91_p5_1_ok F x1 x2 x40 x41 x42 x43 x44 x39 _ h36
        obtain ⟨x48, x49⟩ := rh36
        try dsimp only at h
        obtain ⟨rh37, h37, h⟩ := bind_some h
        have ch37 := f99_ok F x1 x2 x40 x41 x49 _ h37
        obtain ⟨x50, x51⟩ := rh37
        try dsimp only at h
        obtain ⟨rh40, h40, h⟩ := bind_some h
        have ch40 := f91_p6_1_ok F x1 x2 x40 x41 x48 x43 x44 x50 x51 x49 _ h40
        obtain ⟨x53, x54, x55⟩ := rh40
        try dsimp only at h
        by_cases h41 : x43 = true
        · rw [if_pos h41] at h
          by_cases h42 : x44 = true
          · rw [if_pos h42] at h
            obtain ⟨rh46, h46, h⟩ := bind_some h
            have ch46 := f91_p7_1_ok F x1 x2 x40 x41 x48 x43 x44 x53 x54 x55 _ h46
            cases rh46 with
            | c0 x58 =>
              try dsimp only at h
              obtain rfl := Option.some.inj h
              exact Lp.out (gRun_ok cxOK (f91_p1_7_e2 x1 x2 x39 x40 x41 x42 x43 x44 x48 x49 x50 x51 x53 x54 x55 x58) ⟨h30, h32, ch36, ch37, ch40, h41, h41, h42, h42, h42, ch46, trivial⟩) (by intro hh; cases hh)
            | c1 x59 =>
              try dsimp only at h
              by_cases h47 : (decide (x40 > 0)) = true
              · rw [if_pos h47] at h
                obtain ⟨h48, h⟩ := req_some h
                obtain ⟨x60, h49, h⟩ := bind_some h
                try dsimp only at h
                obtain ⟨h50, h⟩ := req_some h
                obtain ⟨x61, h51, h⟩ := bind_some h
                try dsimp only at h
                obtain ⟨x62, h52, h⟩ := bind_some h
                have ch52 := f102_ok F x60 x61 _ h52
                try dsimp only at h
                by_cases h53 : x62 = true
                · rw [if_pos h53] at h
                  obtain ⟨rh54, h54, h⟩ := bind_some h
                  have ch54 := f104_ok F x1 x2 x40 x41 x53 x59 _ h54
                  obtain ⟨x63, x64, x65⟩ := rh54
                  try dsimp only at h
                  obtain ⟨rh58, h58, h⟩ := bind_some h
                  have ch58 := f91_p10_1_ok F rec hrec x1 x2 x40 x41 x48 x64 x63 x65 _ h58
                  obtain ⟨x68, x69, x70, x71⟩ := rh58
                  try dsimp only at h
                  exact Lp.again (gRun_ok cxOK (f91_p1_7_e3 x1 x2 x39 x40 x41 x42 x43 x44 x48 x49 x50 x51 x53 x54 x55 x59 x60 x61 x62 x63 x64 x65 x68 x69 x70 x71) ⟨h30, h32, ch36, ch37, ch40, h41, h41, h42, h42, h42, ch46, h47, h47, h47, h47, h48, h47, ⟨x60, h49, rfl⟩, h47, h47, h47, h50, h47, ⟨x61, h51, rfl⟩, h47, ch52, h47, h47, (by rw [h53]; rfl), ch54, (by decide), ch58, trivial⟩) (f91_p1_7_ok F rec hrec x1 x2 k x68 x69 x48 x70 x64 x71 r h)
                · rw [if_neg h53] at h
                  have h53 := Bool.eq_false_iff.2 h53
                  obtain ⟨rh59, h59, h⟩ := bind_some h
                  have ch59 := f103_ok F x1 x2 x40 x41 x53 x59 _ h59
                  obtain ⟨x72, x73⟩ := rh59
                  try dsimp only at h
                  exact Lp.again (gRun_ok cxOK (f91_p1_7_e4 x1 x2 x39 x40 x41 x42 x43 x44 x48 x49 x50 x51 x53 x54 x55 x59 x60 x61 x62 x72 x73) ⟨h30, h32, ch36, ch37, ch40, h41, h41, h42, h42, h42, ch46, h47, h47, h47, h47, h48, h47, ⟨x60, h49, rfl⟩, h47, h47, h47, h50, h47, ⟨x61, h51, rfl⟩, h47, ch52, h47, h47, (by rw [h53]; rfl), ch59, trivial⟩) (f91_p1_7_ok F rec hrec x1 x2 k x72 x41 x48 x43 x44 x73 r h)
              · rw [if_neg h47] at h
                have h47 := Bool.eq_false_iff.2 h47
                obtain ⟨rh60, h60, h⟩ := bind_some h
                have ch60 := f104_ok F x1 x2 x40 x41 x53 x59 _ h60
                obtain ⟨x74, x75, x76⟩ := rh60
                try dsimp only at h
                obtain ⟨rh64, h64, h⟩ := bind_some h
                have ch64 := f91_p10_2_ok F rec hrec x1 x2 x40 x41 x48 x75 x74 x76 _ h64
                obtain ⟨x79, x80, x81, x82⟩ := rh64
                try dsimp only at h
                exact Lp.again (gRun_ok cxOK (f91_p1_7_e5 x1 x2 x39 x40 x41 x42 x43 x44 x48 x49 x50 x51 x53 x54 x55 x59 x74 x75 x76 x79 x80 x81 x82) ⟨h30, h32, ch36, ch37, ch40, h41, h41, h42, h42, h42, ch46, h47, h47, h47, h47, h47, h47, h47, h47, h47, h47, h47, h47, rfl, ch60, (by decide), ch64, trivial⟩) (f91_p1_7_ok F rec hrec x1 x2 k x79 x80 x48 x81 x75 x82 r h)
          · rw [if_neg h42] at h
            have h42 := Bool.eq_false_iff.2 h42
            by_cases h65 : (decide (x40 > 0)) = true
            · rw [if_pos h65] at h
              obtain ⟨h66, h⟩ := req_some h
              obtain ⟨x83, h67, h⟩ := bind_some h
              try dsimp only at h
              obtain ⟨h68, h⟩ := req_some h
              obtain ⟨x84, h69, h⟩ := bind_some h
              try dsimp only at h
              obtain ⟨x85, h70, h⟩ := bind_some h
              have ch70 := f102_ok F x83 x84 _ h70
              try dsimp only at h
              by_cases h71 : x85 = true
              · rw [if_pos h71] at h
                obtain ⟨rh72, h72, h⟩ := bind_some h
                have ch72 := f104_ok F x1 x2 x40 x41 x53 x55 _ h72
                obtain ⟨x86, x87, x88⟩ := rh72
                try dsimp only at h
                obtain ⟨rh76, h76, h⟩ := bind_some h
                have ch76 := f91_p10_3_ok F rec hrec x1 x2 x40 x41 x48 x87 x86 x88 _ h76
                obtain ⟨x91, x92, x93, x94⟩ := rh76
                try dsimp only at h
                exact Lp.again (gRun_ok cxOK (f91_p1_7_e6 x1 x2 x39 x40 x41 x42 x43 x44 x48 x49 x50 x51 x53 x54 x55 x83 x84 x85 x86 x87 x88 x91 x92 x93 x94) ⟨h30, h32, ch36, ch37, ch40, h41, h41, h42, h42, h42, rfl, h65, h65, h65, h65, h66, h65, ⟨x83, h67, rfl⟩, h65, h65, h65, h68, h65, ⟨x84, h69, rfl⟩, h65, ch70, h65, h65, (by rw [h71]; rfl), ch72, (by decide), ch76, trivial⟩) (f91_p1_7_ok F rec hrec x1 x2 k x91 x92 x48 x93 x87 x94 r h)
              · rw [if_neg h71] at h
                have h71 := Bool.eq_false_iff.2 h71
                obtain ⟨rh77, h77, h⟩ := bind_some h
                have ch77 := f103_ok F x1 x2 x40 x41 x53 x55 _ h77
                obtain ⟨x95, x96⟩ := rh77
                try dsimp only at h
                exact Lp.again (gRun_ok cxOK (f91_p1_7_e7 x1 x2 x39 x40 x41 x42 x43 x44 x48 x49 x50 x51 x53 x54 x55 x83 x84 x85 x95 x96) ⟨h30, h32, ch36, ch37, ch40, h41, h41, h42, h42, h42, rfl, h65, h65, h65, h65, h66, h65, ⟨x83, h67, rfl⟩, h65, h65, h65, h68, h65, ⟨x84, h69, rfl⟩, h65, ch70, h65, h65, (by rw [h71]; rfl), ch77, trivial⟩) (f91_p1_7_ok F rec hrec x1 x2 k x95 x41 x48 x43 x44 x96 r h)
            · rw [if_neg h65] at h
              have h65 := Bool.eq_false_iff.2 h65
              obtain ⟨rh78, h78, h⟩ := bind_some h
              have ch78 := f104_ok F x1 x2 x40 x41 x53 x55 _ h78
              obtain ⟨x97, x98, x99⟩ := rh78
              try dsimp only at h
              obtain ⟨rh82, h82, h⟩ := bind_some h
              have ch82 := f91_p10_4_ok F rec hrec x1 x2 x40 x41 x48 x98 x97 x99 _ h82
              obtain ⟨x102, x103, x104, x105⟩ := rh82
              try dsimp only at h
              exact Lp.again (gRun_ok cxOK (f91_p1_7_e8 x1 x2 x39 x40 x41 x42 x43 x44 x48 x49 x50 x51 x53 x54 x55 x97 x98 x99 x102 x103 x104 x105) ⟨h30, h32, ch36, ch37, ch40, h41, h41, h42, h42, h42, rfl, h65, h65, h65, h65, h65, h65, h65, h65, h65, h65, h65, h65, rfl, ch78, (by decide), ch82, trivial⟩) (f91_p1_7_ok F rec hrec x1 x2 k x102 x103 x48 x104 x98 x105 r h)
        · rw [if_neg h41] at h
          have h41 := Bool.eq_false_iff.2 h41
          by_cases h83 : (decide (x40 > 0)) = true
          · rw [if_pos h83] at h
            obtain ⟨h84, h⟩ := req_some h
            obtain ⟨x106, h85, h⟩ := bind_some h
            try dsimp only at h
            obtain ⟨h86, h⟩ := req_some h
            obtain ⟨x107, h87, h⟩ := bind_some h
            try dsimp only at h
            obtain ⟨x108, h88, h⟩ := bind_some h
            have ch88 := f102_ok F x106 x107 _ h88
            try dsimp only at h
            by_cases h89 : x108 = true
            · rw [if_pos h89] at h
              obtain ⟨rh90, h90, h⟩ := bind_some h
              have ch90 := f104_ok F x1 x2 x40 x41 x53 x55 _ h90
              obtain ⟨x109, x110, x111⟩ := rh90
              try dsimp only at h
              obtain ⟨rh94, h94, h⟩ := bind_some h
              have ch94 := f91_p10_5_ok F rec hrec x1 x2 x40 x41 x48 x110 x109 x111 _ h94
              obtain ⟨x114, x115, x116, x117⟩ := rh94
              try dsimp only at h
              exact Lp.again (gRun_ok cxOK (f91_p1_7_e9 x1 x2 x39 x40 x41 x42 x43 x44 x48 x49 x50 x51 x53 x54 x55 x106 x107 x108 x109 x110 x111 x114 x115 x116 x117) ⟨h30, h32, ch36, ch37, ch40, h41, h41, rfl, rfl, rfl, rfl, h83, h83, h83, h83, h84, h83, ⟨x106, h85, rfl⟩, h83, h83, h83, h86, h83, ⟨x107, h87, rfl⟩, h83, ch88, h83, h83, (by rw [h89]; rfl), ch90, (by decide), ch94, trivial⟩) (f91_p1_7_ok F rec hrec x1 x2 k x114 x115 x48 x116 x110 x117 r h)
            · rw [if_neg h89] at h
              have h89 := Bool.eq_false_iff.2 h89
              obtain ⟨rh95, h95, h⟩ := bind_some h
              have ch95 := f103_ok F x1 x2 x40 x41 x53 x55 _ h95
              obtain ⟨x118, x119⟩ := rh95
              try dsimp only at h
              exact Lp.again (gRun_ok cxOK (f91_p1_7_e10 x1 x2 x39 x40 x41 x42 x43 x44 x48 x49 x50 x51 x53 x54 x55 x106 x107 x108 x118 x119) ⟨h30, h32, ch36, ch37, ch40, h41, h41, rfl, rfl, rfl, rfl, h83, h83, h83, h83, h84, h83, ⟨x106, h85, rfl⟩, h83, h83, h83, h86, h83, ⟨x107, h87, rfl⟩, h83, ch88, h83, h83, (by rw [h89]; rfl), ch95, trivial⟩) (f91_p1_7_ok F rec hrec x1 x2 k x118 x41 x48 x43 x44 x119 r h)
          · rw [if_neg h83] at h
            have h83 := Bool.eq_false_iff.2 h83
            obtain ⟨rh96, h96, h⟩ := bind_some h
            have ch96 := f104_ok F x1 x2 x40 x41 x53 x55 _ h96
            obtain ⟨x120, x121, x122⟩ := rh96
            try dsimp only at h
            obtain ⟨rh100, h100, h⟩ := bind_some h
            have ch100 := f91_p10_6_ok F rec hrec x1 x2 x40 x41 x48 x121 x120 x122 _ h100
            obtain ⟨x125, x126, x127, x128⟩ := rh100
            try dsimp only at h
            exact Lp.again (gRun_ok cxOK (f91_p1_7_e11 x1 x2 x39 x40 x41 x42 x43 x44 x48 x49 x50 x51 x53 x54 x55 x120 x121 x122 x125 x126 x127 x128) ⟨h30, h32, ch36, ch37, ch40, h41, h41, rfl, rfl, rfl, rfl, h83, h83, h83, h83, h83, h83, h83, h83, h83, h83, h83, h83, rfl, ch96, (by decide), ch100, trivial⟩) (f91_p1_7_ok F rec hrec x1 x2 k x125 x126 x48 x127 x121 x128 r h)
theorem f91_b_ok (F : Nat) (rec : Nat → Nat → Int → Int → Int → (List Int) → Option (List Int)) (hrec : ∀ (x1 x2 : Nat) (x3 x4 x5 : Int) (x6 : List Int) (r : (List Int)), rec x1 x2 x3 x4 x5 x6 = some r → f91_C x1 x2 x3 x4 x5 x6 r) (x1 x2 : Nat) (x3 x4 x5 : Int) (x6 : List Int) (r : (List Int)) (h : f91_b F rec x1 x2 x3 x4 x5 x6 = some r) : f91_C x1 x2 x3 x4 x5 x6 r := by
  unfold f91_b at h
  obtain ⟨x129, h101, h⟩ := bind_some h
  have ch101 := f91_p1_7_ok F rec hrec x1 x2 F x3 x4 x5 true true x6 _ h101
  try dsimp only at h
  obtain rfl := Option.some.inj h
  exact callOK cxOK cxW Try.func91 (by kernel_rfl) (f91_e0 x1 x2 x3 x4 x5 x6 x129) ⟨ch101, trivial⟩
theorem f91_ok (F : Nat) : ∀ (k : Nat) (x1 x2 : Nat) (x3 x4 x5 : Int) (x6 : List Int) (r : (List Int)), f91 F k x1 x2 x3 x4 x5 x6 = some r → f91_C x1 x2 x3 x4 x5 x6 r
  | 0, _, _, _, _, _, _, _, h => by cases h
  | k + 1, x1, x2, x3, x4, x5, x6, r, h => f91_b_ok F (f91 F k) (f91_ok F k) x1 x2 x3 x4 x5 x6 r h

theorem f81_ok (F : Nat) (x1 : List Int) (r : (List Int)) (h : f81 F x1 = some r) : f81_C x1 r := by
  unfold f81 at h
  obtain ⟨x2, h1, h⟩ := bind_some h
  have ch1 := f92_ok F (IntKind.wrap .u64 ((((List.length x1) : Nat) : Int))) _ h1
  try dsimp only at h
  obtain ⟨x3, h2, h⟩ := bind_some h
  have ch2 := f91_ok F F 0 (List.length x1) 0 (((List.length x1) : Nat) : Int) x2 x1 _ h2
  try dsimp only at h
  obtain rfl := Option.some.inj h
  exact callOK cxOK cxW Try.func81 (by kernel_rfl) (f81_e0 x1 x2 x3) ⟨ch1, ch2, trivial⟩

theorem f82_p1_ok (F : Nat) (x1 x2 : Nat) : ∀ (k : Nat) (x9 x10 : Int) (x8 : List Int) (r : (List Int)), f82_p1 F x1 x2 k x9 x10 x8 = some r → f82_p1_P x1 x2 x9 x10 x8 r
  | 0, _, _, _, _, h => by cases h
  | k + 1, x9, x10, x8, r, h => by
    unfold f82_p1 at h
    by_cases h8 : (decide (x9 < x10)) = true
    · rw [if_pos h8] at h
      obtain ⟨h9, h⟩ := req_some h
      obtain ⟨x11, h10, h⟩ := bind_some h
      try dsimp only at h
      obtain ⟨h11, h⟩ := req_some h
      obtain ⟨x12, h12, h⟩ := bind_some h
      try dsimp only at h
      obtain ⟨h13, h⟩ := req_some h
      obtain ⟨h14, h⟩ := req_some h
      exact Lp.again (gRun_ok cxOK (f82_p1_e0 x1 x2 x8 x9 x10 x11 x12) ⟨h8, h9, ⟨x11, h10, rfl⟩, h11, ⟨x12, h12, rfl⟩, h11, h13, h9, h14, trivial⟩) (f82_p1_ok F x1 x2 k (w64 (x9 + 1)) (w64 (x10 - 1)) (List.set (List.set x8 (x1 + (Int.toNat x9)) x11) (x1 + (Int.toNat x10)) x12) r h)
    · rw [if_neg h8] at h
      have h8 := Bool.eq_false_iff.2 h8
      obtain rfl := Option.some.inj h
      exact Lp.out (gRun_ok cxOK (f82_p1_e1 x1 x2 x8 x9 x10) ⟨h8, trivial⟩) (by intro hh; cases hh)
theorem f82_ok (F : Nat) (x1 x2 : Nat) (x3 : List Int) (r : (List Int)) (h : f82 F x1 x2 x3 = some r) : f82_C x1 x2 x3 r := by
  unfold f82 at h
  obtain ⟨x13, h15, h⟩ := bind_some h
  have ch15 := f82_p1_ok F x1 x2 F 0 (w64 (((x2 : Nat) : Int) - 1)) x3 _ h15
  try dsimp only at h
  obtain rfl := Option.some.inj h
  exact callOK cxOK cxW Try.func82 (by kernel_rfl) (f82_e0 x1 x2 x3 x13) ⟨ch15, trivial⟩

theorem f53_p1_ok (F : Nat) (x1 : List Int) : ∀ (k : Nat) (x7 x8 : Int) (x6 : List Int) (r : (List Int)), f53_p1 F x1 k x7 x8 x6 = some r → f53_p1_P x1 x7 x8 x6 r
  | 0, _, _, _, _, h => by cases h
  | k + 1, x7, x8, x6, r, h => by
    unfold f53_p1 at h
    by_cases h5 : (decide (x8 < ((List.length x1 : Nat) : Int))) = true
    · rw [if_pos h5] at h
      obtain ⟨x9, h6, h⟩ := bind_some h
      try dsimp only at h
      by_cases h7 : (decide ((w64 (1 + (Int.tmod (w64 (x9)) 9))) > x7)) = true
      · rw [if_pos h7] at h
        obtain rfl := Option.some.inj h
        exact Lp.out (gRun_ok cxOK (f53_p1_e0 x1 x6 x7 x8 x9) ⟨h5, ⟨(at?_spec h6).1, x9, (at?_spec h6).2, rfl⟩, (by decide), h7, trivial⟩) (by intro hh; cases hh)
      · rw [if_neg h7] at h
        have h7 := Bool.eq_false_iff.2 h7
        obtain ⟨h8, h⟩ := req_some h
        exact Lp.again (gRun_ok cxOK (f53_p1_e1 x1 x6 x7 x8 x9) ⟨h5, ⟨(at?_spec h6).1, x9, (at?_spec h6).2, rfl⟩, (by decide), h7, h8, rfl, trivial⟩) (f53_p1_ok F x1 k (w64 (x7 - (w64 (1 + (Int.tmod (w64 (x9)) 9))))) (w64 (x8 + 1)) (x6 ++ ([(w64 (1 + (Int.tmod (w64 (x9)) 9)))] : List Int)) r h)
    · rw [if_neg h5] at h
      have h5 := Bool.eq_false_iff.2 h5
      obtain rfl := Option.some.inj h
      exact Lp.out (gRun_ok cxOK (f53_p1_e2 x1 x6 x7 x8) ⟨h5, trivial⟩) (by intro hh; cases hh)
theorem f53_ok (F : Nat) (x1 : List Int) (x2 : Int) (r : (List Int)) (h : f53 F x1 x2 = some r) : f53_C x1 x2 r := by
  unfold f53 at h
  obtain ⟨x10, h9, h⟩ := bind_some h
  have ch9 := f53_p1_ok F x1 F x2 0 ([] : List Int) _ h9
  try dsimp only at h
  obtain ⟨x11, h10, h⟩ := bind_some h
  have ch10 := f81_ok F x10 _ h10
  try dsimp only at h
  obtain ⟨x12, h11, h⟩ := bind_some h
  have ch11 := f82_ok F 0 (List.length x10) x11 _ h11
  try dsimp only at h
  obtain ⟨h12, h⟩ := req_some h
  obtain rfl := Option.some.inj h
  exact callOK cxOK cxW Try.func53 (by kernel_rfl) (f53_e0 x1 x2 x10 x11 x12) ⟨ch9, ch10, ch11, h12, trivial⟩

theorem f57_ok (F : Nat) (x1 x2 x3 : Int) (r : Bool) (h : f57 F x1 x2 x3 = some r) : f57_C x1 x2 x3 r := by
  unfold f57 at h
  by_cases h1 : (decide (x1 ≥ x2)) = true
  · rw [if_pos h1] at h
    obtain rfl := Option.some.inj h
    exact callOK cxOK cxW Try.func57 (by kernel_rfl) (f57_e0 x1 x2 x3) ⟨h1, h1, h1, h1, trivial⟩
  · rw [if_neg h1] at h
    have h1 := Bool.eq_false_iff.2 h1
    obtain rfl := Option.some.inj h
    exact callOK cxOK cxW Try.func57 (by kernel_rfl) (f57_e1 x1 x2 x3) ⟨h1, h1, h1, h1, trivial⟩

theorem f34_p1_ok (F : Nat) (x1 : List Int) : ∀ (k : Nat) (x2 x3 x4 : Int) (r : f34_p1_R), f34_p1 F x1 k x2 x3 x4 = some r → f34_p1_P x1 x2 x3 x4 r
  | 0, _, _, _, _, h => by cases h
  | k + 1, x2, x3, x4, r, h => by
    unfold f34_p1 at h
    by_cases h1 : (decide (x4 < ((List.length x1 : Nat) : Int))) = true
    · rw [if_pos h1] at h
      obtain ⟨x5, h2, h⟩ := bind_some h
      try dsimp only at h
      obtain ⟨x6, h3, h⟩ := bind_some h
      have ch3 := f57_ok F x5 1 30 _ h3
      try dsimp only at h
      by_cases h4 : x6 = true
      · rw [if_pos h4] at h
        by_cases h5 : (decide (x5 > x2)) = true
        · rw [if_pos h5] at h
          obtain rfl := Option.some.inj h
          exact Lp.out (gRun_ok cxOK (f34_p1_e0 x1 x2 x3 x4 x5 x6) ⟨h1, ⟨(at?_spec h2).1, x5, (at?_spec h2).2, rfl⟩, ch3, (by rw [h4]; rfl), h5, trivial⟩) (by intro hh; cases hh)
        · rw [if_neg h5] at h
          have h5 := Bool.eq_false_iff.2 h5
          exact Lp.again (gRun_ok cxOK (f34_p1_e1 x1 x2 x3 x4 x5 x6) ⟨h1, ⟨(at?_spec h2).1, x5, (at?_spec h2).2, rfl⟩, ch3, (by rw [h4]; rfl), h5, trivial⟩) (f34_p1_ok F x1 k x5 (if 31 < (w64 (x3 + x5)) then 31 else (w64 (x3 + x5))) (w64 (x4 + 1)) r h)
      · rw [if_neg h4] at h
        have h4 := Bool.eq_false_iff.2 h4
        obtain rfl := Option.some.inj h
        exact Lp.out (gRun_ok cxOK (f34_p1_e2 x1 x2 x3 x4 x5 x6) ⟨h1, ⟨(at?_spec h2).1, x5, (at?_spec h2).2, rfl⟩, ch3, (by rw [h4]; rfl), trivial⟩) (by intro hh; cases hh)
    · rw [if_neg h1] at h
      have h1 := Bool.eq_false_iff.2 h1
      obtain rfl := Option.some.inj h
      exact Lp.out (gRun_ok cxOK (f34_p1_e3 x1 x2 x3 x4) ⟨h1, trivial⟩) (by intro hh; cases hh)
theorem f34_ok (F : Nat) (x1 : List Int) (r : Int) (h : f34 F x1 = some r) : f34_C x1 r := by
  unfold f34 at h
  obtain ⟨rh6, h6, h⟩ := bind_some h
  have ch6 := f34_p1_ok F x1 F 30 0 0 _ h6
  cases rh6 with
  | c0 x7 =>
    try dsimp only at h
    obtain rfl := Option.some.inj h
    exact callOK cxOK cxW Try.func34 (by kernel_rfl) (f34_e0 x1 x7) ⟨ch6, trivial⟩
  | c1 x8 =>
    try dsimp only at h
    by_cases h7 : (decide (x8 > 30)) = true
    · rw [if_pos h7] at h
      obtain rfl := Option.some.inj h
      exact callOK cxOK cxW Try.func34 (by kernel_rfl) (f34_e1 x1 x8) ⟨ch6, h7, trivial⟩
    · rw [if_neg h7] at h
      have h7 := Bool.eq_false_iff.2 h7
      obtain rfl := Option.some.inj h
      exact callOK cxOK cxW Try.func34 (by kernel_rfl) (f34_e2 x1 x8) ⟨ch6, h7, trivial⟩

theorem f61_p4_1_ok (F : Nat) (x1 x12 : List Int) (x13 : Int) (r : Int) (h : f61_p4_1 F x1 x12 x13 = some r) : f61_p4_1_P x1 x12 x13 r := by
  unfold f61_p4_1 at h
  by_cases h12 : (decide (x13 < ((List.length x1 : Nat) : Int))) = true
  · rw [if_pos h12] at h
    obtain ⟨x14, h13, h⟩ := bind_some h
    try dsimp only at h
    obtain rfl := Option.some.inj h
    exact gRun_ok cxOK (f61_p4_1_e0 x1 x12 x13 x14) ⟨h12, ⟨(at?_spec h13).1, x14, (at?_spec h13).2, rfl⟩, trivial⟩
  · rw [if_neg h12] at h
    have h12 := Bool.eq_false_iff.2 h12
    obtain rfl := Option.some.inj h
    exact gRun_ok cxOK (f61_p4_1_e1 x1 x12 x13) ⟨h12, trivial⟩
theorem f61_p6_1_ok (F : Nat) (x1 : List Int) (x13 x16 x15 : Int) : ∀ (k : Nat) (x18 : Int) (x17 : List Int) (r : (List Int)), f61_p6_1 F x1 x13 x16 x15 k x18 x17 = some r → f61_p6_1_P x1 x13 x16 x15 x18 x17 r
  | 0, _, _, _, h => by cases h
  | k + 1, x18, x17, r, h => by
    unfold f61_p6_1 at h
    by_cases h16 : (decide (x18 < (w64 (x16 - x15)))) = true
    · rw [if_pos h16] at h
      obtain ⟨h17, h⟩ := req_some h
      exact Lp.again (gRun_ok cxOK (f61_p6_1_e0 x1 x13 x15 x16 x17 x18) ⟨h16, h17, rfl, trivial⟩) (f61_p6_1_ok F x1 x13 x16 x15 k (w64 (x18 + 1)) (x17 ++ ([x13] : List Int)) r h)
    · rw [if_neg h16] at h
      have h16 := Bool.eq_false_iff.2 h16
      obtain rfl := Option.some.inj h
      exact Lp.out (gRun_ok cxOK (f61_p6_1_e1 x1 x13 x15 x16 x17 x18) ⟨h16, trivial⟩) (by intro hh; cases hh)
theorem f61_p1_ok (F : Nat) (x1 : List Int) : ∀ (k : Nat) (x13 : Int) (x12 : List Int) (r : (List Int)), f61_p1 F x1 k x13 x12 = some r → f61_p1_P x1 x13 x12 r
  | 0, _, _, _, h => by cases h
  | k + 1, x13, x12, r, h => by
    unfold f61_p1 at h
    by_cases h11 : (decide (x13 > 0)) = true
    · rw [if_pos h11] at h
      obtain ⟨x15, h14, h⟩ := bind_some h
      have ch14 := f61_p4_1_ok F x1 x12 x13 _ h14
      try dsimp only at h
      obtain ⟨x16, h15, h⟩ := bind_some h
      try dsimp only at h
      obtain ⟨x19, h18, h⟩ := bind_some h
      have ch18 := f61_p6_1_ok F x1 x13 x16 x15 F 0 x12 _ h18
      try dsimp only at h
      exact Lp.again (gRun_ok cxOK (f61_p1_e0 x1 x12 x13 x15 x16 x19) ⟨h11, ch14, ⟨(at?_spec h15).1, x16, (at?_spec h15).2, rfl⟩, ch18, trivial⟩) (f61_p1_ok F x1 k (w64 (x13 - 1)) x19 r h)
    · rw [if_neg h11] at h
      have h11 := Bool.eq_false_iff.2 h11
      obtain rfl := Option.some.inj h
      exact Lp.out (gRun_ok cxOK (f61_p1_e1 x1 x12 x13) ⟨h11, trivial⟩) (by intro hh; cases hh)
theorem f61_ok (F : Nat) (x1 : List Int) (r : (List Int)) (h : f61 F x1 = some r) : f61_C x1 r := by
  unfold f61 at h
  obtain ⟨x20, h19, h⟩ := bind_some h
  have ch19 := f61_p1_ok F x1 F ((List.length x1 : Nat) : Int) ([] : List Int) _ h19
  try dsimp only at h
  obtain rfl := Option.some.inj h
  exact callOK cxOK cxW Try.func61 (by kernel_rfl) (f61_e0 x1 x20) ⟨ch19, (Nat.le_of_eq (Nat.zero_add _)), trivial⟩

theorem f25_ok (F : Nat) (x1 : List Int) (r : (List Int) × Int) (h : f25 F x1 = some r) : f25_C x1 r := by
  unfold f25 at h
  obtain ⟨x2, h1, h⟩ := bind_some h
  have ch1 := f34_ok F x1 _ h1
  try dsimp only at h
  by_cases h2 : (x2 != 0) = true
  · rw [if_pos h2] at h
    obtain rfl := Option.some.inj h
    exact callOK cxOK cxW Try.func25 (by kernel_rfl) (f25_e0 x1 x2) ⟨ch1, h2, trivial⟩
  · rw [if_neg h2] at h
    have h2 := Bool.eq_false_iff.2 h2
    obtain ⟨x3, h3, h⟩ := bind_some h
    have ch3 := f61_ok F x1 _ h3
    try dsimp only at h
    obtain rfl := Option.some.inj h
    exact callOK cxOK cxW Try.func25 (by kernel_rfl) (f25_e1 x1 x2 x3) ⟨ch1, h2, ch3, trivial⟩

theorem f54_p1_ok (F : Nat) (x1 : List Int) : ∀ (k : Nat) (x2 x3 : Int) (r : Int), f54_p1 F x1 k x2 x3 = some r → f54_p1_P x1 x2 x3 r
  | 0, _, _, _, h => by cases h
  | k + 1, x2, x3, r, h => by
    unfold f54_p1 at h
    by_cases h1 : (decide (x3 < ((List.length x1 : Nat) : Int))) = true
    · rw [if_pos h1] at h
      obtain ⟨x4, h2, h⟩ := bind_some h
      try dsimp only at h
      exact Lp.again (gRun_ok cxOK (f54_p1_e0 x1 x2 x3 x4) ⟨h1, ⟨(at?_spec h2).1, x4, (at?_spec h2).2, rfl⟩, trivial⟩) (f54_p1_ok F x1 k (w64 (x2 + x4)) (w64 (x3 + 1)) r h)
    · rw [if_neg h1] at h
      have h1 := Bool.eq_false_iff.2 h1
      obtain rfl := Option.some.inj h
      exact Lp.out (gRun_ok cxOK (f54_p1_e1 x1 x2 x3) ⟨h1, trivial⟩) (by intro hh; cases hh)
theorem f54_ok (F : Nat) (x1 : List Int) (r : Int) (h : f54 F x1 = some r) : f54_C x1 r := by
  unfold f54 at h
  obtain ⟨x5, h3, h⟩ := bind_some h
  have ch3 := f54_p1_ok F x1 F 0 0 _ h3
  try dsimp only at h
  obtain rfl := Option.some.inj h
  exact callOK cxOK cxW Try.func54 (by kernel_rfl) (f54_e0 x1 x5) ⟨ch3, trivial⟩

theorem f31_p2_ok (F : Nat) (x1 x2 : List Int) : ∀ (k : Nat) (x3 : Int) (r : f31_p2_R), f31_p2 F x1 x2 k x3 = some r → f31_p2_P x1 x2 x3 r
  | 0, _, _, h => by cases h
  | k + 1, x3, r, h => by
    unfold f31_p2 at h
    by_cases h2 : (decide (x3 < ((List.length x1 : Nat) : Int))) = true
    · rw [if_pos h2] at h
      obtain ⟨x4, h3, h⟩ := bind_some h
      try dsimp only at h
      obtain ⟨x5, h4, h⟩ := bind_some h
      try dsimp only at h
      by_cases h5 : (x4 != x5) = true
      · rw [if_pos h5] at h
        obtain rfl := Option.some.inj h
        exact Lp.out (gRun_ok cxOK (f31_p2_e0 x1 x2 x3 x4 x5) ⟨h2, ⟨(at?_spec h3).1, x4, (at?_spec h3).2, rfl⟩, ⟨(at?_spec h4).1, x5, (at?_spec h4).2, rfl⟩, h5, trivial⟩) (by intro hh; cases hh)
      · rw [if_neg h5] at h
        have h5 := Bool.eq_false_iff.2 h5
        exact Lp.again (gRun_ok cxOK (f31_p2_e1 x1 x2 x3 x4 x5) ⟨h2, ⟨(at?_spec h3).1, x4, (at?_spec h3).2, rfl⟩, ⟨(at?_spec h4).1, x5, (at?_spec h4).2, rfl⟩, h5, trivial⟩) (f31_p2_ok F x1 x2 k (w64 (x3 + 1)) r h)
    · rw [if_neg h2] at h
      have h2 := Bool.eq_false_iff.2 h2
      obtain rfl := Option.some.inj h
      exact Lp.out (gRun_ok cxOK (f31_p2_e2 x1 x2 x3) ⟨h2, trivial⟩) (by intro hh; cases hh)
theorem f31_ok (F : Nat) (x1 x2 : List Int) (r : Bool) (h : f31 F x1 x2 = some r) : f31_C x1 x2 r := by
  unfold f31 at h
  by_cases h1 : (((List.length x1 : Nat) : Int) != ((List.length x2 : Nat) : Int)) = true
  · rw [if_pos h1] at h
    obtain rfl := Option.some.inj h
    exact callOK cxOK cxW Try.func31 (by kernel_rfl) (f31_e0 x1 x2) ⟨h1, trivial⟩
  · rw [if_neg h1] at h
    have h1 := Bool.eq_false_iff.2 h1
    obtain ⟨rh6, h6, h⟩ := bind_some h
    have ch6 := f31_p2_ok F x1 x2 F 0 _ h6
    cases rh6 with
    | c0 =>
      try dsimp only at h
      obtain rfl := Option.some.inj h
      exact callOK cxOK cxW Try.func31 (by kernel_rfl) (f31_e1 x1 x2) ⟨h1, ch6, trivial⟩
    | c1 =>
      try dsimp only at h
      obtain rfl := Option.some.inj h
      exact callOK cxOK cxW Try.func31 (by kernel_rfl) (f31_e2 x1 x2) ⟨h1, ch6, trivial⟩

theorem f84_ok (F : Nat) (rec : Int → Int → (List (Option Int)) → Option (Int × (List (Option Int)))) (hrec : ∀ (x1 x2 : Int) (x3 : List (Option Int)) (r : Int × (List (Option Int))), rec x1 x2 x3 = some r → f58_C x1 x2 x3 r) (x1 : List (Option Int)) (x2 x3 : Int) (r : Int × (List (Option Int))) (h : f84 F rec x1 x2 x3 = some r) : f84_C x1 x2 x3 r := by
  unfold f84 at h
  obtain ⟨rh1, h1, h⟩ := bind_some h
  have ch1 := hrec x2 (w64 (x3 - 1)) x1 _ h1
  obtain ⟨x4, x5⟩ := rh1
  try dsimp only at h
  obtain ⟨rh2, h2, h⟩ := bind_some h
  have ch2 := hrec (w64 (x2 - x3)) x3 x5 _ h2
  obtain ⟨x6, x7⟩ := rh2
  try dsimp only at h
  obtain rfl := Option.some.inj h
  exact callOK cxOK cxW Try.func84 (by kernel_rfl) (f84_e0 x1 x2 x3 x4 x5 x6 x7) ⟨ch1, ch2, trivial⟩
theorem f83_ok (F : Nat) (rec : Int → Int → (List (Option Int)) → Option (Int × (List (Option Int)))) (hrec : ∀ (x1 x2 : Int) (x3 : List (Option Int)) (r : Int × (List (Option Int))), rec x1 x2 x3 = some r → f58_C x1 x2 x3 r) (x1 x2 : Int) (x3 : List (Option Int)) (x4 x5 : Int) (r : Int × (List (Option Int))) (h : f83 F rec x1 x2 x3 x4 x5 = some r) : f83_C x1 x2 x3 x4 x5 r := by
  unfold f83 at h
  obtain ⟨h1, h⟩ := req_some h
  obtain ⟨h2, h⟩ := req_some h
  obtain ⟨x6, h3, h⟩ := bind_some h
  cases x6 with
  | none =>
    try dsimp only at h
    obtain ⟨rh4, h4, h⟩ := bind_some h
    have ch4 := f84_ok F rec hrec x3 x4 x5 _ h4
    obtain ⟨x8, x9⟩ := rh4
    try dsimp only at h
    obtain ⟨h5, h⟩ := req_some h
    obtain ⟨x10, h6, h⟩ := bind_some h
    cases x10 with
    | none =>
      try dsimp only at h
      cases h
    | some x11 =>
      try dsimp only at h
      obtain rfl := Option.some.inj h
      exact callOK cxOK cxW Try.func83 (by kernel_rfl) (f83_e0 x1 x2 x3 x4 x5 x8 x9 x11) ⟨h1, h2, ⟨none, h3, rfl⟩, rfl, ch4, rfl, h1, h2, h5, h1, h2, ⟨(some x11), h6, rfl⟩, trivial⟩
  | some x7 =>
    try dsimp only at h
    obtain rfl := Option.some.inj h
    exact callOK cxOK cxW Try.func83 (by kernel_rfl) (f83_e1 x1 x2 x3 x4 x5 x7) ⟨h1, h2, ⟨(some x7), h3, rfl⟩, rfl, h1, h2, ⟨(some x7), h3, rfl⟩, trivial⟩
theorem f58_b_ok (F : Nat) (rec : Int → Int → (List (Option Int)) → Option (Int × (List (Option Int)))) (hrec : ∀ (x1 x2 : Int) (x3 : List (Option Int)) (r : Int × (List (Option Int))), rec x1 x2 x3 = some r → f58_C x1 x2 x3 r) (x1 x2 : Int) (x3 : List (Option Int)) (r : Int × (List (Option Int))) (h : f58_b F rec x1 x2 x3 = some r) : f58_C x1 x2 x3 r := by
  unfold f58_b at h
  by_cases h1 : (x1 == 0) = true
  · rw [if_pos h1] at h
    obtain rfl := Option.some.inj h
    exact callOK cxOK cxW Try.func58 (by kernel_rfl) (f58_e0 x1 x2 x3) ⟨h1, trivial⟩
  · rw [if_neg h1] at h
    have h1 := Bool.eq_false_iff.2 h1
    by_cases h2 : ((if x1 < x2 then x1 else x2) == 0) = true
    · rw [if_pos h2] at h
      obtain rfl := Option.some.inj h
      exact callOK cxOK cxW Try.func58 (by kernel_rfl) (f58_e1 x1 x2 x3) ⟨h1, h2, trivial⟩
    · rw [if_neg h2] at h
      have h2 := Bool.eq_false_iff.2 h2
      obtain ⟨rh3, h3, h⟩ := bind_some h
      have ch3 := f83_ok F rec hrec x1 (if x1 < x2 then x1 else x2) x3 x1 (if x1 < x2 then x1 else x2) _ h3
      obtain ⟨x4, x5⟩ := rh3
      try dsimp only at h
      obtain rfl := Option.some.inj h
      exact callOK cxOK cxW Try.func58 (by kernel_rfl) (f58_e2 x1 x2 x3 x4 x5) ⟨h1, h2, ch3, trivial⟩
theorem f58_ok (F : Nat) : ∀ (k : Nat) (x1 x2 : Int) (x3 : List (Option Int)) (r : Int × (List (Option Int))), f58 F k x1 x2 x3 = some r → f58_C x1 x2 x3 r
  | 0, _, _, _, _, h => by cases h
  | k + 1, x1, x2, x3, r, h => f58_b_ok F (f58 F k) (f58_ok F k) x1 x2 x3 r h

theorem f17_ok (F : Nat) (x1 x2 : Int) (r : Int × Int) (h : f17 F x1 x2 = some r) : f17_C x1 x2 r := by
  unfold f17 at h
  obtain ⟨x3, h1, h⟩ := bind_some h
  have ch1 := f57_ok F x1 0 30 _ h1
  try dsimp only at h
  by_cases h2 : x3 = true
  · rw [if_pos h2] at h
    obtain ⟨x4, h3, h⟩ := bind_some h
    have ch3 := f57_ok F x2 0 30 _ h3
    try dsimp only at h
    by_cases h4 : x4 = true
    · rw [if_pos h4] at h
      obtain ⟨rh5, h5, h⟩ := bind_some h
      have ch5 := f58_ok F F x1 x2 (List.replicate 961 none) _ h5
      obtain ⟨x5, x6⟩ := rh5
      try dsimp only at h
      obtain rfl := Option.some.inj h
      exact callOK cxOK cxW Try.func17 (by kernel_rfl) (f17_e0 x1 x2 x3 x4 x5 x6) ⟨ch1, (by rw [h2]; rfl), (by rw [h2]; rfl), ch3, (by rw [h2]; rfl), (by rw [h2]; rfl), (by rw [h4]; rfl), ch5, trivial⟩
    · rw [if_neg h4] at h
      have h4 := Bool.eq_false_iff.2 h4
      obtain rfl := Option.some.inj h
      exact callOK cxOK cxW Try.func17 (by kernel_rfl) (f17_e1 x1 x2 x3 x4) ⟨ch1, (by rw [h2]; rfl), (by rw [h2]; rfl), ch3, (by rw [h2]; rfl), (by rw [h2]; rfl), (by rw [h4]; rfl), trivial⟩
  · rw [if_neg h2] at h
    have h2 := Bool.eq_false_iff.2 h2
    obtain rfl := Option.some.inj h
    exact callOK cxOK cxW Try.func17 (by kernel_rfl) (f17_e2 x1 x2 x3) ⟨ch1, (by rw [h2]; rfl), (by rw [h2]; rfl), (by rw [h2]; rfl), (by rw [h2]; rfl), rfl, trivial⟩

theorem f52_ok (F : Nat) (x1 : List Int) (r : (List Int)) (h : f52 F x1 = some r) : f52_C x1 r := by
  unfold f52 at h
  obtain rfl := Option.some.inj h
  exact callOK cxOK cxW Try.func52 (by kernel_rfl) (f52_e0 x1) trivial

theorem f15_ok (F : Nat) (x1 : Int) (r : Int × Int) (h : f15 F x1 = some r) : f15_C x1 r := by
  unfold f15 at h
  obtain ⟨rh1, h1, h⟩ := bind_some h
  have ch1 := f17_ok F x1 (if 0 > x1 then 0 else x1) _ h1
  obtain ⟨x2, x3⟩ := rh1
  try dsimp only at h
  obtain rfl := Option.some.inj h
  exact callOK cxOK cxW Try.func15 (by kernel_rfl) (f15_e0 x1 x2 x3) ⟨ch1, trivial⟩

theorem f20_p6_1_ok (F : Nat) (x1 x13 : Int) : ∀ (k : Nat) (x18 : Int) (x17 : List Int) (r : (List Int)), f20_p6_1 F x1 x13 k x18 x17 = some r → f20_p6_1_P x1 x13 x18 x17 r
  | 0, _, _, _, h => by cases h
  | k + 1, x18, x17, r, h => by
    unfold f20_p6_1 at h
    by_cases h27 : (decide (x18 ≥ x13)) = true
    · rw [if_pos h27] at h
      obtain ⟨h28, h⟩ := req_some h
      obtain ⟨x19, h29, h⟩ := bind_some h
      try dsimp only at h
      obtain ⟨h30, h⟩ := req_some h
      obtain ⟨x20, h31, h⟩ := bind_some h
      try dsimp only at h
      obtain ⟨h32, h⟩ := req_some h
      exact Lp.again (gRun_ok cxOK (f20_p6_1_e0 x1 x13 x17 x18 x19 x20) ⟨h27, h28, ⟨x19, h29, rfl⟩, h30, ⟨x20, h31, rfl⟩, h28, h32, trivial⟩) (f20_p6_1_ok F x1 x13 k (w64 (x18 - 1)) (List.set x17 (0 + (Int.toNat x18)) (w64 (x19 + x20))) r h)
    · rw [if_neg h27] at h
      have h27 := Bool.eq_false_iff.2 h27
      obtain rfl := Option.some.inj h
      exact Lp.out (gRun_ok cxOK (f20_p6_1_e1 x1 x13 x17 x18) ⟨h27, trivial⟩) (by intro hh; cases hh)
theorem f20_p2_ok (F : Nat) (x1 : Int) : ∀ (k : Nat) (x13 : Int) (x12 : List Int) (r : (List Int)), f20_p2 F x1 k x13 x12 = some r → f20_p2_P x1 x13 x12 r
  | 0, _, _, _, h => by cases h
  | k + 1, x13, x12, r, h => by
    unfold f20_p2 at h
    by_cases h20 : (decide (x13 ≤ x1)) = true
    · rw [if_pos h20] at h
      obtain ⟨x21, h33, h⟩ := bind_some h
      have ch33 := f20_p6_1_ok F x1 x13 F x1 x12 _ h33
      try dsimp only at h
      exact Lp.again (gRun_ok cxOK (f20_p2_e0 x1 x12 x13 x21) ⟨h20, ch33, trivial⟩) (f20_p2_ok F x1 k (w64 (x13 + 1)) x21 r h)
    · rw [if_neg h20] at h
      have h20 := Bool.eq_false_iff.2 h20
      obtain rfl := Option.some.inj h
      exact Lp.out (gRun_ok cxOK (f20_p2_e1 x1 x12 x13) ⟨h20, trivial⟩) (by intro hh; cases hh)
theorem f20_ok (F : Nat) (x1 : Int) (r : Int × Int) (h : f20 F x1 = some r) : f20_C x1 r := by
  unfold f20 at h
  obtain ⟨x2, h1, h⟩ := bind_some h
  have ch1 := f57_ok F x1 0 30 _ h1
  try dsimp only at h
  by_cases h2 : x2 = true
  · rw [if_pos h2] at h
    obtain ⟨h3, h⟩ := req_some h
    obtain ⟨h4, h⟩ := req_some h
    obtain ⟨h5, h⟩ := req_some h
    obtain ⟨x22, h34, h⟩ := bind_some h
    have ch34 := f20_p2_ok F x1 F 1 (List.set (List.replicate (Int.toNat (w64 (x1 + 1))) (0 : Int)) 0 1) _ h34
    try dsimp only at h
    obtain ⟨h35, h⟩ := req_some h
    obtain ⟨x23, h36, h⟩ := bind_some h
    try dsimp only at h
    obtain rfl := Option.some.inj h
    exact callOK cxOK cxW Try.func20 (by kernel_rfl) (f20_e0 x1 x2 x22 x23) ⟨ch1, (by rw [h2]; rfl), h3, h4, h5, ch34, h35, ⟨x23, h36, rfl⟩, trivial⟩
  · rw [if_neg h2] at h
    have h2 := Bool.eq_false_iff.2 h2
    obtain rfl := Option.some.inj h
    exact callOK cxOK cxW Try.func20 (by kernel_rfl) (f20_e1 x1 x2) ⟨ch1, (by rw [h2]; rfl), trivial⟩

theorem f22_p2_ok (F : Nat) (x1 : Int) : ∀ (k : Nat) (x3 : Int) (r : f22_p2_R), f22_p2 F x1 k x3 = some r → f22_p2_P x1 x3 r
  | 0, _, _, h => by cases h
  | k + 1, x3, r, h => by
    unfold f22_p2 at h
    by_cases h3 : (decide (x3 < 30)) = true
    · rw [if_pos h3] at h
      by_cases h4 : (x1 == (w64 (Int.tdiv (w64 (x3 * (w64 ((w64 (3 * x3)) - 1)))) 2))) = true
      · rw [if_pos h4] at h
        obtain rfl := Option.some.inj h
        exact Lp.out (gRun_ok cxOK (f22_p2_e0 x1 x3) ⟨h3, (by decide), h4, h4, h4, h4, h4, h4, rfl, (by decide), trivial⟩) (by intro hh; cases hh)
      · rw [if_neg h4] at h
        have h4 := Bool.eq_false_iff.2 h4
        by_cases h5 : (x1 == (w64 ((w64 (Int.tdiv (w64 (x3 * (w64 ((w64 (3 * x3)) - 1)))) 2)) + x3))) = true
        · rw [if_pos h5] at h
          obtain rfl := Option.some.inj h
          exact Lp.out (gRun_ok cxOK (f22_p2_e1 x1 x3) ⟨h3, (by decide), h4, h4, h4, h4, h4, h4, h5, (by decide), trivial⟩) (by intro hh; cases hh)
        · rw [if_neg h5] at h
          have h5 := Bool.eq_false_iff.2 h5
          exact Lp.again (gRun_ok cxOK (f22_p2_e2 x1 x3) ⟨h3, (by decide), h4, h4, h4, h4, h4, h4, h5, trivial⟩) (f22_p2_ok F x1 k (w64 (x3 + 1)) r h)
    · rw [if_neg h3] at h
      have h3 := Bool.eq_false_iff.2 h3
      obtain rfl := Option.some.inj h
      exact Lp.out (gRun_ok cxOK (f22_p2_e3 x1 x3) ⟨h3, trivial⟩) (by intro hh; cases hh)
theorem f22_ok (F : Nat) (x1 : Int) (r : Int × Int) (h : f22 F x1 = some r) : f22_C x1 r := by
  unfold f22 at h
  obtain ⟨x2, h1, h⟩ := bind_some h
  have ch1 := f57_ok F x1 0 30 _ h1
  try dsimp only at h
  by_cases h2 : x2 = true
  · rw [if_pos h2] at h
    obtain ⟨rh6, h6, h⟩ := bind_some h
    have ch6 := f22_p2_ok F x1 F 0 _ h6
    cases rh6 with
    | c0 x4 =>
      try dsimp only at h
      obtain rfl := Option.some.inj h
      exact callOK cxOK cxW Try.func22 (by kernel_rfl) (f22_e0 x1 x2 x4) ⟨ch1, (by rw [h2]; rfl), ch6, trivial⟩
    | c1 =>
      try dsimp only at h
      obtain rfl := Option.some.inj h
      exact callOK cxOK cxW Try.func22 (by kernel_rfl) (f22_e1 x1 x2) ⟨ch1, (by rw [h2]; rfl), ch6, trivial⟩
  · rw [if_neg h2] at h
    have h2 := Bool.eq_false_iff.2 h2
    obtain rfl := Option.some.inj h
    exact callOK cxOK cxW Try.func22 (by kernel_rfl) (f22_e2 x1 x2) ⟨ch1, (by rw [h2]; rfl), trivial⟩

theorem f72_p1_ok (F : Nat) (x1 : List Int) : ∀ (k : Nat) (x2 x3 : Int) (r : Int), f72_p1 F x1 k x2 x3 = some r → f72_p1_P x1 x2 x3 r
  | 0, _, _, _, h => by cases h
  | k + 1, x2, x3, r, h => by
    unfold f72_p1 at h
    by_cases h1 : (decide (x3 < ((List.length x1 : Nat) : Int))) = true
    · rw [if_pos h1] at h
      obtain ⟨x4, h2, h⟩ := bind_some h
      try dsimp only at h
      exact Lp.again (gRun_ok cxOK (f72_p1_e0 x1 x2 x3 x4) ⟨h1, ⟨(at?_spec h2).1, x4, (at?_spec h2).2, rfl⟩, trivial⟩) (f72_p1_ok F x1 k (w64 (x2 + x4)) (w64 (x3 + 1)) r h)
    · rw [if_neg h1] at h
      have h1 := Bool.eq_false_iff.2 h1
      obtain rfl := Option.some.inj h
      exact Lp.out (gRun_ok cxOK (f72_p1_e1 x1 x2 x3) ⟨h1, trivial⟩) (by intro hh; cases hh)
theorem f72_ok (F : Nat) (x1 : List Int) (r : Int) (h : f72 F x1 = some r) : f72_C x1 r := by
  unfold f72 at h
  obtain ⟨x5, h3, h⟩ := bind_some h
  have ch3 := f72_p1_ok F x1 F 0 0 _ h3
  try dsimp only at h
  obtain rfl := Option.some.inj h
  exact callOK cxOK cxW Try.func72 (by kernel_rfl) (f72_e0 x1 x5) ⟨ch3, trivial⟩

theorem f84_1_ok (F : Nat) (rec : Int → Int → (List (Option Int)) → Option (Int × (List (Option Int)))) (hrec : ∀ (x1 x2 : Int) (x3 : List (Option Int)) (r : Int × (List (Option Int))), rec x1 x2 x3 = some r → f58_1_C x1 x2 x3 r) (x1 : List (Option Int)) (x2 x3 : Int) (r : Int × (List (Option Int))) (h : f84_1 F rec x1 x2 x3 = some r) : f84_1_C x1 x2 x3 r := by
  unfold f84_1 at h
  obtain ⟨rh1, h1, h⟩ := bind_some h
  have ch1 := hrec x2 (w64 (x3 - 1)) x1 _ h1
  obtain ⟨x4, x5⟩ := rh1
  try dsimp only at h
  obtain ⟨rh2, h2, h⟩ := bind_some h
  have ch2 := hrec (w64 (x2 - x3)) x3 x5 _ h2
  obtain ⟨x6, x7⟩ := rh2
  try dsimp only at h
  obtain rfl := Option.some.inj h
  exact callOK cxOK cxW Try.func84 (by kernel_rfl) (f84_1_e0 x1 x2 x3 x4 x5 x6 x7) ⟨ch1, ch2, trivial⟩
theorem f83_1_ok (F : Nat) (rec : Int → Int → (List (Option Int)) → Option (Int × (List (Option Int)))) (hrec : ∀ (x1 x2 : Int) (x3 : List (Option Int)) (r : Int × (List (Option Int))), rec x1 x2 x3 = some r → f58_1_C x1 x2 x3 r) (x1 x2 : Int) (x3 : List (Option Int)) (x4 x5 : Int) (r : Int × (List (Option Int))) (h : f83_1 F rec x1 x2 x3 x4 x5 = some r) : f83_1_C x1 x2 x3 x4 x5 r := by
  unfold f83_1 at h
  obtain ⟨h1, h⟩ := req_some h
  obtain ⟨h2, h⟩ := req_some h
  obtain ⟨x6, h3, h⟩ := bind_some h
  cases x6 with
  | none =>
    try dsimp only at h
    obtain ⟨rh4, h4, h⟩ := bind_some h
    have ch4 := f84_1_ok F rec hrec x3 x4 x5 _ h4
    obtain ⟨x8, x9⟩ := rh4
    try dsimp only at h
    obtain ⟨h5, h⟩ := req_some h
    obtain ⟨x10, h6, h⟩ := bind_some h
    cases x10 with
    | none =>
      try dsimp only at h
      cases h
    | some x11 =>
      try dsimp only at h
      obtain rfl := Option.some.inj h
      exact callOK cxOK cxW Try.func83 (by kernel_rfl) (f83_1_e0 x1 x2 x3 x4 x5 x8 x9 x11) ⟨h1, h2, ⟨none, h3, rfl⟩, rfl, ch4, rfl, h1, h2, h5, h1, h2, ⟨(some x11), h6, rfl⟩, trivial⟩
  | some x7 =>
    try dsimp only at h
    obtain rfl := Option.some.inj h
    exact callOK cxOK cxW Try.func83 (by kernel_rfl) (f83_1_e1 x1 x2 x3 x4 x5 x7) ⟨h1, h2, ⟨(some x7), h3, rfl⟩, rfl, h1, h2, ⟨(some x7), h3, rfl⟩, trivial⟩
theorem f58_1_b_ok (F : Nat) (rec : Int → Int → (List (Option Int)) → Option (Int × (List (Option Int)))) (hrec : ∀ (x1 x2 : Int) (x3 : List (Option Int)) (r : Int × (List (Option Int))), rec x1 x2 x3 = some r → f58_1_C x1 x2 x3 r) (x1 x2 : Int) (x3 : List (Option Int)) (r : Int × (List (Option Int))) (h : f58_1_b F rec x1 x2 x3 = some r) : f58_1_C x1 x2 x3 r := by
  unfold f58_1_b at h
  by_cases h1 : (x1 == 0) = true
  · rw [if_pos h1] at h
    obtain rfl := Option.some.inj h
    exact callOK cxOK cxW Try.func58 (by kernel_rfl) (f58_1_e0 x1 x2 x3) ⟨h1, trivial⟩
  · rw [if_neg h1] at h
    have h1 := Bool.eq_false_iff.2 h1
    by_cases h2 : ((if x1 < x2 then x1 else x2) == 0) = true
    · rw [if_pos h2] at h
      obtain rfl := Option.some.inj h
      exact callOK cxOK cxW Try.func58 (by kernel_rfl) (f58_1_e1 x1 x2 x3) ⟨h1, h2, trivial⟩
    · rw [if_neg h2] at h
      have h2 := Bool.eq_false_iff.2 h2
      obtain ⟨rh3, h3, h⟩ := bind_some h
      have ch3 := f83_1_ok F rec hrec x1 (if x1 < x2 then x1 else x2) x3 x1 (if x1 < x2 then x1 else x2) _ h3
      obtain ⟨x4, x5⟩ := rh3
      try dsimp only at h
      obtain rfl := Option.some.inj h
      exact callOK cxOK cxW Try.func58 (by kernel_rfl) (f58_1_e2 x1 x2 x3 x4 x5) ⟨h1, h2, ch3, trivial⟩
theorem f58_1_ok (F : Nat) : ∀ (k : Nat) (x1 x2 : Int) (x3 : List (Option Int)) (r : Int × (List (Option Int))), f58_1 F k x1 x2 x3 = some r → f58_1_C x1 x2 x3 r
  | 0, _, _, _, _, h => by cases h
  | k + 1, x1, x2, x3, r, h => f58_1_b_ok F (f58_1 F k) (f58_1_ok F k) x1 x2 x3 r h

theorem f36_p2_ok (F : Nat) (x1 : List Int) : ∀ (k : Nat) (x10 x11 x12 : Int) (x13 : List (Option Int)) (r : Int), f36_p2 F x1 k x10 x11 x12 x13 = some r → f36_p2_P x1 x10 x11 x12 x13 r
  | 0, _, _, _, _, _, h => by cases h
  | k + 1, x10, x11, x12, x13, r, h => by
    unfold f36_p2 at h
    by_cases h7 : (decide (x12 < ((List.length x1 : Nat) : Int))) = true
    · rw [if_pos h7] at h
      obtain ⟨x14, h8, h⟩ := bind_some h
      try dsimp only at h
      obtain ⟨rh9, h9, h⟩ := bind_some h
      have ch9 := f58_1_ok F F x10 (w64 (x14 - 1)) x13 _ h9
      obtain ⟨x15, x16⟩ := rh9
      try dsimp only at h
      exact Lp.again (gRun_ok cxOK (f36_p2_e0 x1 x10 x11 x12 x13 x14 x15 x16) ⟨h7, ⟨(at?_spec h8).1, x14, (at?_spec h8).2, rfl⟩, ch9, trivial⟩) (f36_p2_ok F x1 k (w64 (x10 - x14)) (w64 (x11 + x15)) (w64 (x12 + 1)) x16 r h)
    · rw [if_neg h7] at h
      have h7 := Bool.eq_false_iff.2 h7
      obtain rfl := Option.some.inj h
      exact Lp.out (gRun_ok cxOK (f36_p2_e1 x1 x10 x11 x12 x13) ⟨h7, trivial⟩) (by intro hh; cases hh)
theorem f36_ok (F : Nat) (x1 : List Int) (r : Int × Int) (h : f36 F x1 = some r) : f36_C x1 r := by
  unfold f36 at h
  obtain ⟨x2, h1, h⟩ := bind_some h
  have ch1 := f34_ok F x1 _ h1
  try dsimp only at h
  by_cases h2 : (x2 != 0) = true
  · rw [if_pos h2] at h
    obtain rfl := Option.some.inj h
    exact callOK cxOK cxW Try.func36 (by kernel_rfl) (f36_e0 x1 x2) ⟨ch1, h2, trivial⟩
  · rw [if_neg h2] at h
    have h2 := Bool.eq_false_iff.2 h2
    obtain ⟨x3, h3, h⟩ := bind_some h
    have ch3 := f72_ok F x1 _ h3
    try dsimp only at h
    obtain ⟨x17, h10, h⟩ := bind_some h
    have ch10 := f36_p2_ok F x1 F x3 0 0 (List.replicate 961 none) _ h10
    try dsimp only at h
    obtain rfl := Option.some.inj h
    exact callOK cxOK cxW Try.func36 (by kernel_rfl) (f36_e1 x1 x2 x3 x17) ⟨ch1, h2, ch3, ch10, trivial⟩

theorem f84_2_ok (F : Nat) (rec : Int → Int → (List (Option Int)) → Option (Int × (List (Option Int)))) (hrec : ∀ (x1 x2 : Int) (x3 : List (Option Int)) (r : Int × (List (Option Int))), rec x1 x2 x3 = some r → f58_2_C x1 x2 x3 r) (x1 : List (Option Int)) (x2 x3 : Int) (r : Int × (List (Option Int))) (h : f84_2 F rec x1 x2 x3 = some r) : f84_2_C x1 x2 x3 r := by
  unfold f84_2 at h
  obtain ⟨rh1, h1, h⟩ := bind_some h
  have ch1 := hrec x2 (w64 (x3 - 1)) x1 _ h1
  obtain ⟨x4, x5⟩ := rh1
  try dsimp only at h
  obtain ⟨rh2, h2, h⟩ := bind_some h
  have ch2 := hrec (w64 (x2 - x3)) x3 x5 _ h2
  obtain ⟨x6, x7⟩ := rh2
  try dsimp only at h
  obtain rfl := Option.some.inj h
  exact callOK cxOK cxW Try.func84 (by kernel_rfl) (f84_2_e0 x1 x2 x3 x4 x5 x6 x7) ⟨ch1, ch2, trivial⟩
theorem f83_2_ok (F : Nat) (rec : Int → Int → (List (Option Int)) → Option (Int × (List (Option Int)))) (hrec : ∀ (x1 x2 : Int) (x3 : List (Option Int)) (r : Int × (List (Option Int))), rec x1 x2 x3 = some r → f58_2_C x1 x2 x3 r) (x1 x2 : Int) (x3 : List (Option Int)) (x4 x5 : Int) (r : Int × (List (Option Int))) (h : f83_2 F rec x1 x2 x3 x4 x5 = some r) : f83_2_C x1 x2 x3 x4 x5 r := by
  unfold f83_2 at h
  obtain ⟨h1, h⟩ := req_some h
  obtain ⟨h2, h⟩ := req_some h
  obtain ⟨x6, h3, h⟩ := bind_some h
  cases x6 with
  | none =>
    try dsimp only at h
    obtain ⟨rh4, h4, h⟩ := bind_some h
    have ch4 := f84_2_ok F rec hrec x3 x4 x5 _ h4
    obtain ⟨x8, x9⟩ := rh4
    try dsimp only at h
    obtain ⟨h5, h⟩ := req_some h
    obtain ⟨x10, h6, h⟩ := bind_some h
    cases x10 with
    | none =>
      try dsimp only at h
      cases h
    | some x11 =>
      try dsimp only at h
      obtain rfl := Option.some.inj h
      exact callOK cxOK cxW Try.func83 (by kernel_rfl) (f83_2_e0 x1 x2 x3 x4 x5 x8 x9 x11) ⟨h1, h2, ⟨none, h3, rfl⟩, rfl, ch4, rfl, h1, h2, h5, h1, h2, ⟨(some x11), h6, rfl⟩, trivial⟩
  | some x7 =>
    try dsimp only at h
    obtain rfl := Option.some.inj h
    exact callOK cxOK cxW Try.func83 (by kernel_rfl) (f83_2_e1 x1 x2 x3 x4 x5 x7) ⟨h1, h2, ⟨(some x7), h3, rfl⟩, rfl, h1, h2, ⟨(some x7), h3, rfl⟩, trivial⟩
theorem f58_2_b_ok (F : Nat) (rec : Int → Int → (List (Option Int)) → Option (Int × (List (Option Int)))) (hrec : ∀ (x1 x2 : Int) (x3 : List (Option Int)) (r : Int × (List (Option Int))), rec x1 x2 x3 = some r → f58_2_C x1 x2 x3 r) (x1 x2 : Int) (x3 : List (Option Int)) (r : Int × (List (Option Int))) (h : f58_2_b F rec x1 x2 x3 = some r) : f58_2_C x1 x2 x3 r := by
  unfold f58_2_b at h
  by_cases h1 : (x1 == 0) = true
  · rw [if_pos h1] at h
    obtain rfl := Option.some.inj h
    exact callOK cxOK cxW Try.func58 (by kernel_rfl) (f58_2_e0 x1 x2 x3) ⟨h1, trivial⟩
  · rw [if_neg h1] at h
    have h1 := Bool.eq_false_iff.2 h1
    by_cases h2 : ((if x1 < x2 then x1 else x2) == 0) = true
    · rw [if_pos h2] at h
      obtain rfl := Option.some.inj h
      exact callOK cxOK cxW Try.func58 (by kernel_rfl) (f58_2_e1 x1 x2 x3) ⟨h1, h2, trivial⟩
    · rw [if_neg h2] at h
      have h2 := Bool.eq_false_iff.2 h2
      obtain ⟨rh3, h3, h⟩ := bind_some h
      have ch3 := f83_2_ok F rec hrec x1 (if x1 < x2 then x1 else x2) x3 x1 (if x1 < x2 then x1 else x2) _ h3
      obtain ⟨x4, x5⟩ := rh3
      try dsimp only at h
      obtain rfl := Option.some.inj h
      exact callOK cxOK cxW Try.func58 (by kernel_rfl) (f58_2_e2 x1 x2 x3 x4 x5) ⟨h1, h2, ch3, trivial⟩
theorem f58_2_ok (F : Nat) : ∀ (k : Nat) (x1 x2 : Int) (x3 : List (Option Int)) (r : Int × (List (Option Int))), f58_2 F k x1 x2 x3 = some r → f58_2_C x1 x2 x3 r
  | 0, _, _, _, _, h => by cases h
  | k + 1, x1, x2, x3, r, h => f58_2_b_ok F (f58_2 F k) (f58_2_ok F k) x1 x2 x3 r h

theorem f38_p8_2_ok (F : Nat) (x36 x37 : Int) (x35 : List Int) : ∀ (k : Nat) (x42 : Int) (x43 : List (Option Int)) (r : Int × (List (Option Int))), f38_p8_2 F x36 x37 x35 k x42 x43 = some r → f38_p8_2_P x36 x37 x35 x42 x43 r
  | 0, _, _, _, h => by cases h
  | k + 1, x42, x43, r, h => by
    unfold f38_p8_2 at h
    obtain ⟨rh24, h24, h⟩ := bind_some h
    have ch24 := f58_2_ok F F x36 x42 x43 _ h24
    obtain ⟨x44, x45⟩ := rh24
    try dsimp only at h
    by_cases h25 : (decide (x44 ≤ x37)) = true
    · rw [if_pos h25] at h
      exact Lp.again (gRun_ok cxOK (f38_p8_2_e0 x35 x36 x37 x42 x43 x44 x45) ⟨ch24, h25, trivial⟩) (f38_p8_2_ok F x36 x37 x35 k (w64 (x42 + 1)) x45 r h)
    · rw [if_neg h25] at h
      have h25 := Bool.eq_false_iff.2 h25
      obtain rfl := Option.some.inj h
      exact Lp.out (gRun_ok cxOK (f38_p8_2_e1 x35 x36 x37 x42 x43 x44 x45) ⟨ch24, h25, trivial⟩) (by intro hh; cases hh)
theorem f38_p4_ok (F : Nat) : ∀ (k : Nat) (x36 x37 : Int) (x38 : List (Option Int)) (x35 : List Int) (r : (List Int)), f38_p4 F k x36 x37 x38 x35 = some r → f38_p4_P x36 x37 x38 x35 r
  | 0, _, _, _, _, _, h => by cases h
  | k + 1, x36, x37, x38, x35, r, h => by
    unfold f38_p4 at h
    by_cases h21 : (decide (x36 > 0)) = true
    · rw [if_pos h21] at h
      obtain ⟨rh26, h26, h⟩ := bind_some h
      have ch26 := f38_p8_2_ok F x36 x37 x35 F 1 x38 _ h26
      obtain ⟨x46, x47⟩ := rh26
      try dsimp only at h
      obtain ⟨rh27, h27, h⟩ := bind_some h
      have ch27 := f58_2_ok F F x36 (w64 (x46 - 1)) x47 _ h27
      obtain ⟨x48, x49⟩ := rh27
      try dsimp only at h
      obtain ⟨h28, h⟩ := req_some h
      exact Lp.again (gRun_ok cxOK (f38_p4_e0 x35 x36 x37 x38 x46 x47 x48 x49) ⟨h21, ch26, ch27, h28, rfl, trivial⟩) (f38_p4_ok F k (w64 (x36 - x46)) (w64 (x37 - x48)) x49 (x35 ++ ([x46] : List Int)) r h)
    · rw [if_neg h21] at h
      have h21 := Bool.eq_false_iff.2 h21
      obtain rfl := Option.some.inj h
      exact Lp.out (gRun_ok cxOK (f38_p4_e1 x35 x36 x37 x38) ⟨h21, trivial⟩) (by intro hh; cases hh)
theorem f38_ok (F : Nat) (x1 x2 : Int) (r : (List Int) × Int) (h : f38 F x1 x2 = some r) : f38_C x1 x2 r := by
  unfold f38 at h
  obtain ⟨rh1, h1, h⟩ := bind_some h
  have ch1 := f15_ok F x1 _ h1
  obtain ⟨x3, x4⟩ := rh1
  try dsimp only at h
  by_cases h2 : (x4 != 0) = true
  · rw [if_pos h2] at h
    obtain rfl := Option.some.inj h
    exact callOK cxOK cxW Try.func38 (by kernel_rfl) (f38_e0 x1 x2 x3 x4) ⟨ch1, h2, trivial⟩
  · rw [if_neg h2] at h
    have h2 := Bool.eq_false_iff.2 h2
    obtain ⟨x5, h3, h⟩ := bind_some h
    have ch3 := f57_ok F x2 0 (w64 (x3 - 1)) _ h3
    try dsimp only at h
    by_cases h4 : x5 = true
    · rw [if_pos h4] at h
      obtain ⟨x50, h29, h⟩ := bind_some h
      have ch29 := f38_p4_ok F F x1 x2 (List.replicate 961 none) ([] : List Int) _ h29
      try dsimp only at h
      obtain rfl := Option.some.inj h
      exact callOK cxOK cxW Try.func38 (by kernel_rfl) (f38_e1 x1 x2 x3 x4 x5 x50) ⟨ch1, h2, ch3, (by rw [h4]; rfl), ch29, (Nat.le_of_eq (Nat.zero_add _)), trivial⟩
    · rw [if_neg h4] at h
      have h4 := Bool.eq_false_iff.2 h4
      obtain rfl := Option.some.inj h
      exact callOK cxOK cxW Try.func38 (by kernel_rfl) (f38_e2 x1 x2 x3 x4 x5) ⟨ch1, h2, ch3, (by rw [h4]; rfl), trivial⟩

theorem f64_ok (F : Nat) (x1 : Int) (r : Bool) (h : f64 F x1 = some r) : f64_C x1 r := by
  unfold f64 at h
  obtain rfl := Option.some.inj h
  exact callOK cxOK cxW Try.func64 (by kernel_rfl) (f64_e0 x1) ⟨(by decide), trivial⟩

theorem f85_p1_ok (F : Nat) (x1 : List Int) : ∀ (k : Nat) (x2 : Int) (r : f85_p1_R), f85_p1 F x1 k x2 = some r → f85_p1_P x1 x2 r
  | 0, _, _, h => by cases h
  | k + 1, x2, r, h => by
    unfold f85_p1 at h
    by_cases h1 : (decide (x2 < ((List.length x1 : Nat) : Int))) = true
    · rw [if_pos h1] at h
      obtain ⟨x3, h2, h⟩ := bind_some h
      try dsimp only at h
      obtain ⟨x4, h3, h⟩ := bind_some h
      have ch3 := f64_ok F x3 _ h3
      try dsimp only at h
      by_cases h4 : x4 = true
      · rw [if_pos h4] at h
        obtain rfl := Option.some.inj h
        exact Lp.out (gRun_ok cxOK (f85_p1_e0 x1 x2 x3 x4) ⟨h1, ⟨(at?_spec h2).1, x3, (at?_spec h2).2, rfl⟩, ch3, h4, trivial⟩) (by intro hh; cases hh)
      · rw [if_neg h4] at h
        have h4 := Bool.eq_false_iff.2 h4
        exact Lp.again (gRun_ok cxOK (f85_p1_e1 x1 x2 x3 x4) ⟨h1, ⟨(at?_spec h2).1, x3, (at?_spec h2).2, rfl⟩, ch3, h4, trivial⟩) (f85_p1_ok F x1 k (w64 (x2 + 1)) r h)
    · rw [if_neg h1] at h
      have h1 := Bool.eq_false_iff.2 h1
      obtain rfl := Option.some.inj h
      exact Lp.out (gRun_ok cxOK (f85_p1_e2 x1 x2) ⟨h1, trivial⟩) (by intro hh; cases hh)
theorem f85_ok (F : Nat) (x1 : List Int) (r : Int) (h : f85 F x1 = some r) : f85_C x1 r := by
  unfold f85 at h
  obtain ⟨rh5, h5, h⟩ := bind_some h
  have ch5 := f85_p1_ok F x1 F 0 _ h5
  cases rh5 with
  | c0 x5 =>
    try dsimp only at h
    obtain rfl := Option.some.inj h
    exact callOK cxOK cxW Try.func85 (by kernel_rfl) (f85_e0 x1 x5) ⟨ch5, trivial⟩
  | c1 =>
    try dsimp only at h
    obtain rfl := Option.some.inj h
    exact callOK cxOK cxW Try.func85 (by kernel_rfl) (f85_e1 x1) ⟨ch5, trivial⟩

theorem f63_ok (F : Nat) (x1 : List Int) (r : Bool) (h : f63 F x1 = some r) : f63_C x1 r := by
  unfold f63 at h
  obtain ⟨x2, h1, h⟩ := bind_some h
  have ch1 := f85_ok F x1 _ h1
  try dsimp only at h
  obtain rfl := Option.some.inj h
  exact callOK cxOK cxW Try.func63 (by kernel_rfl) (f63_e0 x1 x2) ⟨ch1, trivial⟩

theorem f87_ok (F : Nat) (x1 x2 : Int) (r : Int) (h : f87 F x1 x2 = some r) : f87_C x1 x2 r := by
  unfold f87 at h
  obtain rfl := Option.some.inj h
  exact callOK cxOK cxW Try.func87 (by kernel_rfl) (f87_e0 x1 x2) trivial

theorem f107_p5_2_ok (F : Nat) (x3 : List Int) (x1 x2 x38 : Int) : ∀ (k : Nat) (x44 : Int) (x43 : List Int) (r : (List Int)), f107_p5_2 F x3 x1 x2 x38 k x44 x43 = some r → f107_p5_2_P x3 x1 x2 x38 x44 x43 r
  | 0, _, _, _, h => by cases h
  | k + 1, x44, x43, r, h => by
    unfold f107_p5_2 at h
    by_cases h69 : (decide (x44 > x1)) = true
    · rw [if_pos h69] at h
      obtain ⟨h70, h⟩ := req_some h
      obtain ⟨x45, h71, h⟩ := bind_some h
      try dsimp only at h
      obtain ⟨h72, h⟩ := req_some h
      obtain ⟨x46, h73, h⟩ := bind_some h
      try dsimp only at h
      obtain ⟨x47, h74, h⟩ := bind_some h
      have ch74 := f87_ok F x45 x46 _ h74
      try dsimp only at h
      by_cases h75 : (decide (x47 < 0)) = true
      · rw [if_pos h75] at h
        obtain ⟨h76, h⟩ := req_some h
        obtain ⟨h77, h⟩ := req_some h
        exact Lp.again (gRun_ok cxOK (f107_p5_2_e0 x1 x2 x3 x38 x43 x44 x45 x46 x47) ⟨h69, h69, h69, h69, h70, h69, ⟨x45, h71, rfl⟩, h69, h69, h69, h69, h72, h69, ⟨x46, h73, rfl⟩, h69, ch74, h69, h69, h75, h72, ⟨x46, h73, rfl⟩, h70, ⟨x45, h71, rfl⟩, h70, h76, h72, h77, trivial⟩) (f107_p5_2_ok F x3 x1 x2 x38 k (w64 (x44 - 1)) (List.set (List.set x43 (0 + (Int.toNat x44)) x46) (0 + (Int.toNat (w64 (x44 - 1)))) x45) r h)
      · rw [if_neg h75] at h
        have h75 := Bool.eq_false_iff.2 h75
        obtain rfl := Option.some.inj h
        exact Lp.out (gRun_ok cxOK (f107_p5_2_e1 x1 x2 x3 x38 x43 x44 x45 x46 x47) ⟨h69, h69, h69, h69, h70, h69, ⟨x45, h71, rfl⟩, h69, h69, h69, h69, h72, h69, ⟨x46, h73, rfl⟩, h69, ch74, h69, h69, h75, trivial⟩) (by intro hh; cases hh)
    · rw [if_neg h69] at h
      have h69 := Bool.eq_false_iff.2 h69
      obtain rfl := Option.some.inj h
      exact Lp.out (gRun_ok cxOK (f107_p5_2_e2 x1 x2 x3 x38 x43 x44) ⟨h69, h69, h69, h69, h69, h69, h69, h69, h69, h69, h69, h69, h69, rfl, trivial⟩) (by intro hh; cases hh)
theorem f107_p1_ok (F : Nat) (x3 : List Int) (x1 x2 : Int) : ∀ (k : Nat) (x38 : Int) (x37 : List Int) (r : (List Int)), f107_p1 F x3 x1 x2 k x38 x37 = some r → f107_p1_P x3 x1 x2 x38 x37 r
  | 0, _, _, _, h => by cases h
  | k + 1, x38, x37, r, h => by
    unfold f107_p1 at h
    by_cases h59 : (decide (x38 < x2)) = true
    · rw [if_pos h59] at h
      obtain ⟨x48, h78, h⟩ := bind_some h
      have ch78 := f107_p5_2_ok F x3 x1 x2 x38 F x38 x37 _ h78
      try dsimp only at h
      exact Lp.again (gRun_ok cxOK (f107_p1_e0 x1 x2 x3 x37 x38 x48) ⟨h59, ch78, trivial⟩) (f107_p1_ok F x3 x1 x2 k (w64 (x38 + 1)) x48 r h)
    · rw [if_neg h59] at h
      have h59 := Bool.eq_false_iff.2 h59
      obtain rfl := Option.some.inj h
      exact Lp.out (gRun_ok cxOK (f107_p1_e1 x1 x2 x3 x37 x38) ⟨h59, trivial⟩) (by intro hh; cases hh)
theorem f107_ok (F : Nat) (x1 x2 : Int) (x3 : List Int) (r : (List Int)) (h : f107 F x1 x2 x3 = some r) : f107_C x1 x2 x3 r := by
  unfold f107 at h
  obtain ⟨x49, h79, h⟩ := bind_some h
  have ch79 := f107_p1_ok F x3 x1 x2 F (w64 (x1 + 1)) x3 _ h79
  try dsimp only at h
  obtain rfl := Option.some.inj h
  exact callOK cxOK cxW Try.func107 (by kernel_rfl) (f107_e0 x1 x2 x3 x49) ⟨ch79, trivial⟩

theorem f93_p5_1_ok (F : Nat) (x11 : List Int) (x12 x13 x14 : Int) (x15 x16 : Bool) (r : Unit) (h : f93_p5_1 F x11 x12 x13 x14 x15 x16 = some r) : f93_p5_1_P x11 x12 x13 x14 x15 x16 r := by
  unfold f93_p5_1 at h
  by_cases h9 : x15 = true
  · rw [if_pos h9] at h
    obtain rfl := Option.some.inj h
    exact gRun_ok cxOK (f93_p5_1_e0 x11 x12 x13 x14 x15 x16) ⟨(by rw [h9]; rfl), trivial⟩
  · rw [if_neg h9] at h
    have h9 := Bool.eq_false_iff.2 h9
    cases h
theorem f93_p1_ok (F : Nat) : ∀ (k : Nat) (x12 x13 x14 : Int) (x15 x16 : Bool) (x11 : List Int) (r : (List Int)), f93_p1 F k x12 x13 x14 x15 x16 x11 = some r → f93_p1_P x12 x13 x14 x15 x16 x11 r
  | 0, _, _, _, _, _, _, _, h => by cases h
  | k + 1, x12, x13, x14, x15, x16, x11, r, h => by
    unfold f93_p1 at h
    dsimp only at h
    by_cases h6 : (decide ((w64 (x13 - x12)) ≤ 12)) = true
    · rw [if_pos h6] at h
      obtain ⟨x17, h7, h⟩ := bind_some h
      have ch7 := f107_ok F x12 x13 x11 _ h7
      try dsimp only at h
      obtain rfl := Option.some.inj h
      exact Lp.out (gRun_ok cxOK (f93_p1_e0 x11 x12 x13 x14 x15 x16 x17) ⟨h6, ch7, trivial⟩) (by intro hh; cases hh)
    · rw [if_neg h6] at h
      have h6 := Bool.eq_false_iff.2 h6
      by_cases h8 : (x14 == 0) = true
      · rw [if_pos h8] at h
        cases h
      · rw [if_neg h8] at h
        have h8 := Bool.eq_false_iff.2 h8
        obtain ⟨rh10, h10, h⟩ := bind_some h
        have ch10 := f93_p5_1_ok F x11 x12 x13 x14 x15 x16 _ h10
        try dsimp only at h
        cases h
theorem f93_ok (F : Nat) (x1 x2 x3 : Int) (x4 : List Int) (r : (List Int)) (h : f93 F x1 x2 x3 x4 = some r) : f93_C x1 x2 x3 x4 r := by
  unfold f93 at h
  obtain ⟨x18, h11, h⟩ := bind_some h
  have ch11 := f93_p1_ok F F x1 x2 x3 true true x4 _ h11
  try dsimp only at h
  obtain rfl := Option.some.inj h
  exact callOK cxOK cxW Try.func93 (by kernel_rfl) (f93_e0 x1 x2 x3 x4 x18) ⟨ch11, trivial⟩

theorem f86_ok (F : Nat) (x1 : List Int) (r : (List Int)) (h : f86 F x1 = some r) : f86_C x1 r := by
  unfold f86 at h
  obtain ⟨x2, h1, h⟩ := bind_some h
  have ch1 := f92_ok F (IntKind.wrap .u64 ((((List.length x1) : Nat) : Int))) _ h1
  try dsimp only at h
  obtain ⟨x3, h2, h⟩ := bind_some h
  have ch2 := f93_ok F 0 (((List.length x1) : Nat) : Int) x2 x1 _ h2
  try dsimp only at h
  obtain rfl := Option.some.inj h
  exact callOK cxOK cxW Try.func86 (by kernel_rfl) (f86_e0 x1 x2 x3) ⟨ch1, ch2, trivial⟩

theorem f65_ok (F : Nat) (x1 : List Int) (r : Nat × (List Int)) (h : f65 F x1 = some r) : f65_C x1 r := by
  unfold f65 at h
  obtain ⟨x2, h1, h⟩ := bind_some h
  have ch1 := f86_ok F x1 _ h1
  try dsimp only at h
  obtain rfl := Option.some.inj h
  exact callOK cxOK cxW Try.func65 (by kernel_rfl) (f65_e0 x1 x2) ⟨ch1, trivial⟩

theorem f27_p4_ok (F : Nat) (x1 : List Int) : ∀ (k : Nat) (x7 : Int) (x8 : List Int) (r : (List Int)), f27_p4 F x1 k x7 x8 = some r → f27_p4_P x1 x7 x8 r
  | 0, _, _, _, h => by cases h
  | k + 1, x7, x8, r, h => by
    unfold f27_p4 at h
    by_cases h10 : (decide (x7 < ((List.length x1 : Nat) : Int))) = true
    · rw [if_pos h10] at h
      obtain ⟨x9, h11, h⟩ := bind_some h
      try dsimp only at h
      obtain ⟨h12, h⟩ := req_some h
      obtain ⟨x10, h13, h⟩ := bind_some h
      try dsimp only at h
      obtain ⟨h14, h⟩ := req_some h
      exact Lp.again (gRun_ok cxOK (f27_p4_e0 x1 x7 x8 x9 x10) ⟨h10, ⟨(at?_spec h11).1, x9, (at?_spec h11).2, rfl⟩, h12, ⟨x10, h13, rfl⟩, h12, h14, trivial⟩) (f27_p4_ok F x1 k (w64 (x7 + 1)) (List.set x8 (0 + ((Int.toNat x9) * 1)) (w64 (x10 + 1))) r h)
    · rw [if_neg h10] at h
      have h10 := Bool.eq_false_iff.2 h10
      obtain rfl := Option.some.inj h
      exact Lp.out (gRun_ok cxOK (f27_p4_e1 x1 x7 x8) ⟨h10, trivial⟩) (by intro hh; cases hh)
theorem f27_p15_2_ok (F : Nat) (x22 : List Int) (x21 : Int) (x11 : List Int) (x23 : Int) (r : (List Int)) (h : f27_p15_2 F x22 x21 x11 x23 = some r) : f27_p15_2_P x22 x21 x11 x23 r := by
  unfold f27_p15_2 at h
  by_cases h30 : ((iAnd .i64 ((x11)[(Int.toNat x21)]?.getD 0) x23) != 0) = true
  · rw [if_pos h30] at h
    obtain ⟨h31, h⟩ := req_some h
    obtain rfl := Option.some.inj h
    exact gRun_ok cxOK (f27_p15_2_e0 x11 x21 x22 x23) ⟨h30, h31, rfl, trivial⟩
  · rw [if_neg h30] at h
    have h30 := Bool.eq_false_iff.2 h30
    obtain rfl := Option.some.inj h
    exact gRun_ok cxOK (f27_p15_2_e1 x11 x21 x22 x23) ⟨h30, trivial⟩
theorem f27_p12_1_ok (F : Nat) (x21 : Int) (x11 : List Int) : ∀ (k : Nat) (x23 : Int) (x22 : List Int) (r : (List Int)), f27_p12_1 F x21 x11 k x23 x22 = some r → f27_p12_1_P x21 x11 x23 x22 r
  | 0, _, _, _, h => by cases h
  | k + 1, x23, x22, r, h => by
    unfold f27_p12_1 at h
    by_cases h29 : (decide (x23 ≤ ((x11)[(Int.toNat x21)]?.getD 0))) = true
    · rw [if_pos h29] at h
      obtain ⟨x24, h32, h⟩ := bind_some h
      have ch32 := f27_p15_2_ok F x22 x21 x11 x23 _ h32
      try dsimp only at h
      exact Lp.again (gRun_ok cxOK (f27_p12_1_e0 x11 x21 x22 x23 x24) ⟨h29, ch32, trivial⟩) (f27_p12_1_ok F x21 x11 k (w64 (x23 * 2)) x24 r h)
    · rw [if_neg h29] at h
      have h29 := Bool.eq_false_iff.2 h29
      obtain rfl := Option.some.inj h
      exact Lp.out (gRun_ok cxOK (f27_p12_1_e1 x11 x21 x22 x23) ⟨h29, trivial⟩) (by intro hh; cases hh)
theorem f27_p8_ok (F : Nat) (x11 : List Int) : ∀ (k : Nat) (x21 : Int) (x20 : List Int) (r : (List Int)), f27_p8 F x11 k x21 x20 = some r → f27_p8_P x11 x21 x20 r
  | 0, _, _, _, h => by cases h
  | k + 1, x21, x20, r, h => by
    unfold f27_p8 at h
    by_cases h27 : (decide (x21 < 31)) = true
    · rw [if_pos h27] at h
      obtain ⟨h28, h⟩ := req_some h
      obtain ⟨x25, h33, h⟩ := bind_some h
      have ch33 := f27_p12_1_ok F x21 x11 F 1 x20 _ h33
      try dsimp only at h
      exact Lp.again (gRun_ok cxOK (f27_p8_e0 x11 x20 x21 x25) ⟨h27, h28, ch33, trivial⟩) (f27_p8_ok F x11 k (w64 (x21 + 1)) x25 r h)
    · rw [if_neg h27] at h
      have h27 := Bool.eq_false_iff.2 h27
      obtain rfl := Option.some.inj h
      exact Lp.out (gRun_ok cxOK (f27_p8_e1 x11 x20 x21) ⟨h27, trivial⟩) (by intro hh; cases hh)
theorem f27_ok (F : Nat) (x1 : List Int) (r : (List Int) × Int) (h : f27 F x1 = some r) : f27_C x1 r := by
  unfold f27 at h
  obtain ⟨x2, h1, h⟩ := bind_some h
  have ch1 := f34_ok F x1 _ h1
  try dsimp only at h
  by_cases h2 : (x2 != 0) = true
  · rw [if_pos h2] at h
    obtain rfl := Option.some.inj h
    exact callOK cxOK cxW Try.func27 (by kernel_rfl) (f27_e0 x1 x2) ⟨ch1, h2, trivial⟩
  · rw [if_neg h2] at h
    have h2 := Bool.eq_false_iff.2 h2
    obtain ⟨x3, h3, h⟩ := bind_some h
    have ch3 := f63_ok F x1 _ h3
    try dsimp only at h
    by_cases h4 : x3 = true
    · rw [if_pos h4] at h
      obtain rfl := Option.some.inj h
      exact callOK cxOK cxW Try.func27 (by kernel_rfl) (f27_e1 x1 x2 x3) ⟨ch1, h2, ch3, h4, trivial⟩
    · rw [if_neg h4] at h
      have h4 := Bool.eq_false_iff.2 h4
      obtain ⟨x11, h15, h⟩ := bind_some h
      have ch15 := f27_p4_ok F x1 F 0 (List.replicate 31 0) _ h15
      try dsimp only at h
      obtain ⟨x26, h34, h⟩ := bind_some h
      have ch34 := f27_p8_ok F x11 F 0 ([] : List Int) _ h34
      try dsimp only at h
      obtain ⟨rh35, h35, h⟩ := bind_some h
      have ch35 := f65_ok F x26 _ h35
      obtain ⟨x27, x28⟩ := rh35
      try dsimp only at h
      obtain ⟨h36, h⟩ := req_some h
      obtain rfl := Option.some.inj h
      exact callOK cxOK cxW Try.func27 (by kernel_rfl) (f27_e2 x1 x2 x3 x11 x26 x27 x28) ⟨ch1, h2, ch3, h4, ch15, ch34, ch35, h36, trivial⟩

theorem f70_ok (F : Nat) (x1 : Option (List Int)) (r : (List Int)) (h : f70 F x1 = some r) : f70_C x1 r := by
  unfold f70 at h
  by_cases h1 : (Option.isNone x1) = true
  · rw [if_pos h1] at h
    obtain rfl := Option.some.inj h
    exact callOK cxOK cxW Try.func70 (by kernel_rfl) (f70_e0 x1) ⟨h1, trivial⟩
  · rw [if_neg h1] at h
    have h1 := Bool.eq_false_iff.2 h1
    obtain ⟨h2, h⟩ := req_some h
    obtain rfl := Option.some.inj h
    exact callOK cxOK cxW Try.func70 (by kernel_rfl) (f70_e1 x1) ⟨h1, h2, (.inl rfl), trivial⟩

theorem f70m_ok (F : Nat) (x1 : List Int) (r : (List Int)) (h : f70m F x1 = some r) : f70m_C x1 r :=
  CallOK.ofOpt fun o ho => f70_ok F o r (nilm_some h o ho)

theorem f89_p10_5_ok (F : Nat) (x28 : List Int) (x46 x29 : Int) (x47 x48 x49 : Int) (x45 : List Int) (r : Int × (List Int)) (h : f89_p10_5 F x28 x46 x29 x47 x48 x49 x45 = some r) : f89_p10_5_P x28 x46 x29 x47 x48 x49 x45 r := by
  unfold f89_p10_5 at h
  by_cases h80 : (x48 != x49) = true
  · rw [if_pos h80] at h
    obtain ⟨h81, h⟩ := req_some h
    obtain ⟨x50, h82, h⟩ := bind_some h
    try dsimp only at h
    obtain ⟨h83, h⟩ := req_some h
    obtain ⟨h84, h⟩ := req_some h
    obtain rfl := Option.some.inj h
    exact gRun_ok cxOK (f89_p10_5_e0 x28 x29 x45 x46 x47 x48 x49 x50) ⟨h80, h81, ⟨x50, h82, rfl⟩, h83, h84, trivial⟩
  · rw [if_neg h80] at h
    have h80 := Bool.eq_false_iff.2 h80
    obtain rfl := Option.some.inj h
    exact gRun_ok cxOK (f89_p10_5_e1 x28 x29 x45 x46 x47 x48 x49) ⟨h80, trivial⟩
theorem f89_p7_1_ok (F : Nat) (x28 : List Int) (x29 : Int) : ∀ (k : Nat) (x46 x47 : Int) (x45 : List Int) (r : Int × (List Int)), f89_p7_1 F x28 x29 k x46 x47 x45 = some r → f89_p7_1_P x28 x29 x46 x47 x45 r
  | 0, _, _, _, _, h => by cases h
  | k + 1, x46, x47, x45, r, h => by
    unfold f89_p7_1 at h
    by_cases h75 : (decide (x47 < ((((List.length x28) - (Int.toNat x29)) : Nat) : Int))) = true
    · rw [if_pos h75] at h
      obtain ⟨h76, h⟩ := req_some h
      obtain ⟨x48, h77, h⟩ := bind_some h
      try dsimp only at h
      obtain ⟨h78, h⟩ := req_some h
      obtain ⟨x49, h79, h⟩ := bind_some h
      try dsimp only at h
      obtain ⟨rh85, h85, h⟩ := bind_some h
      have ch85 := f89_p10_5_ok F x28 x46 x29 x47 x48 x49 x45 _ h85
      obtain ⟨x51, x52⟩ := rh85
      try dsimp only at h
      exact Lp.again (gRun_ok cxOK (f89_p7_1_e0 x28 x29 x45 x46 x47 x48 x49 x51 x52) ⟨h75, h76, ⟨x48, h77, rfl⟩, h78, ⟨x49, h79, rfl⟩, ch85, trivial⟩) (f89_p7_1_ok F x28 x29 k x51 (w64 (x47 + 1)) x52 r h)
    · rw [if_neg h75] at h
      have h75 := Bool.eq_false_iff.2 h75
      obtain rfl := Option.some.inj h
      exact Lp.out (gRun_ok cxOK (f89_p7_1_e1 x28 x29 x45 x46 x47) ⟨h75, trivial⟩) (by intro hh; cases hh)
theorem f89_p2_ok (F : Nat) : ∀ (k : Nat) (x29 : Int) (x28 : List Int) (r : f89_p2_R), f89_p2 F k x29 x28 = some r → f89_p2_P x29 x28 r
  | 0, _, _, _, h => by cases h
  | k + 1, x29, x28, r, h => by
    unfold f89_p2 at h
    by_cases h46 : (decide (x29 < (((List.length x28) : Nat) : Int))) = true
    · rw [if_pos h46] at h
      obtain ⟨h47, h⟩ := req_some h
      obtain ⟨x30, h48, h⟩ := bind_some h
      try dsimp only at h
      obtain ⟨h49, h⟩ := req_some h
      obtain ⟨x31, h50, h⟩ := bind_some h
      try dsimp only at h
      by_cases h51 : (x30 == x31) = true
      · rw [if_pos h51] at h
        obtain ⟨h52, h⟩ := req_some h
        obtain ⟨rh86, h86, h⟩ := bind_some h
        have ch86 := f89_p7_1_ok F x28 x29 F x29 1 x28 _ h86
        obtain ⟨x53, x54⟩ := rh86
        try dsimp only at h
        obtain ⟨h87, h⟩ := req_some h
        obtain ⟨h88, h⟩ := req_some h
        obtain ⟨h89, h⟩ := req_some h
        obtain rfl := Option.some.inj h
        exact Lp.out (gRun_ok cxOK (f89_p2_e0 x28 x29 x30 x31 x53 x54) ⟨h46, h47, ⟨x30, h48, rfl⟩, h49, ⟨x31, h50, rfl⟩, h51, h52, ch86, h87, h88, h89, trivial⟩) (by intro hh; cases hh)
      · rw [if_neg h51] at h
        have h51 := Bool.eq_false_iff.2 h51
        exact Lp.again (gRun_ok cxOK (f89_p2_e1 x28 x29 x30 x31) ⟨h46, h47, ⟨x30, h48, rfl⟩, h49, ⟨x31, h50, rfl⟩, h51, trivial⟩) (f89_p2_ok F k (w64 (x29 + 1)) x28 r h)
    · rw [if_neg h46] at h
      have h46 := Bool.eq_false_iff.2 h46
      obtain rfl := Option.some.inj h
      exact Lp.out (gRun_ok cxOK (f89_p2_e2 x28 x29) ⟨h46, trivial⟩) (by intro hh; cases hh)
theorem f89_ok (F : Nat) (x1 : List Int) (r : f89_R) (h : f89 F x1 = some r) : f89_C x1 r := by
  unfold f89 at h
  by_cases h1 : (decide ((((List.length x1) : Nat) : Int) < 2)) = true
  · rw [if_pos h1] at h
    obtain rfl := Option.some.inj h
    exact callOK cxOK cxW Try.func89 (by kernel_rfl) (f89_e0 x1) ⟨h1, trivial⟩
  · rw [if_neg h1] at h
    have h1 := Bool.eq_false_iff.2 h1
    obtain ⟨rh90, h90, h⟩ := bind_some h
    have ch90 := f89_p2_ok F F 1 x1 _ h90
    cases rh90 with
    | c0 x55 x56 =>
      try dsimp only at h
      obtain rfl := Option.some.inj h
      exact callOK cxOK cxW Try.func89 (by kernel_rfl) (f89_e1 x1 x55 x56) ⟨h1, ch90, trivial⟩
    | c1 x57 =>
      try dsimp only at h
      obtain rfl := Option.some.inj h
      exact callOK cxOK cxW Try.func89 (by kernel_rfl) (f89_e2 x1 x57) ⟨h1, ch90, trivial⟩

theorem f68_ok (F : Nat) (x1 : List Int) (r : Bool) (h : f68 F x1 = some r) : f68_C x1 r := by
  unfold f68 at h
  obtain ⟨x2, h1, h⟩ := bind_some h
  have ch1 := f70m_ok F x1 _ h1
  try dsimp only at h
  obtain ⟨rh2, h2, h⟩ := bind_some h
  have ch2 := f89_ok F x2 _ h2
  cases rh2 with
  | c0 x3 =>
    try dsimp only at h
    obtain rfl := Option.some.inj h
    exact callOK cxOK cxW Try.func68 (by kernel_rfl) (f68_e0 x1 x2 x3) ⟨ch1, ch2, trivial⟩
  | c1 x4 x5 =>
    try dsimp only at h
    obtain rfl := Option.some.inj h
    exact callOK cxOK cxW Try.func68 (by kernel_rfl) (f68_e1 x1 x2 x4 x5) ⟨ch1, ch2, trivial⟩

theorem f107_1_p5_2_ok (F : Nat) (x3 : List Int) (x1 x2 x38 : Int) : ∀ (k : Nat) (x44 : Int) (x43 : List Int) (r : (List Int)), f107_1_p5_2 F x3 x1 x2 x38 k x44 x43 = some r → f107_1_p5_2_P x3 x1 x2 x38 x44 x43 r
  | 0, _, _, _, h => by cases h
  | k + 1, x44, x43, r, h => by
    unfold f107_1_p5_2 at h
    by_cases h69 : (decide (x44 > x1)) = true
    · rw [if_pos h69] at h
      obtain ⟨h70, h⟩ := req_some h
      obtain ⟨x45, h71, h⟩ := bind_some h
      try dsimp only at h
      obtain ⟨h72, h⟩ := req_some h
      obtain ⟨x46, h73, h⟩ := bind_some h
      try dsimp only at h
      obtain ⟨x47, h74, h⟩ := bind_some h
      have ch74 := f87_ok F x45 x46 _ h74
      try dsimp only at h
      by_cases h75 : (decide (x47 < 0)) = true
      · rw [if_pos h75] at h
        obtain ⟨h76, h⟩ := req_some h
        obtain ⟨h77, h⟩ := req_some h
        exact Lp.again (gRun_ok cxOK (f107_1_p5_2_e0 x1 x2 x3 x38 x43 x44 x45 x46 x47) ⟨h69, h69, h69, h69, h70, h69, ⟨x45, h71, rfl⟩, h69, h69, h69, h69, h72, h69, ⟨x46, h73, rfl⟩, h69, ch74, h69, h69, h75, h72, ⟨x46, h73, rfl⟩, h70, ⟨x45, h71, rfl⟩, h70, h76, h72, h77, trivial⟩) (f107_1_p5_2_ok F x3 x1 x2 x38 k (w64 (x44 - 1)) (List.set (List.set x43 (0 + (Int.toNat x44)) x46) (0 + (Int.toNat (w64 (x44 - 1)))) x45) r h)
      · rw [if_neg h75] at h
        have h75 := Bool.eq_false_iff.2 h75
        obtain rfl := Option.some.inj h
        exact Lp.out (gRun_ok cxOK (f107_1_p5_2_e1 x1 x2 x3 x38 x43 x44 x45 x46 x47) ⟨h69, h69, h69, h69, h70, h69, ⟨x45, h71, rfl⟩, h69, h69, h69, h69, h72, h69, ⟨x46, h73, rfl⟩, h69, ch74, h69, h69, h75, trivial⟩) (by intro hh; cases hh)
    · rw [if_neg h69] at h
      have h69 := Bool.eq_false_iff.2 h69
      obtain rfl := Option.some.inj h
      exact Lp.out (gRun_ok cxOK (f107_1_p5_2_e2 x1 x2 x3 x38 x43 x44) ⟨h69, h69, h69, h69, h69, h69, h69, h69, h69, h69, h69, h69, h69, rfl, trivial⟩) (by intro hh; cases hh)
theorem f107_1_p1_ok (F : Nat) (x3 : List Int) (x1 x2 : Int) : ∀ (k : Nat) (x38 : Int) (x37 : List Int) (r : (List Int)), f107_1_p1 F x3 x1 x2 k x38 x37 = some r → f107_1_p1_P x3 x1 x2 x38 x37 r
  | 0, _, _, _, h => by cases h
  | k + 1, x38, x37, r, h => by
    unfold f107_1_p1 at h
    by_cases h59 : (decide (x38 < x2)) = true
    · rw [if_pos h59] at h
      obtain ⟨x48, h78, h⟩ := bind_some h
      have ch78 := f107_1_p5_2_ok F x3 x1 x2 x38 F x38 x37 _ h78
      try dsimp only at h
      exact Lp.again (gRun_ok cxOK (f107_1_p1_e0 x1 x2 x3 x37 x38 x48) ⟨h59, ch78, trivial⟩) (f107_1_p1_ok F x3 x1 x2 k (w64 (x38 + 1)) x48 r h)
    · rw [if_neg h59] at h
      have h59 := Bool.eq_false_iff.2 h59
      obtain rfl := Option.some.inj h
      exact Lp.out (gRun_ok cxOK (f107_1_p1_e1 x1 x2 x3 x37 x38) ⟨h59, trivial⟩) (by intro hh; cases hh)
theorem f107_1_ok (F : Nat) (x1 x2 : Int) (x3 : List Int) (r : (List Int)) (h : f107_1 F x1 x2 x3 = some r) : f107_1_C x1 x2 x3 r := by
  unfold f107_1 at h
  obtain ⟨x49, h79, h⟩ := bind_some h
  have ch79 := f107_1_p1_ok F x3 x1 x2 F (w64 (x1 + 1)) x3 _ h79
  try dsimp only at h
  obtain rfl := Option.some.inj h
  exact callOK cxOK cxW Try.func107 (by kernel_rfl) (f107_1_e0 x1 x2 x3 x49) ⟨ch79, trivial⟩

theorem f93_1_p5_1_ok (F : Nat) (x11 : List Int) (x12 x13 x14 : Int) (x15 x16 : Bool) (r : Unit) (h : f93_1_p5_1 F x11 x12 x13 x14 x15 x16 = some r) : f93_1_p5_1_P x11 x12 x13 x14 x15 x16 r := by
  unfold f93_1_p5_1 at h
  by_cases h9 : x15 = true
  · rw [if_pos h9] at h
    obtain rfl := Option.some.inj h
    exact gRun_ok cxOK (f93_1_p5_1_e0 x11 x12 x13 x14 x15 x16) ⟨(by rw [h9]; rfl), trivial⟩
  · rw [if_neg h9] at h
    have h9 := Bool.eq_false_iff.2 h9
    cases h
theorem f93_1_p1_ok (F : Nat) : ∀ (k : Nat) (x12 x13 x14 : Int) (x15 x16 : Bool) (x11 : List Int) (r : (List Int)), f93_1_p1 F k x12 x13 x14 x15 x16 x11 = some r → f93_1_p1_P x12 x13 x14 x15 x16 x11 r
  | 0, _, _, _, _, _, _, _, h => by cases h
  | k + 1, x12, x13, x14, x15, x16, x11, r, h => by
    unfold f93_1_p1 at h
    dsimp only at h
    by_cases h6 : (decide ((w64 (x13 - x12)) ≤ 12)) = true
    · rw [if_pos h6] at h
      obtain ⟨x17, h7, h⟩ := bind_some h
      have ch7 := f107_1_ok F x12 x13 x11 _ h7
      try dsimp only at h
      obtain rfl := Option.some.inj h
      exact Lp.out (gRun_ok cxOK (f93_1_p1_e0 x11 x12 x13 x14 x15 x16 x17) ⟨h6, ch7, trivial⟩) (by intro hh; cases hh)
    · rw [if_neg h6] at h
      have h6 := Bool.eq_false_iff.2 h6
      by_cases h8 : (x14 == 0) = true
      · rw [if_pos h8] at h
        cases h
      · rw [if_neg h8] at h
        have h8 := Bool.eq_false_iff.2 h8
        obtain ⟨rh10, h10, h⟩ := bind_some h
        have ch10 := f93_1_p5_1_ok F x11 x12 x13 x14 x15 x16 _ h10
        try dsimp only at h
        cases h
theorem f93_1_ok (F : Nat) (x1 x2 x3 : Int) (x4 : List Int) (r : (List Int)) (h : f93_1 F x1 x2 x3 x4 = some r) : f93_1_C x1 x2 x3 x4 r := by
  unfold f93_1 at h
  obtain ⟨x18, h11, h⟩ := bind_some h
  have ch11 := f93_1_p1_ok F F x1 x2 x3 true true x4 _ h11
  try dsimp only at h
  obtain rfl := Option.some.inj h
  exact callOK cxOK cxW Try.func93 (by kernel_rfl) (f93_1_e0 x1 x2 x3 x4 x18) ⟨ch11, trivial⟩

theorem f86_1_ok (F : Nat) (x1 : List Int) (r : (List Int)) (h : f86_1 F x1 = some r) : f86_1_C x1 r := by
  unfold f86_1 at h
  obtain ⟨x2, h1, h⟩ := bind_some h
  have ch1 := f92_ok F (IntKind.wrap .u64 ((((List.length x1) : Nat) : Int))) _ h1
  try dsimp only at h
  obtain ⟨x3, h2, h⟩ := bind_some h
  have ch2 := f93_1_ok F 0 (((List.length x1) : Nat) : Int) x2 x1 _ h2
  try dsimp only at h
  obtain rfl := Option.some.inj h
  exact callOK cxOK cxW Try.func86 (by kernel_rfl) (f86_1_e0 x1 x2 x3) ⟨ch1, ch2, trivial⟩

theorem f65_1_ok (F : Nat) (x1 : List Int) (r : Nat × (List Int)) (h : f65_1 F x1 = some r) : f65_1_C x1 r := by
  unfold f65_1 at h
  obtain ⟨x2, h1, h⟩ := bind_some h
  have ch1 := f86_1_ok F x1 _ h1
  try dsimp only at h
  obtain rfl := Option.some.inj h
  exact callOK cxOK cxW Try.func65 (by kernel_rfl) (f65_1_e0 x1 x2) ⟨ch1, trivial⟩

theorem f29_p8_1_ok (F : Nat) (x14 : Int) (x1 : List Int) (x13 : Int) : ∀ (k : Nat) (x16 : Int) (x15 : List Int) (r : (List Int)), f29_p8_1 F x14 x1 x13 k x16 x15 = some r → f29_p8_1_P x14 x1 x13 x16 x15 r
  | 0, _, _, _, h => by cases h
  | k + 1, x16, x15, r, h => by
    unfold f29_p8_1 at h
    by_cases h18 : (decide (x16 < (w64 (Int.tdiv x14 (w64 (Int.tdiv x14 (iAnd .i64 x14 (w64 (0 - x14))))))))) = true
    · rw [if_pos h18] at h
      obtain ⟨h19, h⟩ := req_some h
      exact Lp.again (gRun_ok cxOK (f29_p8_1_e0 x1 x13 x14 x15 x16) ⟨h18, h19, rfl, trivial⟩) (f29_p8_1_ok F x14 x1 x13 k (w64 (x16 + 1)) (x15 ++ ([(w64 (Int.tdiv x14 (iAnd .i64 x14 (w64 (0 - x14)))))] : List Int)) r h)
    · rw [if_neg h18] at h
      have h18 := Bool.eq_false_iff.2 h18
      obtain rfl := Option.some.inj h
      exact Lp.out (gRun_ok cxOK (f29_p8_1_e1 x1 x13 x14 x15 x16) ⟨h18, trivial⟩) (by intro hh; cases hh)
theorem f29_p4_ok (F : Nat) (x1 : List Int) : ∀ (k : Nat) (x13 : Int) (x12 : List Int) (r : (List Int)), f29_p4 F x1 k x13 x12 = some r → f29_p4_P x1 x13 x12 r
  | 0, _, _, _, h => by cases h
  | k + 1, x13, x12, r, h => by
    unfold f29_p4 at h
    by_cases h14 : (decide (x13 < ((List.length x1 : Nat) : Int))) = true
    · rw [if_pos h14] at h
      obtain ⟨x14, h15, h⟩ := bind_some h
      try dsimp only at h
      obtain ⟨h16, h⟩ := req_some h
      obtain ⟨h17, h⟩ := req_some h
      obtain ⟨x17, h20, h⟩ := bind_some h
      have ch20 := f29_p8_1_ok F x14 x1 x13 F 0 x12 _ h20
      try dsimp only at h
      exact Lp.again (gRun_ok cxOK (f29_p4_e0 x1 x12 x13 x14 x17) ⟨h14, ⟨(at?_spec h15).1, x14, (at?_spec h15).2, rfl⟩, h16, h17, ch20, trivial⟩) (f29_p4_ok F x1 k (w64 (x13 + 1)) x17 r h)
    · rw [if_neg h14] at h
      have h14 := Bool.eq_false_iff.2 h14
      obtain rfl := Option.some.inj h
      exact Lp.out (gRun_ok cxOK (f29_p4_e1 x1 x12 x13) ⟨h14, trivial⟩) (by intro hh; cases hh)
theorem f29_ok (F : Nat) (x1 : List Int) (r : (List Int) × Int) (h : f29 F x1 = some r) : f29_C x1 r := by
  unfold f29 at h
  obtain ⟨x2, h1, h⟩ := bind_some h
  have ch1 := f34_ok F x1 _ h1
  try dsimp only at h
  by_cases h2 : (x2 != 0) = true
  · rw [if_pos h2] at h
    obtain rfl := Option.some.inj h
    exact callOK cxOK cxW Try.func29 (by kernel_rfl) (f29_e0 x1 x2) ⟨ch1, h2, trivial⟩
  · rw [if_neg h2] at h
    have h2 := Bool.eq_false_iff.2 h2
    obtain ⟨x3, h3, h⟩ := bind_some h
    have ch3 := f68_ok F x1 _ h3
    try dsimp only at h
    by_cases h4 : x3 = true
    · rw [if_pos h4] at h
      obtain ⟨x18, h21, h⟩ := bind_some h
      have ch21 := f29_p4_ok F x1 F 0 ([] : List Int) _ h21
      try dsimp only at h
      obtain ⟨rh22, h22, h⟩ := bind_some h
      have ch22 := f65_1_ok F x18 _ h22
      obtain ⟨x19, x20⟩ := rh22
      try dsimp only at h
      obtain ⟨h23, h⟩ := req_some h
      obtain rfl := Option.some.inj h
      exact callOK cxOK cxW Try.func29 (by kernel_rfl) (f29_e1 x1 x2 x3 x18 x19 x20) ⟨ch1, h2, ch3, (by rw [h4]; rfl), ch21, ch22, h23, trivial⟩
    · rw [if_neg h4] at h
      have h4 := Bool.eq_false_iff.2 h4
      obtain rfl := Option.some.inj h
      exact callOK cxOK cxW Try.func29 (by kernel_rfl) (f29_e2 x1 x2 x3) ⟨ch1, h2, ch3, (by rw [h4]; rfl), trivial⟩

theorem f70_1_ok (F : Nat) (x1 : Option (List Int)) (r : (List Int)) (h : f70_1 F x1 = some r) : f70_1_C x1 r := by
  unfold f70_1 at h
  by_cases h1 : (Option.isNone x1) = true
  · rw [if_pos h1] at h
    obtain rfl := Option.some.inj h
    exact callOK cxOK cxW Try.func70 (by kernel_rfl) (f70_1_e0 x1) ⟨h1, trivial⟩
  · rw [if_neg h1] at h
    have h1 := Bool.eq_false_iff.2 h1
    obtain ⟨h2, h⟩ := req_some h
    obtain rfl := Option.some.inj h
    exact callOK cxOK cxW Try.func70 (by kernel_rfl) (f70_1_e1 x1) ⟨h1, h2, (.inl rfl), trivial⟩

theorem f70_1m_ok (F : Nat) (x1 : List Int) (r : (List Int)) (h : f70_1m F x1 = some r) : f70_1m_C x1 r :=
  CallOK.ofOpt fun o ho => f70_1_ok F o r (nilm_some h o ho)

theorem f32_p5_ok (F : Nat) (x1 : List Int) (x4 : Int) : ∀ (k : Nat) (x5 x6 : Int) (r : Int), f32_p5 F x1 x4 k x5 x6 = some r → f32_p5_P x1 x4 x5 x6 r
  | 0, _, _, _, h => by cases h
  | k + 1, x5, x6, r, h => by
    unfold f32_p5 at h
    by_cases h7 : (decide (x6 < ((List.length x1 : Nat) : Int))) = true
    · rw [if_pos h7] at h
      obtain ⟨x7, h8, h⟩ := bind_some h
      try dsimp only at h
      obtain ⟨x8, h9, h⟩ := bind_some h
      try dsimp only at h
      by_cases h10 : (x7 != (w64 (x8 - x6))) = true
      · rw [if_pos h10] at h
        obtain rfl := Option.some.inj h
        exact Lp.out (gRun_ok cxOK (f32_p5_e0 x1 x4 x5 x6 x7 x8) ⟨h7, ⟨(at?_spec h8).1, x7, (at?_spec h8).2, rfl⟩, ⟨(at?_spec h9).1, x8, (at?_spec h9).2, rfl⟩, h10, trivial⟩) (by intro hh; cases hh)
      · rw [if_neg h10] at h
        have h10 := Bool.eq_false_iff.2 h10
        exact Lp.again (gRun_ok cxOK (f32_p5_e1 x1 x4 x5 x6 x7 x8) ⟨h7, ⟨(at?_spec h8).1, x7, (at?_spec h8).2, rfl⟩, ⟨(at?_spec h9).1, x8, (at?_spec h9).2, rfl⟩, h10, trivial⟩) (f32_p5_ok F x1 x4 k (w64 (x5 + 1)) (w64 (x6 + 1)) r h)
    · rw [if_neg h7] at h
      have h7 := Bool.eq_false_iff.2 h7
      obtain rfl := Option.some.inj h
      exact Lp.out (gRun_ok cxOK (f32_p5_e2 x1 x4 x5 x6) ⟨h7, trivial⟩) (by intro hh; cases hh)
theorem f32_p13_ok (F : Nat) (x1 : List Int) (x4 : Int) : ∀ (k : Nat) (x15 : Int) (x14 : List Int) (r : (List Int)), f32_p13 F x1 x4 k x15 x14 = some r → f32_p13_P x1 x4 x15 x14 r
  | 0, _, _, _, h => by cases h
  | k + 1, x15, x14, r, h => by
    unfold f32_p13 at h
    by_cases h22 : (decide (x15 < x4)) = true
    · rw [if_pos h22] at h
      obtain ⟨h23, h⟩ := req_some h
      obtain ⟨x16, h24, h⟩ := bind_some h
      try dsimp only at h
      obtain ⟨h25, h⟩ := req_some h
      exact Lp.again (gRun_ok cxOK (f32_p13_e0 x1 x4 x14 x15 x16) ⟨h22, h23, ⟨x16, h24, rfl⟩, h23, h25, trivial⟩) (f32_p13_ok F x1 x4 k (w64 (x15 + 1)) (List.set x14 (0 + (Int.toNat x15)) (w64 (x16 + 1))) r h)
    · rw [if_neg h22] at h
      have h22 := Bool.eq_false_iff.2 h22
      obtain rfl := Option.some.inj h
      exact Lp.out (gRun_ok cxOK (f32_p13_e1 x1 x4 x14 x15) ⟨h22, trivial⟩) (by intro hh; cases hh)
theorem f32_p17_ok (F : Nat) (x9 : Int) (x10 : List Int) : ∀ (k : Nat) (x24 : Int) (x23 : List Int) (r : (List Int)), f32_p17 F x9 x10 k x24 x23 = some r → f32_p17_P x9 x10 x24 x23 r
  | 0, _, _, _, h => by cases h
  | k + 1, x24, x23, r, h => by
    unfold f32_p17 at h
    by_cases h35 : (decide (x24 < x9)) = true
    · rw [if_pos h35] at h
      obtain ⟨h36, h⟩ := req_some h
      obtain ⟨x25, h37, h⟩ := bind_some h
      try dsimp only at h
      obtain ⟨h38, h⟩ := req_some h
      exact Lp.again (gRun_ok cxOK (f32_p17_e0 x9 x10 x23 x24 x25) ⟨h35, h36, ⟨x25, h37, rfl⟩, h36, h38, trivial⟩) (f32_p17_ok F x9 x10 k (w64 (x24 + 1)) (List.set x23 (0 + (Int.toNat x24)) (w64 (x25 - 1))) r h)
    · rw [if_neg h35] at h
      have h35 := Bool.eq_false_iff.2 h35
      obtain rfl := Option.some.inj h
      exact Lp.out (gRun_ok cxOK (f32_p17_e1 x9 x10 x23 x24) ⟨h35, trivial⟩) (by intro hh; cases hh)
theorem f32_p11_ok (F : Nat) (x1 : List Int) (x4 x9 : Int) (x10 : List Int) (r : f32_p11_R) (h : f32_p11 F x1 x4 x9 x10 = some r) : f32_p11_P x1 x4 x9 x10 r := by
  unfold f32_p11 at h
  by_cases h16 : (decide (x4 ≤ x9)) = true
  · rw [if_pos h16] at h
    obtain ⟨h17, h⟩ := req_some h
    obtain ⟨x17, h26, h⟩ := bind_some h
    have ch26 := f32_p13_ok F x1 x4 F 0 x10 _ h26
    try dsimp only at h
    obtain rfl := Option.some.inj h
    exact gRun_ok cxOK (f32_p11_e0 x1 x4 x9 x10 x17) ⟨h16, h17, ch26, trivial⟩
  · rw [if_neg h16] at h
    have h16 := Bool.eq_false_iff.2 h16
    obtain ⟨x26, h39, h⟩ := bind_some h
    have ch39 := f32_p17_ok F x9 x10 F 0 x10 _ h39
    try dsimp only at h
    obtain ⟨h40, h⟩ := req_some h
    obtain ⟨h41, h⟩ := req_some h
    obtain rfl := Option.some.inj h
    exact gRun_ok cxOK (f32_p11_e1 x1 x4 x9 x10 x26) ⟨h16, ch39, h40, h41, trivial⟩
theorem f32_p13_1_ok (F : Nat) (x1 : List Int) (x4 : Int) : ∀ (k : Nat) (x32 : Int) (x31 : List Int) (r : (List Int)), f32_p13_1 F x1 x4 k x32 x31 = some r → f32_p13_1_P x1 x4 x32 x31 r
  | 0, _, _, _, h => by cases h
  | k + 1, x32, x31, r, h => by
    unfold f32_p13_1 at h
    by_cases h50 : (decide (x32 < x4)) = true
    · rw [if_pos h50] at h
      obtain ⟨h51, h⟩ := req_some h
      obtain ⟨x33, h52, h⟩ := bind_some h
      try dsimp only at h
      obtain ⟨h53, h⟩ := req_some h
      exact Lp.again (gRun_ok cxOK (f32_p13_1_e0 x1 x4 x31 x32 x33) ⟨h50, h51, ⟨x33, h52, rfl⟩, h51, h53, trivial⟩) (f32_p13_1_ok F x1 x4 k (w64 (x32 + 1)) (List.set x31 (0 + (Int.toNat x32)) (w64 (x33 + 1))) r h)
    · rw [if_neg h50] at h
      have h50 := Bool.eq_false_iff.2 h50
      obtain rfl := Option.some.inj h
      exact Lp.out (gRun_ok cxOK (f32_p13_1_e1 x1 x4 x31 x32) ⟨h50, trivial⟩) (by intro hh; cases hh)
theorem f32_p17_1_ok (F : Nat) (x9 : Int) (x10 : List Int) : ∀ (k : Nat) (x41 : Int) (x40 : List Int) (r : (List Int)), f32_p17_1 F x9 x10 k x41 x40 = some r → f32_p17_1_P x9 x10 x41 x40 r
  | 0, _, _, _, h => by cases h
  | k + 1, x41, x40, r, h => by
    unfold f32_p17_1 at h
    by_cases h63 : (decide (x41 < x9)) = true
    · rw [if_pos h63] at h
      obtain ⟨h64, h⟩ := req_some h
      obtain ⟨x42, h65, h⟩ := bind_some h
      try dsimp only at h
      obtain ⟨h66, h⟩ := req_some h
      exact Lp.again (gRun_ok cxOK (f32_p17_1_e0 x9 x10 x40 x41 x42) ⟨h63, h64, ⟨x42, h65, rfl⟩, h64, h66, trivial⟩) (f32_p17_1_ok F x9 x10 k (w64 (x41 + 1)) (List.set x40 (0 + (Int.toNat x41)) (w64 (x42 - 1))) r h)
    · rw [if_neg h63] at h
      have h63 := Bool.eq_false_iff.2 h63
      obtain rfl := Option.some.inj h
      exact Lp.out (gRun_ok cxOK (f32_p17_1_e1 x9 x10 x40 x41) ⟨h63, trivial⟩) (by intro hh; cases hh)
theorem f32_p11_1_ok (F : Nat) (x1 : List Int) (x4 x9 : Int) (x10 : List Int) (r : f32_p11_1_R) (h : f32_p11_1 F x1 x4 x9 x10 = some r) : f32_p11_1_P x1 x4 x9 x10 r := by
  unfold f32_p11_1 at h
  by_cases h44 : (decide (x4 ≤ x9)) = true
  · rw [if_pos h44] at h
    obtain ⟨h45, h⟩ := req_some h
    obtain ⟨x34, h54, h⟩ := bind_some h
    have ch54 := f32_p13_1_ok F x1 x4 F 0 x10 _ h54
    try dsimp only at h
    obtain rfl := Option.some.inj h
    exact gRun_ok cxOK (f32_p11_1_e0 x1 x4 x9 x10 x34) ⟨h44, h45, ch54, trivial⟩
  · rw [if_neg h44] at h
    have h44 := Bool.eq_false_iff.2 h44
    obtain ⟨x43, h67, h⟩ := bind_some h
    have ch67 := f32_p17_1_ok F x9 x10 F 0 x10 _ h67
    try dsimp only at h
    obtain ⟨h68, h⟩ := req_some h
    obtain ⟨h69, h⟩ := req_some h
    obtain rfl := Option.some.inj h
    exact gRun_ok cxOK (f32_p11_1_e1 x1 x4 x9 x10 x43) ⟨h44, ch67, h68, h69, trivial⟩
theorem f32_ok (F : Nat) (x1 : List Int) (r : (List Int) × Int) (h : f32 F x1 = some r) : f32_C x1 r := by
  unfold f32 at h
  obtain ⟨x2, h1, h⟩ := bind_some h
  have ch1 := f34_ok F x1 _ h1
  try dsimp only at h
  by_cases h2 : (x2 != 0) = true
  · rw [if_pos h2] at h
    obtain rfl := Option.some.inj h
    exact callOK cxOK cxW Try.func32 (by kernel_rfl) (f32_e0 x1 x2) ⟨ch1, h2, trivial⟩
  · rw [if_neg h2] at h
    have h2 := Bool.eq_false_iff.2 h2
    obtain ⟨x3, h3, h⟩ := bind_some h
    have ch3 := f68_ok F x1 _ h3
    try dsimp only at h
    by_cases h4 : x3 = true
    · rw [if_pos h4] at h
      by_cases h5 : (((List.length x1 : Nat) : Int) == 0) = true
      · rw [if_pos h5] at h
        obtain rfl := Option.some.inj h
        exact callOK cxOK cxW Try.func32 (by kernel_rfl) (f32_e1 x1 x2 x3) ⟨ch1, h2, ch3, (by rw [h4]; rfl), h5, trivial⟩
      · rw [if_neg h5] at h
        have h5 := Bool.eq_false_iff.2 h5
        obtain ⟨x4, h6, h⟩ := bind_some h
        try dsimp only at h
        obtain ⟨x9, h11, h⟩ := bind_some h
        have ch11 := f32_p5_ok F x1 x4 F 0 0 _ h11
        try dsimp only at h
        obtain ⟨x10, h12, h⟩ := bind_some h
        have ch12 := f70_1m_ok F x1 _ h12
        try dsimp only at h
        by_cases h13 : (x9 == ((List.length x1 : Nat) : Int)) = true
        · rw [if_pos h13] at h
          obtain ⟨x11, h14, h⟩ := bind_some h
          have ch14 := f57_ok F x4 ((List.length x1 : Nat) : Int) (w64 (((List.length x1 : Nat) : Int) + 1)) _ h14
          try dsimp only at h
          by_cases h15 : x11 = true
          · rw [if_pos h15] at h
            obtain rfl := Option.some.inj h
            exact callOK cxOK cxW Try.func32 (by kernel_rfl) (f32_e2 x1 x2 x3 x4 x9 x10 x11) ⟨ch1, h2, ch3, (by rw [h4]; rfl), h5, ⟨(at?_spec h6).1, x4, (at?_spec h6).2, rfl⟩, ch11, ch12, h13, h13, h13, h13, h13, ch14, h13, h15, trivial⟩
          · rw [if_neg h15] at h
            have h15 := Bool.eq_false_iff.2 h15
            obtain ⟨rh42, h42, h⟩ := bind_some h
            have ch42 := f32_p11_ok F x1 x4 x9 x10 _ h42
            cases rh42 with
            | c0 x27 =>
              try dsimp only at h
              obtain ⟨h43, h⟩ := req_some h
              obtain rfl := Option.some.inj h
              exact callOK cxOK cxW Try.func32 (by kernel_rfl) (f32_e3 x1 x2 x3 x4 x9 x10 x11 x27) ⟨ch1, h2, ch3, (by rw [h4]; rfl), h5, ⟨(at?_spec h6).1, x4, (at?_spec h6).2, rfl⟩, ch11, ch12, h13, h13, h13, h13, h13, ch14, h13, h15, ch42, h43, trivial⟩
            | c1 x28 =>
              try dsimp only at h
              obtain rfl := Option.some.inj h
              exact callOK cxOK cxW Try.func32 (by kernel_rfl) (f32_e4 x1 x2 x3 x4 x9 x10 x11 x28) ⟨ch1, h2, ch3, (by rw [h4]; rfl), h5, ⟨(at?_spec h6).1, x4, (at?_spec h6).2, rfl⟩, ch11, ch12, h13, h13, h13, h13, h13, ch14, h13, h15, ch42, (Nat.le_of_eq (Nat.zero_add _)), trivial⟩
        · rw [if_neg h13] at h
          have h13 := Bool.eq_false_iff.2 h13
          obtain ⟨rh70, h70, h⟩ := bind_some h
          have ch70 := f32_p11_1_ok F x1 x4 x9 x10 _ h70
          cases rh70 with
          | c0 x44 =>
            try dsimp only at h
            obtain ⟨h71, h⟩ := req_some h
            obtain rfl := Option.some.inj h
            exact callOK cxOK cxW Try.func32 (by kernel_rfl) (f32_e5 x1 x2 x3 x4 x9 x10 x44) ⟨ch1, h2, ch3, (by rw [h4]; rfl), h5, ⟨(at?_spec h6).1, x4, (at?_spec h6).2, rfl⟩, ch11, ch12, h13, h13, h13, h13, h13, h13, rfl, ch70, h71, trivial⟩
          | c1 x45 =>
            try dsimp only at h
            obtain rfl := Option.some.inj h
            exact callOK cxOK cxW Try.func32 (by kernel_rfl) (f32_e6 x1 x2 x3 x4 x9 x10 x45) ⟨ch1, h2, ch3, (by rw [h4]; rfl), h5, ⟨(at?_spec h6).1, x4, (at?_spec h6).2, rfl⟩, ch11, ch12, h13, h13, h13, h13, h13, h13, rfl, ch70, (Nat.le_of_eq (Nat.zero_add _)), trivial⟩
    · rw [if_neg h4] at h
      have h4 := Bool.eq_false_iff.2 h4
      obtain rfl := Option.some.inj h
      exact callOK cxOK cxW Try.func32 (by kernel_rfl) (f32_e7 x1 x2 x3) ⟨ch1, h2, ch3, (by rw [h4]; rfl), trivial⟩

theorem f74_p4_ok (F : Nat) (x2 x3 : Int) (x1 : List Int) (x4 : Int) (r : Int) (h : f74_p4 F x2 x3 x1 x4 = some r) : f74_p4_P x2 x3 x1 x4 r := by
  unfold f74_p4 at h
  by_cases h3 : (decide (x4 > x3)) = true
  · rw [if_pos h3] at h
    obtain rfl := Option.some.inj h
    exact gRun_ok cxOK (f74_p4_e0 x1 x2 x3 x4) ⟨h3, trivial⟩
  · rw [if_neg h3] at h
    have h3 := Bool.eq_false_iff.2 h3
    obtain rfl := Option.some.inj h
    exact gRun_ok cxOK (f74_p4_e1 x1 x2 x3 x4) ⟨h3, trivial⟩
theorem f74_p1_ok (F : Nat) (x1 : List Int) : ∀ (k : Nat) (x2 x3 : Int) (r : Int), f74_p1 F x1 k x2 x3 = some r → f74_p1_P x1 x2 x3 r
  | 0, _, _, _, h => by cases h
  | k + 1, x2, x3, r, h => by
    unfold f74_p1 at h
    by_cases h1 : (decide (x3 < ((List.length x1 : Nat) : Int))) = true
    · rw [if_pos h1] at h
      obtain ⟨x4, h2, h⟩ := bind_some h
      try dsimp only at h
      obtain ⟨x5, h4, h⟩ := bind_some h
      have ch4 := f74_p4_ok F x2 x3 x1 x4 _ h4
      try dsimp only at h
      exact Lp.again (gRun_ok cxOK (f74_p1_e0 x1 x2 x3 x4 x5) ⟨h1, ⟨(at?_spec h2).1, x4, (at?_spec h2).2, rfl⟩, ch4, trivial⟩) (f74_p1_ok F x1 k x5 (w64 (x3 + 1)) r h)
    · rw [if_neg h1] at h
      have h1 := Bool.eq_false_iff.2 h1
      obtain rfl := Option.some.inj h
      exact Lp.out (gRun_ok cxOK (f74_p1_e1 x1 x2 x3) ⟨h1, trivial⟩) (by intro hh; cases hh)
theorem f74_ok (F : Nat) (x1 : List Int) (r : Int) (h : f74 F x1 = some r) : f74_C x1 r := by
  unfold f74 at h
  obtain ⟨x6, h5, h⟩ := bind_some h
  have ch5 := f74_p1_ok F x1 F 0 0 _ h5
  try dsimp only at h
  obtain rfl := Option.some.inj h
  exact callOK cxOK cxW Try.func74 (by kernel_rfl) (f74_e0 x1 x6) ⟨ch5, trivial⟩

theorem f70_2_ok (F : Nat) (x1 : Option (List Int)) (r : (List Int)) (h : f70_2 F x1 = some r) : f70_2_C x1 r := by
  unfold f70_2 at h
  by_cases h1 : (Option.isNone x1) = true
  · rw [if_pos h1] at h
    obtain rfl := Option.some.inj h
    exact callOK cxOK cxW Try.func70 (by kernel_rfl) (f70_2_e0 x1) ⟨h1, trivial⟩
  · rw [if_neg h1] at h
    have h1 := Bool.eq_false_iff.2 h1
    obtain ⟨h2, h⟩ := req_some h
    obtain rfl := Option.some.inj h
    exact callOK cxOK cxW Try.func70 (by kernel_rfl) (f70_2_e1 x1) ⟨h1, h2, (.inl rfl), (Nat.le_of_eq (Nat.zero_add _)), trivial⟩

theorem f70_2m_ok (F : Nat) (x1 : List Int) (r : (List Int)) (h : f70_2m F x1 = some r) : f70_2m_C x1 r :=
  CallOK.ofOpt fun o ho => f70_2_ok F o r (nilm_some h o ho)

theorem f40_p5_1_ok (F : Nat) (x1 : List Int) (x3 : Int) (x6 : List Int) (x8 x7 : Int) (r : (List Int)) (h : f40_p5_1 F x1 x3 x6 x8 x7 = some r) : f40_p5_1_P x1 x3 x6 x8 x7 r := by
  unfold f40_p5_1 at h
  by_cases h12 : (decide (x8 > x3)) = true
  · rw [if_pos h12] at h
    obtain ⟨h13, h⟩ := req_some h
    obtain rfl := Option.some.inj h
    exact gRun_ok cxOK (f40_p5_1_e0 x1 x3 x6 x7 x8) ⟨h12, h13, rfl, trivial⟩
  · rw [if_neg h12] at h
    have h12 := Bool.eq_false_iff.2 h12
    obtain rfl := Option.some.inj h
    exact gRun_ok cxOK (f40_p5_1_e1 x1 x3 x6 x7 x8) ⟨h12, trivial⟩
theorem f40_p2_ok (F : Nat) (x1 : List Int) (x3 : Int) : ∀ (k : Nat) (x7 : Int) (x6 : List Int) (r : (List Int)), f40_p2 F x1 x3 k x7 x6 = some r → f40_p2_P x1 x3 x7 x6 r
  | 0, _, _, _, h => by cases h
  | k + 1, x7, x6, r, h => by
    unfold f40_p2 at h
    by_cases h10 : (decide (x7 < ((List.length (List.drop 0 (List.take (Int.toNat x3) x1)) : Nat) : Int))) = true
    · rw [if_pos h10] at h
      obtain ⟨x8, h11, h⟩ := bind_some h
      try dsimp only at h
      obtain ⟨x9, h14, h⟩ := bind_some h
      have ch14 := f40_p5_1_ok F x1 x3 x6 x8 x7 _ h14
      try dsimp only at h
      exact Lp.again (gRun_ok cxOK (f40_p2_e0 x1 x3 x6 x7 x8 x9) ⟨h10, ⟨(at?_spec h11).1, x8, (at?_spec h11).2, rfl⟩, ch14, trivial⟩) (f40_p2_ok F x1 x3 k (w64 (x7 + 1)) x9 r h)
    · rw [if_neg h10] at h
      have h10 := Bool.eq_false_iff.2 h10
      obtain rfl := Option.some.inj h
      exact Lp.out (gRun_ok cxOK (f40_p2_e1 x1 x3 x6 x7) ⟨h10, trivial⟩) (by intro hh; cases hh)
theorem f40_ok (F : Nat) (x1 : List Int) (r : Int × (List Int) × (List Int) × Int) (h : f40 F x1 = some r) : f40_C x1 r := by
  unfold f40 at h
  obtain ⟨x2, h1, h⟩ := bind_some h
  have ch1 := f34_ok F x1 _ h1
  try dsimp only at h
  by_cases h2 : (x2 != 0) = true
  · rw [if_pos h2] at h
    obtain rfl := Option.some.inj h
    exact callOK cxOK cxW Try.func40 (by kernel_rfl) (f40_e0 x1 x2) ⟨ch1, h2, trivial⟩
  · rw [if_neg h2] at h
    have h2 := Bool.eq_false_iff.2 h2
    obtain ⟨x3, h3, h⟩ := bind_some h
    have ch3 := f74_ok F x1 _ h3
    try dsimp only at h
    obtain ⟨h4, h⟩ := req_some h
    obtain ⟨x10, h15, h⟩ := bind_some h
    have ch15 := f40_p2_ok F x1 x3 F 0 ([] : List Int) _ h15
    try dsimp only at h
    obtain ⟨h16, h⟩ := req_some h
    obtain ⟨x11, h17, h⟩ := bind_some h
    have ch17 := f70_2m_ok F (List.drop (Int.toNat x3) (List.take (List.length x1) x1)) _ h17
    try dsimp only at h
    obtain rfl := Option.some.inj h
    exact callOK cxOK cxW Try.func40 (by kernel_rfl) (f40_e1 x1 x2 x3 x10 x11) ⟨ch1, h2, ch3, h4, ch15, h16, ch17, (Nat.le_of_eq (Nat.zero_add _)), trivial⟩

theorem f95_ok (F : Nat) (x1 x2 : Int) (r : Int × Int) (h : f95 F x1 x2 = some r) : f95_C x1 x2 r := by
  unfold f95 at h
  obtain rfl := Option.some.inj h
  exact callOK cxOK cxW Try.func95 (by kernel_rfl) (f95_e0 x1 x2) ⟨(by decide), (by decide), (by decide), (by decide), (by decide), trivial⟩

theorem f90_ok (F : Nat) (x1 x2 : Int) (r : Int × Int) (h : f90 F x1 x2 = some r) : f90_C x1 x2 r := by
  unfold f90 at h
  obtain ⟨rh1, h1, h⟩ := bind_some h
  have ch1 := f95_ok F x1 x2 _ h1
  obtain ⟨x3, x4⟩ := rh1
  try dsimp only at h
  obtain rfl := Option.some.inj h
  exact callOK cxOK cxW Try.func90 (by kernel_rfl) (f90_e0 x1 x2 x3 x4) ⟨rfl, ch1, trivial⟩

theorem f76_p0_ok (F : Nat) (x1 : List Int) (x2 : Int) (r : Unit) (h : f76_p0 F x1 x2 = some r) : f76_p0_P x1 x2 r := by
  unfold f76_p0 at h
  by_cases h1 : (decide (x2 < 0)) = true
  · rw [if_pos h1] at h
    cases h
  · rw [if_neg h1] at h
    have h1 := Bool.eq_false_iff.2 h1
    obtain rfl := Option.some.inj h
    exact gRun_ok cxOK (f76_p0_e0 x1 x2) ⟨h1, trivial⟩
theorem f76_p1_ok (F : Nat) (x1 : List Int) (x4 : Int) (r : Unit) (h : f76_p1 F x1 x4 = some r) : f76_p1_P x1 x4 r := by
  unfold f76_p1 at h
  by_cases h5 : (decide (x4 > 9223372036854775807)) = true
  · rw [if_pos h5] at h
    cases h
  · rw [if_neg h5] at h
    have h5 := Bool.eq_false_iff.2 h5
    obtain rfl := Option.some.inj h
    exact gRun_ok cxOK (f76_p1_e0 x1 x4) ⟨h5, trivial⟩
theorem f76_p3_ok (F : Nat) (x4 : Int) : ∀ (k : Nat) (x7 : Int) (x6 : List Int) (r : (List Int)), f76_p3 F x4 k x7 x6 = some r → f76_p3_P x4 x7 x6 r
  | 0, _, _, _, h => by cases h
  | k + 1, x7, x6, r, h => by
    unfold f76_p3 at h
    by_cases h14 : (decide (x7 < (((Int.toNat (w64 (x4))) : Nat) : Int))) = true
    · rw [if_pos h14] at h
      obtain ⟨h15, h⟩ := req_some h
      obtain ⟨h16, h⟩ := req_some h
      obtain ⟨h17, h⟩ := req_some h
      obtain ⟨h18, h⟩ := req_some h
      exact Lp.again (gRun_ok cxOK (f76_p3_e0 x4 x6 x7) ⟨h14, h15, h16, h17, h18, trivial⟩) (f76_p3_ok F x4 k (w64 (x7 + (((Nat.min (List.length (List.drop 0 (List.take (0 + (Int.toNat x7)) x6))) ((Int.toNat (w64 (x4))) - (Int.toNat x7))) : Nat) : Int))) (List.take (0 + (Int.toNat x7)) x6 ++ List.take (Nat.min (List.length (List.drop 0 (List.take (0 + (Int.toNat x7)) x6))) ((Int.toNat (w64 (x4))) - (Int.toNat x7))) (List.drop 0 (List.take (0 + (Int.toNat x7)) x6)) ++ List.drop ((0 + (Int.toNat x7)) + (Nat.min (List.length (List.drop 0 (List.take (0 + (Int.toNat x7)) x6))) ((Int.toNat (w64 (x4))) - (Int.toNat x7)))) x6) r h)
    · rw [if_neg h14] at h
      have h14 := Bool.eq_false_iff.2 h14
      obtain rfl := Option.some.inj h
      exact Lp.out (gRun_ok cxOK (f76_p3_e1 x4 x6 x7) ⟨h14, trivial⟩) (by intro hh; cases hh)
theorem f76_ok (F : Nat) (x1 : List Int) (x2 : Int) (r : Nat × (List Int)) (h : f76 F x1 x2 = some r) : f76_C x1 x2 r := by
  unfold f76 at h
  obtain ⟨rh2, h2, h⟩ := bind_some h
  have ch2 := f76_p0_ok F x1 x2 _ h2
  try dsimp only at h
  obtain ⟨rh3, h3, h⟩ := bind_some h
  have ch3 := f90_ok F (IntKind.wrap .u64 (((List.length x1 : Nat) : Int))) (IntKind.wrap .u64 (x2)) _ h3
  obtain ⟨x3, x4⟩ := rh3
  try dsimp only at h
  by_cases h4 : (decide (x3 > 0)) = true
  · rw [if_pos h4] at h
    cases h
  · rw [if_neg h4] at h
    have h4 := Bool.eq_false_iff.2 h4
    obtain ⟨rh6, h6, h⟩ := bind_some h
    have ch6 := f76_p1_ok F x1 x4 _ h6
    try dsimp only at h
    obtain ⟨h7, h⟩ := req_some h
    obtain ⟨h8, h⟩ := req_some h
    obtain ⟨x8, h19, h⟩ := bind_some h
    have ch19 := f76_p3_ok F x4 F (((Nat.min (List.length x1) (Int.toNat (w64 (x4)))) : Nat) : Int) (List.take 0 (List.replicate (Int.toNat (w64 (x4))) (0 : Int)) ++ List.take (Nat.min (List.length x1) (Int.toNat (w64 (x4)))) x1 ++ List.drop (0 + (Nat.min (List.length x1) (Int.toNat (w64 (x4))))) (List.replicate (Int.toNat (w64 (x4))) (0 : Int))) _ h19
    try dsimp only at h
    obtain rfl := Option.some.inj h
    exact callOK cxOK cxW Try.func76 (by kernel_rfl) (f76_e0 x1 x2 x3 x4 x8) ⟨ch2, ch3, h4, h4, h4, ch6, h7, h8, ch19, trivial⟩

theorem f42_p0_ok (F : Nat) (x1 : Int) (x2 x3 : List Int) (x4 : Int) (r : Int) (h : f42_p0 F x1 x2 x3 x4 = some r) : f42_p0_P x1 x2 x3 x4 r := by
  unfold f42_p0 at h
  by_cases h2 : (x4 == 0) = true
  · rw [if_pos h2] at h
    obtain ⟨x5, h3, h⟩ := bind_some h
    have ch3 := f34_ok F x3 _ h3
    try dsimp only at h
    obtain rfl := Option.some.inj h
    exact gRun_ok cxOK (f42_p0_e0 x1 x2 x3 x4 x5) ⟨h2, ch3, trivial⟩
  · rw [if_neg h2] at h
    have h2 := Bool.eq_false_iff.2 h2
    obtain rfl := Option.some.inj h
    exact gRun_ok cxOK (f42_p0_e1 x1 x2 x3 x4) ⟨h2, trivial⟩
theorem f42_p7_ok (F : Nat) (x3 : List Int) (x11 : Nat) (x2 : List Int) : ∀ (k : Nat) (x17 : Int) (x16 : List Int) (r : (List Int)), f42_p7 F x3 x11 x2 k x17 x16 = some r → f42_p7_P x3 x11 x2 x17 x16 r
  | 0, _, _, _, h => by cases h
  | k + 1, x17, x16, r, h => by
    unfold f42_p7 at h
    by_cases h21 : (decide (x17 < ((List.length x2 : Nat) : Int))) = true
    · rw [if_pos h21] at h
      obtain ⟨x18, h22, h⟩ := bind_some h
      try dsimp only at h
      obtain ⟨h23, h⟩ := req_some h
      obtain ⟨x19, h24, h⟩ := bind_some h
      try dsimp only at h
      obtain ⟨h25, h⟩ := req_some h
      exact Lp.again (gRun_ok cxOK (f42_p7_e0 x2 x3 x11 x16 x17 x18 x19) ⟨h21, ⟨(at?_spec h22).1, x18, (at?_spec h22).2, rfl⟩, h23, ⟨x19, h24, rfl⟩, h23, h25, trivial⟩) (f42_p7_ok F x3 x11 x2 k (w64 (x17 + 1)) (List.set x16 (0 + (Int.toNat x17)) (w64 (x19 + x18))) r h)
    · rw [if_neg h21] at h
      have h21 := Bool.eq_false_iff.2 h21
      obtain rfl := Option.some.inj h
      exact Lp.out (gRun_ok cxOK (f42_p7_e1 x2 x3 x11 x16 x17) ⟨h21, trivial⟩) (by intro hh; cases hh)
theorem f42_p7_1_ok (F : Nat) (x3 : List Int) (x23 : Nat) (x2 : List Int) : ∀ (k : Nat) (x29 : Int) (x28 : List Int) (r : (List Int)), f42_p7_1 F x3 x23 x2 k x29 x28 = some r → f42_p7_1_P x3 x23 x2 x29 x28 r
  | 0, _, _, _, h => by cases h
  | k + 1, x29, x28, r, h => by
    unfold f42_p7_1 at h
    by_cases h38 : (decide (x29 < ((List.length x2 : Nat) : Int))) = true
    · rw [if_pos h38] at h
      obtain ⟨x30, h39, h⟩ := bind_some h
      try dsimp only at h
      obtain ⟨h40, h⟩ := req_some h
      obtain ⟨x31, h41, h⟩ := bind_some h
      try dsimp only at h
      obtain ⟨h42, h⟩ := req_some h
      exact Lp.again (gRun_ok cxOK (f42_p7_1_e0 x2 x3 x23 x28 x29 x30 x31) ⟨h38, ⟨(at?_spec h39).1, x30, (at?_spec h39).2, rfl⟩, h40, ⟨x31, h41, rfl⟩, h40, h42, trivial⟩) (f42_p7_1_ok F x3 x23 x2 k (w64 (x29 + 1)) (List.set x28 (0 + (Int.toNat x29)) (w64 (x31 + x30))) r h)
    · rw [if_neg h38] at h
      have h38 := Bool.eq_false_iff.2 h38
      obtain rfl := Option.some.inj h
      exact Lp.out (gRun_ok cxOK (f42_p7_1_e1 x2 x3 x23 x28 x29) ⟨h38, trivial⟩) (by intro hh; cases hh)
theorem f42_ok (F : Nat) (x1 : Int) (x2 x3 : List Int) (r : (List Int) × Int) (h : f42 F x1 x2 x3 = some r) : f42_C x1 x2 x3 r := by
  unfold f42 at h
  obtain ⟨x4, h1, h⟩ := bind_some h
  have ch1 := f34_ok F x2 _ h1
  try dsimp only at h
  obtain ⟨x6, h4, h⟩ := bind_some h
  have ch4 := f42_p0_ok F x1 x2 x3 x4 _ h4
  try dsimp only at h
  by_cases h5 : (x6 != 0) = true
  · rw [if_pos h5] at h
    obtain rfl := Option.some.inj h
    exact callOK cxOK cxW Try.func42 (by kernel_rfl) (f42_e0 x1 x2 x3 x4 x6) ⟨ch1, ch4, h5, trivial⟩
  · rw [if_neg h5] at h
    have h5 := Bool.eq_false_iff.2 h5
    obtain ⟨x7, h6, h⟩ := bind_some h
    have ch6 := f57_ok F x1 0 30 _ h6
    try dsimp only at h
    by_cases h7 : x7 = true
    · rw [if_pos h7] at h
      by_cases h8 : (decide (((List.length x2 : Nat) : Int) > x1)) = true
      · rw [if_pos h8] at h
        obtain rfl := Option.some.inj h
        exact callOK cxOK cxW Try.func42 (by kernel_rfl) (f42_e1 x1 x2 x3 x4 x6 x7) ⟨ch1, ch4, h5, ch6, (by rw [h7]; rfl), h8, h8, h8, h8, h8, h8, rfl, trivial⟩
      · rw [if_neg h8] at h
        have h8 := Bool.eq_false_iff.2 h8
        by_cases h9 : (decide (((List.length x3 : Nat) : Int) > 0)) = true
        · rw [if_pos h9] at h
          obtain ⟨x8, h10, h⟩ := bind_some h
          try dsimp only at h
          by_cases h11 : (decide (x8 > x1)) = true
          · rw [if_pos h11] at h
            obtain rfl := Option.some.inj h
            exact callOK cxOK cxW Try.func42 (by kernel_rfl) (f42_e2 x1 x2 x3 x4 x6 x7 x8) ⟨ch1, ch4, h5, ch6, (by rw [h7]; rfl), h8, h8, h8, h8, h9, h9, ⟨(at?_spec h10).1, x8, (at?_spec h10).2, rfl⟩, h9, h9, h9, h8, h9, h8, h11, trivial⟩
          · rw [if_neg h11] at h
            have h11 := Bool.eq_false_iff.2 h11
            obtain ⟨x9, h12, h⟩ := bind_some h
            have ch12 := f72_ok F x2 _ h12
            try dsimp only at h
            obtain ⟨x10, h13, h⟩ := bind_some h
            have ch13 := f72_ok F x3 _ h13
            try dsimp only at h
            by_cases h14 : (decide ((w64 ((w64 ((w64 (x1 * x1)) + x9)) + x10)) > 30)) = true
            · rw [if_pos h14] at h
              obtain rfl := Option.some.inj h
              exact callOK cxOK cxW Try.func42 (by kernel_rfl) (f42_e3 x1 x2 x3 x4 x6 x7 x8 x9 x10) ⟨ch1, ch4, h5, ch6, (by rw [h7]; rfl), h8, h8, h8, h8, h9, h9, ⟨(at?_spec h10).1, x8, (at?_spec h10).2, rfl⟩, h9, h9, h9, h8, h9, h8, h11, ch12, ch13, h14, trivial⟩
            · rw [if_neg h14] at h
              have h14 := Bool.eq_false_iff.2 h14
              obtain ⟨rh15, h15, h⟩ := bind_some h
              have ch15 := f76_ok F ([x1] : List Int) x1 _ h15
              obtain ⟨x11, x12⟩ := rh15
              try dsimp only at h
              obtain ⟨x20, h26, h⟩ := bind_some h
              have ch26 := f42_p7_ok F x3 x11 x2 F 0 x12 _ h26
              try dsimp only at h
              obtain ⟨h27, h⟩ := req_some h
              obtain ⟨h28, h⟩ := req_some h
              obtain rfl := Option.some.inj h
              exact callOK cxOK cxW Try.func42 (by kernel_rfl) (f42_e4 x1 x2 x3 x4 x6 x7 x8 x9 x10 x11 x12 x20) ⟨ch1, ch4, h5, ch6, (by rw [h7]; rfl), h8, h8, h8, h8, h9, h9, ⟨(at?_spec h10).1, x8, (at?_spec h10).2, rfl⟩, h9, h9, h9, h8, h9, h8, h11, ch12, ch13, h14, ch15, ch26, h27, h28, (Nat.le_of_eq (Nat.zero_add _)), trivial⟩
        · rw [if_neg h9] at h
          have h9 := Bool.eq_false_iff.2 h9
          obtain ⟨x21, h29, h⟩ := bind_some h
          have ch29 := f72_ok F x2 _ h29
          try dsimp only at h
          obtain ⟨x22, h30, h⟩ := bind_some h
          have ch30 := f72_ok F x3 _ h30
          try dsimp only at h
          by_cases h31 : (decide ((w64 ((w64 ((w64 (x1 * x1)) + x21)) + x22)) > 30)) = true
          · rw [if_pos h31] at h
            obtain rfl := Option.some.inj h
            exact callOK cxOK cxW Try.func42 (by kernel_rfl) (f42_e5 x1 x2 x3 x4 x6 x7 x21 x22) ⟨ch1, ch4, h5, ch6, (by rw [h7]; rfl), h8, h8, h8, h8, h9, h9, h9, h9, h9, h8, h9, h8, rfl, ch29, ch30, h31, trivial⟩
          · rw [if_neg h31] at h
            have h31 := Bool.eq_false_iff.2 h31
            obtain ⟨rh32, h32, h⟩ := bind_some h
            have ch32 := f76_ok F ([x1] : List Int) x1 _ h32
            obtain ⟨x23, x24⟩ := rh32
            try dsimp only at h
            obtain ⟨x32, h43, h⟩ := bind_some h
            have ch43 := f42_p7_1_ok F x3 x23 x2 F 0 x24 _ h43
            try dsimp only at h
            obtain ⟨h44, h⟩ := req_some h
            obtain ⟨h45, h⟩ := req_some h
            obtain rfl := Option.some.inj h
            exact callOK cxOK cxW Try.func42 (by kernel_rfl) (f42_e6 x1 x2 x3 x4 x6 x7 x21 x22 x23 x24 x32) ⟨ch1, ch4, h5, ch6, (by rw [h7]; rfl), h8, h8, h8, h8, h9, h9, h9, h9, h9, h8, h9, h8, rfl, ch29, ch30, h31, ch32, ch43, h44, h45, (Nat.le_of_eq (Nat.zero_add _)), trivial⟩
    · rw [if_neg h7] at h
      have h7 := Bool.eq_false_iff.2 h7
      obtain rfl := Option.some.inj h
      exact callOK cxOK cxW Try.func42 (by kernel_rfl) (f42_e7 x1 x2 x3 x4 x6 x7) ⟨ch1, ch4, h5, ch6, (by rw [h7]; rfl), trivial⟩

theorem f77_p2_ok (F : Nat) (x1 x2 : List Int) : ∀ (k : Nat) (x3 : Int) (r : f77_p2_R), f77_p2 F x1 x2 k x3 = some r → f77_p2_P x1 x2 x3 r
  | 0, _, _, h => by cases h
  | k + 1, x3, r, h => by
    unfold f77_p2 at h
    by_cases h2 : (decide (x3 < ((List.length x1 : Nat) : Int))) = true
    · rw [if_pos h2] at h
      obtain ⟨x4, h3, h⟩ := bind_some h
      try dsimp only at h
      obtain ⟨x5, h4, h⟩ := bind_some h
      try dsimp only at h
      by_cases h5 : (x4 != x5) = true
      · rw [if_pos h5] at h
        obtain rfl := Option.some.inj h
        exact Lp.out (gRun_ok cxOK (f77_p2_e0 x1 x2 x3 x4 x5) ⟨h2, ⟨(at?_spec h3).1, x4, (at?_spec h3).2, rfl⟩, ⟨(at?_spec h4).1, x5, (at?_spec h4).2, rfl⟩, h5, trivial⟩) (by intro hh; cases hh)
      · rw [if_neg h5] at h
        have h5 := Bool.eq_false_iff.2 h5
        exact Lp.again (gRun_ok cxOK (f77_p2_e1 x1 x2 x3 x4 x5) ⟨h2, ⟨(at?_spec h3).1, x4, (at?_spec h3).2, rfl⟩, ⟨(at?_spec h4).1, x5, (at?_spec h4).2, rfl⟩, h5, trivial⟩) (f77_p2_ok F x1 x2 k (w64 (x3 + 1)) r h)
    · rw [if_neg h2] at h
      have h2 := Bool.eq_false_iff.2 h2
      obtain rfl := Option.some.inj h
      exact Lp.out (gRun_ok cxOK (f77_p2_e2 x1 x2 x3) ⟨h2, trivial⟩) (by intro hh; cases hh)
theorem f77_ok (F : Nat) (x1 x2 : List Int) (r : Bool) (h : f77 F x1 x2 = some r) : f77_C x1 x2 r := by
  unfold f77 at h
  by_cases h1 : (((List.length x1 : Nat) : Int) != ((List.length x2 : Nat) : Int)) = true
  · rw [if_pos h1] at h
    obtain rfl := Option.some.inj h
    exact callOK cxOK cxW Try.func77 (by kernel_rfl) (f77_e0 x1 x2) ⟨h1, trivial⟩
  · rw [if_neg h1] at h
    have h1 := Bool.eq_false_iff.2 h1
    obtain ⟨rh6, h6, h⟩ := bind_some h
    have ch6 := f77_p2_ok F x1 x2 F 0 _ h6
    cases rh6 with
    | c0 =>
      try dsimp only at h
      obtain rfl := Option.some.inj h
      exact callOK cxOK cxW Try.func77 (by kernel_rfl) (f77_e1 x1 x2) ⟨h1, ch6, trivial⟩
    | c1 =>
      try dsimp only at h
      obtain rfl := Option.some.inj h
      exact callOK cxOK cxW Try.func77 (by kernel_rfl) (f77_e2 x1 x2) ⟨h1, ch6, trivial⟩

theorem f44_p4_ok (F : Nat) (x1 : List Int) (x5 : Int) : ∀ (k : Nat) (x10 : Int) (x9 : List Int) (r : (List Int)), f44_p4 F x1 x5 k x10 x9 = some r → f44_p4_P x1 x5 x10 x9 r
  | 0, _, _, _, h => by cases h
  | k + 1, x10, x9, r, h => by
    unfold f44_p4 at h
    by_cases h10 : (decide (x10 < x5)) = true
    · rw [if_pos h10] at h
      obtain ⟨x11, h11, h⟩ := bind_some h
      try dsimp only at h
      obtain ⟨h12, h⟩ := req_some h
      exact Lp.again (gRun_ok cxOK (f44_p4_e0 x1 x5 x9 x10 x11) ⟨h10, ⟨(at?_spec h11).1, x11, (at?_spec h11).2, rfl⟩, h12, rfl, trivial⟩) (f44_p4_ok F x1 x5 k (w64 (x10 + 1)) (x9 ++ ([(w64 ((w64 (2 * (w64 (x11 - x10)))) - 1))] : List Int)) r h)
    · rw [if_neg h10] at h
      have h10 := Bool.eq_false_iff.2 h10
      obtain rfl := Option.some.inj h
      exact Lp.out (gRun_ok cxOK (f44_p4_e1 x1 x5 x9 x10) ⟨h10, trivial⟩) (by intro hh; cases hh)
theorem f44_ok (F : Nat) (x1 : List Int) (r : (List Int) × Int) (h : f44 F x1 = some r) : f44_C x1 r := by
  unfold f44 at h
  obtain ⟨x2, h1, h⟩ := bind_some h
  have ch1 := f34_ok F x1 _ h1
  try dsimp only at h
  by_cases h2 : (x2 != 0) = true
  · rw [if_pos h2] at h
    obtain rfl := Option.some.inj h
    exact callOK cxOK cxW Try.func44 (by kernel_rfl) (f44_e0 x1 x2) ⟨ch1, h2, trivial⟩
  · rw [if_neg h2] at h
    have h2 := Bool.eq_false_iff.2 h2
    obtain ⟨x3, h3, h⟩ := bind_some h
    have ch3 := f61_ok F x1 _ h3
    try dsimp only at h
    obtain ⟨x4, h4, h⟩ := bind_some h
    have ch4 := f77_ok F x3 x1 _ h4
    try dsimp only at h
    by_cases h5 : x4 = true
    · rw [if_pos h5] at h
      obtain ⟨x5, h6, h⟩ := bind_some h
      have ch6 := f74_ok F x1 _ h6
      try dsimp only at h
      obtain ⟨x12, h13, h⟩ := bind_some h
      have ch13 := f44_p4_ok F x1 x5 F 0 ([] : List Int) _ h13
      try dsimp only at h
      obtain rfl := Option.some.inj h
      exact callOK cxOK cxW Try.func44 (by kernel_rfl) (f44_e1 x1 x2 x3 x4 x5 x12) ⟨ch1, h2, ch3, ch4, (by rw [h5]; rfl), ch6, ch13, (Nat.le_of_eq (Nat.zero_add _)), trivial⟩
    · rw [if_neg h5] at h
      have h5 := Bool.eq_false_iff.2 h5
      obtain rfl := Option.some.inj h
      exact callOK cxOK cxW Try.func44 (by kernel_rfl) (f44_e2 x1 x2 x3 x4) ⟨ch1, h2, ch3, ch4, (by rw [h5]; rfl), trivial⟩

theorem f78_ok (F : Nat) (x1 : Int) (r : Bool) (h : f78 F x1 = some r) : f78_C x1 r := by
  unfold f78 at h
  obtain rfl := Option.some.inj h
  exact callOK cxOK cxW Try.func78 (by kernel_rfl) (f78_e0 x1) ⟨(by decide), trivial⟩

theorem f85_1_p1_ok (F : Nat) (x1 : List Int) : ∀ (k : Nat) (x2 : Int) (r : f85_1_p1_R), f85_1_p1 F x1 k x2 = some r → f85_1_p1_P x1 x2 r
  | 0, _, _, h => by cases h
  | k + 1, x2, r, h => by
    unfold f85_1_p1 at h
    by_cases h1 : (decide (x2 < ((List.length x1 : Nat) : Int))) = true
    · rw [if_pos h1] at h
      obtain ⟨x3, h2, h⟩ := bind_some h
      try dsimp only at h
      obtain ⟨x4, h3, h⟩ := bind_some h
      have ch3 := f78_ok F x3 _ h3
      try dsimp only at h
      by_cases h4 : x4 = true
      · rw [if_pos h4] at h
        obtain rfl := Option.some.inj h
        exact Lp.out (gRun_ok cxOK (f85_1_p1_e0 x1 x2 x3 x4) ⟨h1, ⟨(at?_spec h2).1, x3, (at?_spec h2).2, rfl⟩, ch3, h4, trivial⟩) (by intro hh; cases hh)
      · rw [if_neg h4] at h
        have h4 := Bool.eq_false_iff.2 h4
        exact Lp.again (gRun_ok cxOK (f85_1_p1_e1 x1 x2 x3 x4) ⟨h1, ⟨(at?_spec h2).1, x3, (at?_spec h2).2, rfl⟩, ch3, h4, trivial⟩) (f85_1_p1_ok F x1 k (w64 (x2 + 1)) r h)
    · rw [if_neg h1] at h
      have h1 := Bool.eq_false_iff.2 h1
      obtain rfl := Option.some.inj h
      exact Lp.out (gRun_ok cxOK (f85_1_p1_e2 x1 x2) ⟨h1, trivial⟩) (by intro hh; cases hh)
theorem f85_1_ok (F : Nat) (x1 : List Int) (r : Int) (h : f85_1 F x1 = some r) : f85_1_C x1 r := by
  unfold f85_1 at h
  obtain ⟨rh5, h5, h⟩ := bind_some h
  have ch5 := f85_1_p1_ok F x1 F 0 _ h5
  cases rh5 with
  | c0 x5 =>
    try dsimp only at h
    obtain rfl := Option.some.inj h
    exact callOK cxOK cxW Try.func85 (by kernel_rfl) (f85_1_e0 x1 x5) ⟨ch5, trivial⟩
  | c1 =>
    try dsimp only at h
    obtain rfl := Option.some.inj h
    exact callOK cxOK cxW Try.func85 (by kernel_rfl) (f85_1_e1 x1) ⟨ch5, trivial⟩

theorem f63_1_ok (F : Nat) (x1 : List Int) (r : Bool) (h : f63_1 F x1 = some r) : f63_1_C x1 r := by
  unfold f63_1 at h
  obtain ⟨x2, h1, h⟩ := bind_some h
  have ch1 := f85_1_ok F x1 _ h1
  try dsimp only at h
  obtain rfl := Option.some.inj h
  exact callOK cxOK cxW Try.func63 (by kernel_rfl) (f63_1_e0 x1 x2) ⟨ch1, trivial⟩

theorem f46_p8_1_ok (F : Nat) (x14 : Int) (x1 : List Int) (x16 : Int) : ∀ (k : Nat) (x20 : Int) (x21 : List Int) (r : (List Int)), f46_p8_1 F x14 x1 x16 k x20 x21 = some r → f46_p8_1_P x14 x1 x16 x20 x21 r
  | 0, _, _, _, h => by cases h
  | k + 1, x20, x21, r, h => by
    unfold f46_p8_1 at h
    by_cases h30 : (decide (x20 < (w64 (Int.tdiv x16 2)))) = true
    · rw [if_pos h30] at h
      obtain ⟨h31, h⟩ := req_some h
      obtain ⟨x22, h32, h⟩ := bind_some h
      try dsimp only at h
      obtain ⟨h33, h⟩ := req_some h
      exact Lp.again (gRun_ok cxOK (f46_p8_1_e0 x1 x14 x16 x20 x21 x22) ⟨h30, h31, ⟨x22, h32, rfl⟩, h31, h33, trivial⟩) (f46_p8_1_ok F x14 x1 x16 k (w64 (x20 + 1)) (List.set x21 (0 + ((Int.toNat (w64 ((w64 (x14 + 1)) + x20))) * 1)) (w64 (x22 + 1))) r h)
    · rw [if_neg h30] at h
      have h30 := Bool.eq_false_iff.2 h30
      obtain rfl := Option.some.inj h
      exact Lp.out (gRun_ok cxOK (f46_p8_1_e1 x1 x14 x16 x20 x21) ⟨h30, trivial⟩) (by intro hh; cases hh)
theorem f46_p4_ok (F : Nat) (x1 : List Int) : ∀ (k : Nat) (x14 : Int) (x15 : List Int) (r : (List Int)), f46_p4 F x1 k x14 x15 = some r → f46_p4_P x1 x14 x15 r
  | 0, _, _, _, h => by cases h
  | k + 1, x14, x15, r, h => by
    unfold f46_p4 at h
    by_cases h21 : (decide (x14 < ((List.length x1 : Nat) : Int))) = true
    · rw [if_pos h21] at h
      obtain ⟨x16, h22, h⟩ := bind_some h
      try dsimp only at h
      obtain ⟨h23, h⟩ := req_some h
      obtain ⟨x17, h24, h⟩ := bind_some h
      try dsimp only at h
      obtain ⟨h25, h⟩ := req_some h
      obtain ⟨x23, h34, h⟩ := bind_some h
      have ch34 := f46_p8_1_ok F x14 x1 x16 F 0 (List.set x15 (0 + ((Int.toNat x14) * 1)) (w64 (x17 + (w64 ((w64 (Int.tdiv x16 2)) + 1))))) _ h34
      try dsimp only at h
      exact Lp.again (gRun_ok cxOK (f46_p4_e0 x1 x14 x15 x16 x17 x23) ⟨h21, ⟨(at?_spec h22).1, x16, (at?_spec h22).2, rfl⟩, (by decide), h23, ⟨x17, h24, rfl⟩, h23, h25, ch34, trivial⟩) (f46_p4_ok F x1 k (w64 (x14 + 1)) x23 r h)
    · rw [if_neg h21] at h
      have h21 := Bool.eq_false_iff.2 h21
      obtain rfl := Option.some.inj h
      exact Lp.out (gRun_ok cxOK (f46_p4_e1 x1 x14 x15) ⟨h21, trivial⟩) (by intro hh; cases hh)
theorem f46_p15_1_ok (F : Nat) (x27 x24 : List Int) (x28 : Int) (r : (List Int)) (h : f46_p15_1 F x27 x24 x28 = some r) : f46_p15_1_P x27 x24 x28 r := by
  unfold f46_p15_1 at h
  by_cases h43 : (decide (((x24)[(Int.toNat x28)]?.getD 0) > 0)) = true
  · rw [if_pos h43] at h
    obtain ⟨h44, h⟩ := req_some h
    obtain rfl := Option.some.inj h
    exact gRun_ok cxOK (f46_p15_1_e0 x24 x27 x28) ⟨h43, h44, rfl, trivial⟩
  · rw [if_neg h43] at h
    have h43 := Bool.eq_false_iff.2 h43
    obtain rfl := Option.some.inj h
    exact gRun_ok cxOK (f46_p15_1_e1 x24 x27 x28) ⟨h43, trivial⟩
theorem f46_p12_ok (F : Nat) (x24 : List Int) : ∀ (k : Nat) (x28 : Int) (x27 : List Int) (r : (List Int)), f46_p12 F x24 k x28 x27 = some r → f46_p12_P x24 x28 x27 r
  | 0, _, _, _, h => by cases h
  | k + 1, x28, x27, r, h => by
    unfold f46_p12 at h
    by_cases h41 : (decide (x28 < 31)) = true
    · rw [if_pos h41] at h
      obtain ⟨h42, h⟩ := req_some h
      obtain ⟨x29, h45, h⟩ := bind_some h
      have ch45 := f46_p15_1_ok F x27 x24 x28 _ h45
      try dsimp only at h
      exact Lp.again (gRun_ok cxOK (f46_p12_e0 x24 x27 x28 x29) ⟨h41, h42, ch45, trivial⟩) (f46_p12_ok F x24 k (w64 (x28 + 1)) x29 r h)
    · rw [if_neg h41] at h
      have h41 := Bool.eq_false_iff.2 h41
      obtain rfl := Option.some.inj h
      exact Lp.out (gRun_ok cxOK (f46_p12_e1 x24 x27 x28) ⟨h41, trivial⟩) (by intro hh; cases hh)
theorem f46_ok (F : Nat) (x1 : List Int) (r : (List Int) × Int) (h : f46 F x1 = some r) : f46_C x1 r := by
  unfold f46 at h
  obtain ⟨x2, h1, h⟩ := bind_some h
  have ch1 := f34_ok F x1 _ h1
  try dsimp only at h
  by_cases h2 : (x2 != 0) = true
  · rw [if_pos h2] at h
    obtain rfl := Option.some.inj h
    exact callOK cxOK cxW Try.func46 (by kernel_rfl) (f46_e0 x1 x2) ⟨ch1, h2, trivial⟩
  · rw [if_neg h2] at h
    have h2 := Bool.eq_false_iff.2 h2
    obtain ⟨x3, h3, h⟩ := bind_some h
    have ch3 := f68_ok F x1 _ h3
    try dsimp only at h
    by_cases h4 : x3 = true
    · rw [if_pos h4] at h
      obtain ⟨x4, h5, h⟩ := bind_some h
      have ch5 := f63_1_ok F x1 _ h5
      try dsimp only at h
      by_cases h6 : x4 = true
      · rw [if_pos h6] at h
        obtain rfl := Option.some.inj h
        exact callOK cxOK cxW Try.func46 (by kernel_rfl) (f46_e1 x1 x2 x3 x4) ⟨ch1, h2, ch3, (by rw [h4]; rfl), (by rw [h4]; rfl), ch5, (by rw [h4]; rfl), h6, trivial⟩
      · rw [if_neg h6] at h
        have h6 := Bool.eq_false_iff.2 h6
        obtain ⟨x24, h35, h⟩ := bind_some h
        have ch35 := f46_p4_ok F x1 F 0 (List.replicate 31 0) _ h35
        try dsimp only at h
        obtain ⟨x30, h46, h⟩ := bind_some h
        have ch46 := f46_p12_ok F x24 F 0 ([] : List Int) _ h46
        try dsimp only at h
        obtain rfl := Option.some.inj h
        exact callOK cxOK cxW Try.func46 (by kernel_rfl) (f46_e2 x1 x2 x3 x4 x24 x30) ⟨ch1, h2, ch3, (by rw [h4]; rfl), (by rw [h4]; rfl), ch5, (by rw [h4]; rfl), h6, ch35, ch46, (Nat.le_of_eq (Nat.zero_add _)), trivial⟩
    · rw [if_neg h4] at h
      have h4 := Bool.eq_false_iff.2 h4
      obtain rfl := Option.some.inj h
      exact callOK cxOK cxW Try.func46 (by kernel_rfl) (f46_e3 x1 x2 x3) ⟨ch1, h2, ch3, (by rw [h4]; rfl), (by rw [h4]; rfl), (by rw [h4]; rfl), rfl, trivial⟩

end Go.Gh.Bunch
