/- Top4F0: printed by wip/tool/gx.py -/
import Derived.Test.YtcaphjiiaclndaaDoorTop4E0
namespace Go.Gh.Top
set_option linter.unusedVariables false
set_option linter.unusedSimpArgs false
open Go.Proofs

theorem f16_ok (F : Nat) (x1 : List Int) (r : (List Int)) (h : f16 F x1 = some r) : f16_C x1 r := by
  unfold f16 at h
  obtain rfl := Option.some.inj h
  exact callOK cxOK cxW Tryd.func16 (by kernel_rfl) (f16_e0 x1) trivial

theorem f117_p1_ok (F : Nat) (x2 : Int) : ∀ (k : Nat) (x3 : ByteArray) (r : ByteArray), f117_p1 F x2 k x3 = some r → f117_p1_P x2 x3 r
  | 0, _, _, h => by cases h
  | k + 1, x3, r, h => by
    unfold f117_p1 at h
    by_cases h1 : (decide (((ByteArray.size x3 : Nat) : Int) > 0)) = true
    · rw [if_pos h1] at h
      obtain ⟨h2, h⟩ := req_some h
      by_cases h3 : ((strAt x3 (w64 (((ByteArray.size x3 : Nat) : Int) - 1))) == x2) = true
      · rw [if_pos h3] at h
        obtain ⟨h4, h⟩ := req_some h
        exact Lp.again (gRun_ok cxOK (f117_p1_e0 x2 x3) ⟨h1, h1, h1, h1, h1, h2, h1, h1, h1, h3, h4, trivial⟩) (f117_p1_ok F x2 k (ByteArray.extract x3 0 (Int.toNat (w64 (((ByteArray.size x3 : Nat) : Int) - 1)))) r h)
      · rw [if_neg h3] at h
        have h3 := Bool.eq_false_iff.2 h3
        obtain rfl := Option.some.inj h
        exact Lp.out (gRun_ok cxOK (f117_p1_e1 x2 x3) ⟨h1, h1, h1, h1, h1, h2, h1, h1, h1, h3, trivial⟩) (by intro hh; cases hh)
    · rw [if_neg h1] at h
      have h1 := Bool.eq_false_iff.2 h1
      obtain rfl := Option.some.inj h
      exact Lp.out (gRun_ok cxOK (f117_p1_e2 x2 x3) ⟨h1, h1, h1, h1, h1, h1, h1, h1, rfl, trivial⟩) (by intro hh; cases hh)
theorem f117_ok (F : Nat) (x1 : ByteArray) (x2 : Int) (r : ByteArray) (h : f117 F x1 x2 = some r) : f117_C x1 x2 r := by
  unfold f117 at h
  obtain ⟨x4, h5, h⟩ := bind_some h
  have ch5 := f117_p1_ok F x2 F x1 _ h5
  try dsimp only at h
  obtain rfl := Option.some.inj h
  exact callOK cxOK cxW Tryd.func117 (by kernel_rfl) (f117_e0 x1 x2 x4) ⟨ch5, trivial⟩

theorem f116_p1_ok (F : Nat) (x2 : Int) : ∀ (k : Nat) (x3 : ByteArray) (r : ByteArray), f116_p1 F x2 k x3 = some r → f116_p1_P x2 x3 r
  | 0, _, _, h => by cases h
  | k + 1, x3, r, h => by
    unfold f116_p1 at h
    by_cases h1 : (decide (((ByteArray.size x3 : Nat) : Int) > 0)) = true
    · rw [if_pos h1] at h
      obtain ⟨h2, h⟩ := req_some h
      by_cases h3 : ((strAt x3 0) == x2) = true
      · rw [if_pos h3] at h
        obtain ⟨h4, h⟩ := req_some h
        exact Lp.again (gRun_ok cxOK (f116_p1_e0 x2 x3) ⟨h1, h1, h2, h1, h1, h1, h3, h4, trivial⟩) (f116_p1_ok F x2 k (ByteArray.extract x3 1 (ByteArray.size x3)) r h)
      · rw [if_neg h3] at h
        have h3 := Bool.eq_false_iff.2 h3
        obtain rfl := Option.some.inj h
        exact Lp.out (gRun_ok cxOK (f116_p1_e1 x2 x3) ⟨h1, h1, h2, h1, h1, h1, h3, trivial⟩) (by intro hh; cases hh)
    · rw [if_neg h1] at h
      have h1 := Bool.eq_false_iff.2 h1
      obtain rfl := Option.some.inj h
      exact Lp.out (gRun_ok cxOK (f116_p1_e2 x2 x3) ⟨h1, h1, h1, h1, h1, rfl, trivial⟩) (by intro hh; cases hh)
theorem f116_ok (F : Nat) (x1 : ByteArray) (x2 : Int) (r : ByteArray) (h : f116 F x1 x2 = some r) : f116_C x1 x2 r := by
  unfold f116 at h
  obtain ⟨x4, h5, h⟩ := bind_some h
  have ch5 := f116_p1_ok F x2 F x1 _ h5
  try dsimp only at h
  obtain rfl := Option.some.inj h
  exact callOK cxOK cxW Tryd.func116 (by kernel_rfl) (f116_e0 x1 x2 x4) ⟨ch5, trivial⟩

theorem f118_p1_ok (F : Nat) (x1 : ByteArray) : ∀ (k : Nat) (x3 : Int) (x4 : List Bool) (r : f118_p1_R), f118_p1 F x1 k x3 x4 = some r → f118_p1_P x1 x3 x4 r
  | 0, _, _, _, h => by cases h
  | k + 1, x3, x4, r, h => by
    unfold f118_p1 at h
    by_cases h6 : (decide (x3 < ((ByteArray.size x1 : Nat) : Int))) = true
    · rw [if_pos h6] at h
      obtain ⟨h7, h⟩ := req_some h
      by_cases h8 : (decide ((strAt x1 x3) ≥ 128)) = true
      · rw [if_pos h8] at h
        obtain rfl := Option.some.inj h
        exact Lp.out (gRun_ok cxOK (f118_p1_e0 x1 x3 x4) ⟨h6, h7, h8, trivial⟩) (by intro hh; cases hh)
      · rw [if_neg h8] at h
        have h8 := Bool.eq_false_iff.2 h8
        obtain ⟨h9, h⟩ := req_some h
        obtain ⟨h10, h⟩ := req_some h
        exact Lp.again (gRun_ok cxOK (f118_p1_e1 x1 x3 x4) ⟨h6, h7, h8, h9, h10, trivial⟩) (f118_p1_ok F x1 k (w64 (x3 + 1)) (List.set x4 (0 + ((Int.toNat (strAt x1 x3)) * 1)) true) r h)
    · rw [if_neg h6] at h
      have h6 := Bool.eq_false_iff.2 h6
      obtain rfl := Option.some.inj h
      exact Lp.out (gRun_ok cxOK (f118_p1_e2 x1 x3 x4) ⟨h6, trivial⟩) (by intro hh; cases hh)
theorem f118_ok (F : Nat) (x1 : ByteArray) (r : (List Bool) × Bool) (h : f118 F x1 = some r) : f118_C x1 r := by
  unfold f118 at h
  obtain ⟨rh11, h11, h⟩ := bind_some h
  have ch11 := f118_p1_ok F x1 F 0 (List.replicate 256 false) _ h11
  cases rh11 with
  | c0 x5 =>
    try dsimp only at h
    obtain rfl := Option.some.inj h
    exact callOK cxOK cxW Tryd.func118 (by kernel_rfl) (f118_e0 x1 x5) ⟨ch11, trivial⟩
  | c1 x6 =>
    try dsimp only at h
    obtain rfl := Option.some.inj h
    exact callOK cxOK cxW Tryd.func118 (by kernel_rfl) (f118_e1 x1 x6) ⟨ch11, trivial⟩

theorem f137_ok (F : Nat) (x1 : Int) (x2 : List Bool) (r : Bool) (h : f137 F x1 x2 = some r) : f137_C x1 x2 r := by
  unfold f137 at h
  obtain ⟨h1, h⟩ := req_some h
  obtain ⟨x3, h2, h⟩ := bind_some h
  try dsimp only at h
  obtain rfl := Option.some.inj h
  exact callOK cxOK cxW Tryd.func137 (by kernel_rfl) (f137_e0 x1 x2 x3) ⟨h1, ⟨x3, h2, rfl⟩, trivial⟩

theorem f120_p1_ok (F : Nat) (x2 : List Bool) : ∀ (k : Nat) (x3 : ByteArray) (r : ByteArray), f120_p1 F x2 k x3 = some r → f120_p1_P x2 x3 r
  | 0, _, _, h => by cases h
  | k + 1, x3, r, h => by
    unfold f120_p1 at h
    by_cases h1 : (decide (((ByteArray.size x3 : Nat) : Int) > 0)) = true
    · rw [if_pos h1] at h
      obtain ⟨h2, h⟩ := req_some h
      obtain ⟨x4, h3, h⟩ := bind_some h
      have ch3 := f137_ok F (strAt x3 (w64 (((ByteArray.size x3 : Nat) : Int) - 1))) x2 _ h3
      try dsimp only at h
      by_cases h4 : x4 = true
      · rw [if_pos h4] at h
        obtain ⟨h5, h⟩ := req_some h
        exact Lp.again (gRun_ok cxOK (f120_p1_e0 x2 x3 x4) ⟨h1, h2, ch3, (by rw [h4]; rfl), h5, trivial⟩) (f120_p1_ok F x2 k (ByteArray.extract x3 0 (Int.toNat (w64 (((ByteArray.size x3 : Nat) : Int) - 1)))) r h)
      · rw [if_neg h4] at h
        have h4 := Bool.eq_false_iff.2 h4
        obtain rfl := Option.some.inj h
        exact Lp.out (gRun_ok cxOK (f120_p1_e1 x2 x3 x4) ⟨h1, h2, ch3, (by rw [h4]; rfl), trivial⟩) (by intro hh; cases hh)
    · rw [if_neg h1] at h
      have h1 := Bool.eq_false_iff.2 h1
      obtain rfl := Option.some.inj h
      exact Lp.out (gRun_ok cxOK (f120_p1_e2 x2 x3) ⟨h1, trivial⟩) (by intro hh; cases hh)
theorem f120_ok (F : Nat) (x1 : ByteArray) (x2 : List Bool) (r : ByteArray) (h : f120 F x1 x2 = some r) : f120_C x1 x2 r := by
  unfold f120 at h
  obtain ⟨x5, h6, h⟩ := bind_some h
  have ch6 := f120_p1_ok F x2 F x1 _ h6
  try dsimp only at h
  obtain rfl := Option.some.inj h
  exact callOK cxOK cxW Tryd.func120 (by kernel_rfl) (f120_e0 x1 x2 x5) ⟨ch6, trivial⟩

theorem f119_p1_ok (F : Nat) (x2 : List Bool) : ∀ (k : Nat) (x3 : ByteArray) (r : ByteArray), f119_p1 F x2 k x3 = some r → f119_p1_P x2 x3 r
  | 0, _, _, h => by cases h
  | k + 1, x3, r, h => by
    unfold f119_p1 at h
    by_cases h1 : (decide (((ByteArray.size x3 : Nat) : Int) > 0)) = true
    · rw [if_pos h1] at h
      obtain ⟨h2, h⟩ := req_some h
      obtain ⟨x4, h3, h⟩ := bind_some h
      have ch3 := f137_ok F (strAt x3 0) x2 _ h3
      try dsimp only at h
      by_cases h4 : x4 = true
      · rw [if_pos h4] at h
        obtain ⟨h5, h⟩ := req_some h
        exact Lp.again (gRun_ok cxOK (f119_p1_e0 x2 x3 x4) ⟨h1, h2, ch3, (by rw [h4]; rfl), h5, trivial⟩) (f119_p1_ok F x2 k (ByteArray.extract x3 1 (ByteArray.size x3)) r h)
      · rw [if_neg h4] at h
        have h4 := Bool.eq_false_iff.2 h4
        obtain rfl := Option.some.inj h
        exact Lp.out (gRun_ok cxOK (f119_p1_e1 x2 x3 x4) ⟨h1, h2, ch3, (by rw [h4]; rfl), trivial⟩) (by intro hh; cases hh)
    · rw [if_neg h1] at h
      have h1 := Bool.eq_false_iff.2 h1
      obtain rfl := Option.some.inj h
      exact Lp.out (gRun_ok cxOK (f119_p1_e2 x2 x3) ⟨h1, trivial⟩) (by intro hh; cases hh)
theorem f119_ok (F : Nat) (x1 : ByteArray) (x2 : List Bool) (r : ByteArray) (h : f119 F x1 x2 = some r) : f119_C x1 x2 r := by
  unfold f119 at h
  obtain ⟨x5, h6, h⟩ := bind_some h
  have ch6 := f119_p1_ok F x2 F x1 _ h6
  try dsimp only at h
  obtain rfl := Option.some.inj h
  exact callOK cxOK cxW Tryd.func119 (by kernel_rfl) (f119_e0 x1 x2 x5) ⟨ch6, trivial⟩

theorem f90_ok (F : Nat) (x1 x2 : ByteArray) (r : ByteArray) (h : f90 F x1 x2 = some r) : f90_C x1 x2 r := by
  unfold f90 at h
  by_cases h1 : ((ByteArray.data x1).toList == (ByteArray.data str0).toList) = true
  · rw [if_pos h1] at h
    obtain rfl := Option.some.inj h
    exact callOK cxOK cxW Tryd.func90 (by kernel_rfl) (f90_e0 x1 x2) ⟨h1, h1, h1, rfl, trivial⟩
  · rw [if_neg h1] at h
    have h1 := Bool.eq_false_iff.2 h1
    by_cases h2 : ((ByteArray.data x2).toList == (ByteArray.data str0).toList) = true
    · rw [if_pos h2] at h
      obtain rfl := Option.some.inj h
      exact callOK cxOK cxW Tryd.func90 (by kernel_rfl) (f90_e1 x1 x2) ⟨h1, h1, h1, h2, trivial⟩
    · rw [if_neg h2] at h
      have h2 := Bool.eq_false_iff.2 h2
      by_cases h3 : (((ByteArray.size x2 : Nat) : Int) == 1) = true
      · rw [if_pos h3] at h
        obtain ⟨h4, h⟩ := req_some h
        by_cases h5 : (decide ((strAt x2 0) < 128)) = true
        · rw [if_pos h5] at h
          obtain ⟨x3, h6, h⟩ := bind_some h
          have ch6 := f117_ok F x1 (strAt x2 0) _ h6
          try dsimp only at h
          obtain ⟨x4, h7, h⟩ := bind_some h
          have ch7 := f116_ok F x3 (strAt x2 0) _ h7
          try dsimp only at h
          obtain rfl := Option.some.inj h
          exact callOK cxOK cxW Tryd.func90 (by kernel_rfl) (f90_e2 x1 x2 x3 x4) ⟨h1, h1, h1, h2, h3, h3, h4, h3, h3, h5, h4, ch6, h4, ch7, trivial⟩
        · rw [if_neg h5] at h
          have h5 := Bool.eq_false_iff.2 h5
          obtain ⟨rh8, h8, h⟩ := bind_some h
          have ch8 := f118_ok F x2 _ h8
          obtain ⟨x5, x6⟩ := rh8
          try dsimp only at h
          by_cases h9 : x6 = true
          · rw [if_pos h9] at h
            obtain ⟨x7, h10, h⟩ := bind_some h
            have ch10 := f120_ok F x1 x5 _ h10
            try dsimp only at h
            obtain ⟨x8, h11, h⟩ := bind_some h
            have ch11 := f119_ok F x7 x5 _ h11
            try dsimp only at h
            obtain rfl := Option.some.inj h
            exact callOK cxOK cxW Tryd.func90 (by kernel_rfl) (f90_e3 x1 x2 x5 x6 x7 x8) ⟨h1, h1, h1, h2, h3, h3, h4, h3, h3, h5, ch8, h9, ch10, ch11, trivial⟩
          · rw [if_neg h9] at h
            have h9 := Bool.eq_false_iff.2 h9
            cases h
      · rw [if_neg h3] at h
        have h3 := Bool.eq_false_iff.2 h3
        obtain ⟨rh12, h12, h⟩ := bind_some h
        have ch12 := f118_ok F x2 _ h12
        obtain ⟨x9, x10⟩ := rh12
        try dsimp only at h
        by_cases h13 : x10 = true
        · rw [if_pos h13] at h
          obtain ⟨x11, h14, h⟩ := bind_some h
          have ch14 := f120_ok F x1 x9 _ h14
          try dsimp only at h
          obtain ⟨x12, h15, h⟩ := bind_some h
          have ch15 := f119_ok F x11 x9 _ h15
          try dsimp only at h
          obtain rfl := Option.some.inj h
          exact callOK cxOK cxW Tryd.func90 (by kernel_rfl) (f90_e4 x1 x2 x9 x10 x11 x12) ⟨h1, h1, h1, h2, h3, h3, h3, h3, rfl, ch12, h13, ch14, ch15, trivial⟩
        · rw [if_neg h13] at h
          have h13 := Bool.eq_false_iff.2 h13
          cases h

theorem f50_ok (F : Nat) (x1 : ByteArray) (r : Int) (h : f50 F x1 = some r) : f50_C x1 r := by
  unfold f50 at h
  by_cases h1 : (decide (((ByteArray.size x1 : Nat) : Int) > 16)) = true
  · rw [if_pos h1] at h
    obtain rfl := Option.some.inj h
    exact callOK cxOK cxW Tryd.func50 (by kernel_rfl) (f50_e0 x1) ⟨h1, trivial⟩
  · rw [if_neg h1] at h
    have h1 := Bool.eq_false_iff.2 h1
    obtain ⟨x2, h2, h⟩ := bind_some h
    have ch2 := f90_ok F x1 (⟨#[99, 110]⟩) _ h2
    try dsimp only at h
    by_cases h3 : ((ByteArray.data x2).toList == (ByteArray.data str0).toList) = true
    · rw [if_pos h3] at h
      obtain rfl := Option.some.inj h
      exact callOK cxOK cxW Tryd.func50 (by kernel_rfl) (f50_e1 x1 x2) ⟨h1, ch2, (by rw [h3]; rfl), trivial⟩
    · rw [if_neg h3] at h
      have h3 := Bool.eq_false_iff.2 h3
      obtain rfl := Option.some.inj h
      exact callOK cxOK cxW Tryd.func50 (by kernel_rfl) (f50_e2 x1 x2) ⟨h1, ch2, (by rw [h3]; rfl), trivial⟩

theorem f91_ok (F : Nat) (x1 x2 x3 : Int) (r : Bool) (h : f91 F x1 x2 x3 = some r) : f91_C x1 x2 x3 r := by
  unfold f91 at h
  by_cases h1 : (decide (x1 ≤ x2)) = true
  · rw [if_pos h1] at h
    obtain rfl := Option.some.inj h
    exact callOK cxOK cxW Tryd.func91 (by kernel_rfl) (f91_e0 x1 x2 x3) ⟨h1, h1, h1, h1, trivial⟩
  · rw [if_neg h1] at h
    have h1 := Bool.eq_false_iff.2 h1
    obtain rfl := Option.some.inj h
    exact callOK cxOK cxW Tryd.func91 (by kernel_rfl) (f91_e1 x1 x2 x3) ⟨h1, h1, h1, h1, trivial⟩

theorem f52_p0_ok (F : Nat) (x3 : Int) (x4 : Bool) (r : Int) (h : f52_p0 F x3 x4 = some r) : f52_p0_P x3 x4 r := by
  unfold f52_p0 at h
  by_cases h4 : x4 = true
  · rw [if_pos h4] at h
    obtain rfl := Option.some.inj h
    exact gRun_ok cxOK (f52_p0_e0 x3 x4) ⟨(by rw [h4]; rfl), trivial⟩
  · rw [if_neg h4] at h
    have h4 := Bool.eq_false_iff.2 h4
    obtain rfl := Option.some.inj h
    exact gRun_ok cxOK (f52_p0_e1 x3 x4) ⟨(by rw [h4]; rfl), trivial⟩
theorem f52_ok (F : Nat) (x1 : ByteArray) (x2 : Int) (r : Int) (h : f52 F x1 x2 = some r) : f52_C x1 x2 r := by
  unfold f52 at h
  obtain ⟨x3, h1, h⟩ := bind_some h
  have ch1 := f50_ok F x1 _ h1
  try dsimp only at h
  by_cases h2 : (x3 == 0) = true
  · rw [if_pos h2] at h
    obtain ⟨x4, h3, h⟩ := bind_some h
    have ch3 := f91_ok F 0 x2 20 _ h3
    try dsimp only at h
    obtain ⟨x5, h5, h⟩ := bind_some h
    have ch5 := f52_p0_ok F x3 x4 _ h5
    try dsimp only at h
    obtain rfl := Option.some.inj h
    exact callOK cxOK cxW Tryd.func52 (by kernel_rfl) (f52_e0 x1 x2 x3 x4 x5) ⟨ch1, h2, h2, ch3, h2, h2, ch5, trivial⟩
  · rw [if_neg h2] at h
    have h2 := Bool.eq_false_iff.2 h2
    obtain rfl := Option.some.inj h
    exact callOK cxOK cxW Tryd.func52 (by kernel_rfl) (f52_e1 x1 x2 x3) ⟨ch1, h2, h2, h2, h2, rfl, trivial⟩

theorem f51_p4_1_ok (F : Nat) (x7 : Int) (x6 : List Int) (x8 : ByteArray) (x9 : Int) (r : Int) (h : f51_p4_1 F x7 x6 x8 x9 = some r) : f51_p4_1_P x7 x6 x8 x9 r := by
  unfold f51_p4_1 at h
  by_cases h9 : ((strAt x8 x9) == 99) = true
  · rw [if_pos h9] at h
    obtain rfl := Option.some.inj h
    exact gRun_ok cxOK (f51_p4_1_e0 x6 x7 x8 x9) ⟨h9, trivial⟩
  · rw [if_neg h9] at h
    have h9 := Bool.eq_false_iff.2 h9
    obtain rfl := Option.some.inj h
    exact gRun_ok cxOK (f51_p4_1_e1 x6 x7 x8 x9) ⟨h9, trivial⟩
theorem f51_p1_ok (F : Nat) : ∀ (k : Nat) (x7 : Int) (x6 : List Int) (x8 : ByteArray) (x9 : Int) (r : (List Int)), f51_p1 F k x7 x6 x8 x9 = some r → f51_p1_P x7 x6 x8 x9 r
  | 0, _, _, _, _, _, h => by cases h
  | k + 1, x7, x6, x8, x9, r, h => by
    unfold f51_p1 at h
    by_cases h7 : (decide (x9 < ((ByteArray.size x8 : Nat) : Int))) = true
    · rw [if_pos h7] at h
      obtain ⟨h8, h⟩ := req_some h
      obtain ⟨x10, h10, h⟩ := bind_some h
      have ch10 := f51_p4_1_ok F x7 x6 x8 x9 _ h10
      try dsimp only at h
      obtain ⟨h11, h⟩ := req_some h
      exact Lp.again (gRun_ok cxOK (f51_p1_e0 x6 x7 x8 x9 x10) ⟨h7, h8, rfl, ch10, h11, rfl, trivial⟩) (f51_p1_ok F k x10 (x6 ++ ([x10] : List Int)) x8 (x9 + 1) r h)
    · rw [if_neg h7] at h
      have h7 := Bool.eq_false_iff.2 h7
      obtain ⟨h12, h⟩ := req_some h
      obtain rfl := Option.some.inj h
      exact Lp.out (gRun_ok cxOK (f51_p1_e1 x6 x7 x8 x9) ⟨h7, h12, rfl, trivial⟩) (by intro hh; cases hh)
theorem f51_ok (F : Nat) (x1 : ByteArray) (x2 : Int) (r : (List Int)) (h : f51 F x1 x2 = some r) : f51_C x1 x2 r := by
  unfold f51 at h
  obtain ⟨h1, h⟩ := req_some h
  obtain ⟨x11, h13, h⟩ := bind_some h
  have ch13 := f51_p1_ok F F x2 ([] : List Int) x1 0 _ h13
  try dsimp only at h
  obtain rfl := Option.some.inj h
  exact callOK cxOK cxW Tryd.func51 (by kernel_rfl) (f51_e0 x1 x2 x11) ⟨h1, ch13, (Nat.le_of_eq (Nat.zero_add _)), trivial⟩

theorem f93_ok (F : Nat) (x1 : Int) (r : Bool) (h : f93 F x1 = some r) : f93_C x1 r := by
  unfold f93 at h
  obtain rfl := Option.some.inj h
  exact callOK cxOK cxW Tryd.func93 (by kernel_rfl) (f93_e0 x1) trivial

theorem f92_p1_ok (F : Nat) (x1 : List Int) : ∀ (k : Nat) (x2 : Int) (r : f92_p1_R), f92_p1 F x1 k x2 = some r → f92_p1_P x1 x2 r
  | 0, _, _, h => by cases h
  | k + 1, x2, r, h => by
    unfold f92_p1 at h
    by_cases h1 : (decide (x2 < ((List.length x1 : Nat) : Int))) = true
    · rw [if_pos h1] at h
      obtain ⟨x3, h2, h⟩ := bind_some h
      try dsimp only at h
      obtain ⟨x4, h3, h⟩ := bind_some h
      have ch3 := f93_ok F x3 _ h3
      try dsimp only at h
      by_cases h4 : x4 = true
      · rw [if_pos h4] at h
        obtain rfl := Option.some.inj h
        exact Lp.out (gRun_ok cxOK (f92_p1_e0 x1 x2 x3 x4) ⟨h1, ⟨(at?_spec h2).1, x3, (at?_spec h2).2, rfl⟩, ch3, h4, trivial⟩) (by intro hh; cases hh)
      · rw [if_neg h4] at h
        have h4 := Bool.eq_false_iff.2 h4
        exact Lp.again (gRun_ok cxOK (f92_p1_e1 x1 x2 x3 x4) ⟨h1, ⟨(at?_spec h2).1, x3, (at?_spec h2).2, rfl⟩, ch3, h4, trivial⟩) (f92_p1_ok F x1 k (w64 (x2 + 1)) r h)
    · rw [if_neg h1] at h
      have h1 := Bool.eq_false_iff.2 h1
      obtain rfl := Option.some.inj h
      exact Lp.out (gRun_ok cxOK (f92_p1_e2 x1 x2) ⟨h1, trivial⟩) (by intro hh; cases hh)
theorem f92_ok (F : Nat) (x1 : List Int) (r : Int) (h : f92 F x1 = some r) : f92_C x1 r := by
  unfold f92 at h
  obtain ⟨rh5, h5, h⟩ := bind_some h
  have ch5 := f92_p1_ok F x1 F 0 _ h5
  cases rh5 with
  | c0 x5 =>
    try dsimp only at h
    obtain rfl := Option.some.inj h
    exact callOK cxOK cxW Tryd.func92 (by kernel_rfl) (f92_e0 x1 x5) ⟨ch5, trivial⟩
  | c1 =>
    try dsimp only at h
    obtain rfl := Option.some.inj h
    exact callOK cxOK cxW Tryd.func92 (by kernel_rfl) (f92_e1 x1) ⟨ch5, trivial⟩

theorem f53_ok (F : Nat) (x1 : ByteArray) (x2 : Int) (r : Int) (h : f53 F x1 x2 = some r) : f53_C x1 x2 r := by
  unfold f53 at h
  obtain ⟨x3, h1, h⟩ := bind_some h
  have ch1 := f51_ok F x1 x2 _ h1
  try dsimp only at h
  obtain ⟨x4, h2, h⟩ := bind_some h
  have ch2 := f92_ok F x3 _ h2
  try dsimp only at h
  obtain rfl := Option.some.inj h
  exact callOK cxOK cxW Tryd.func53 (by kernel_rfl) (f53_e0 x1 x2 x3 x4) ⟨ch1, ch2, trivial⟩

theorem f18_ok (F : Nat) (x1 : ByteArray) (x2 : Int) (r : Int × Int) (h : f18 F x1 x2 = some r) : f18_C x1 x2 r := by
  unfold f18 at h
  obtain ⟨x3, h1, h⟩ := bind_some h
  have ch1 := f52_ok F x1 x2 _ h1
  try dsimp only at h
  by_cases h2 : (x3 != 0) = true
  · rw [if_pos h2] at h
    obtain rfl := Option.some.inj h
    exact callOK cxOK cxW Tryd.func18 (by kernel_rfl) (f18_e0 x1 x2 x3) ⟨ch1, h2, trivial⟩
  · rw [if_neg h2] at h
    have h2 := Bool.eq_false_iff.2 h2
    obtain ⟨x4, h3, h⟩ := bind_some h
    have ch3 := f53_ok F x1 x2 _ h3
    try dsimp only at h
    by_cases h4 : (decide (x4 < 0)) = true
    · rw [if_pos h4] at h
      obtain rfl := Option.some.inj h
      exact callOK cxOK cxW Tryd.func18 (by kernel_rfl) (f18_e1 x1 x2 x3 x4) ⟨ch1, h2, ch3, h4, trivial⟩
    · rw [if_neg h4] at h
      have h4 := Bool.eq_false_iff.2 h4
      obtain rfl := Option.some.inj h
      exact callOK cxOK cxW Tryd.func18 (by kernel_rfl) (f18_e2 x1 x2 x3 x4) ⟨ch1, h2, ch3, h4, trivial⟩

theorem f17_p1_ok (F : Nat) (x8 x5 x6 : Int) (r : Int) (h : f17_p1 F x8 x5 x6 = some r) : f17_p1_P x8 x5 x6 r := by
  unfold f17_p1 at h
  by_cases h3 : (x8 == 12) = true
  · rw [if_pos h3] at h
    obtain rfl := Option.some.inj h
    exact gRun_ok cxOK (f17_p1_e0 x5 x6 x8) ⟨h3, trivial⟩
  · rw [if_neg h3] at h
    have h3 := Bool.eq_false_iff.2 h3
    obtain rfl := Option.some.inj h
    exact gRun_ok cxOK (f17_p1_e1 x5 x6 x8) ⟨h3, trivial⟩
theorem f17_p2_ok (F : Nat) (rec : ByteArray → Int → Int → Int → Int → Int → Option Int) (hrec : ∀ (x1 : ByteArray) (x2 x3 : Int) (x4 x5 x6 : Int) (r : Int), rec x1 x2 x3 x4 x5 x6 = some r → f17_C x1 x2 x3 x4 x5 x6 r) (x1 : ByteArray) (x2 x3 : Int) (x4 x5 x6 : Int) (r : Int) (h : f17_p2 F rec x1 x2 x3 x4 x5 x6 = some r) : f17_p2_P x1 x2 x3 x4 x5 x6 r := by
  unfold f17_p2 at h
  by_cases h5 : (decide (x3 > 0)) = true
  · rw [if_pos h5] at h
    obtain ⟨h6, h⟩ := req_some h
    obtain ⟨x10, h7, h⟩ := bind_some h
    have ch7 := hrec (x1 ++ str1) (w64 (x2 - 1)) (w64 (x3 - 1)) x4 x5 x6 _ h7
    try dsimp only at h
    obtain rfl := Option.some.inj h
    exact gRun_ok cxOK (f17_p2_e0 x1 x2 x3 x4 x5 x6 x10) ⟨h5, h6, ch7, trivial⟩
  · rw [if_neg h5] at h
    have h5 := Bool.eq_false_iff.2 h5
    obtain rfl := Option.some.inj h
    exact gRun_ok cxOK (f17_p2_e1 x1 x2 x3 x4 x5 x6) ⟨h5, trivial⟩
theorem f17_p3_ok (F : Nat) (rec : ByteArray → Int → Int → Int → Int → Int → Option Int) (hrec : ∀ (x1 : ByteArray) (x2 x3 : Int) (x4 x5 x6 : Int) (r : Int), rec x1 x2 x3 x4 x5 x6 = some r → f17_C x1 x2 x3 x4 x5 x6 r) (x1 : ByteArray) (x2 x3 : Int) (x4 x5 x11 : Int) (r : Int) (h : f17_p3 F rec x1 x2 x3 x4 x5 x11 = some r) : f17_p3_P x1 x2 x3 x4 x5 x11 r := by
  unfold f17_p3 at h
  by_cases h10 : (decide (x2 > 1)) = true
  · rw [if_pos h10] at h
    obtain ⟨h11, h⟩ := req_some h
    obtain ⟨x12, h12, h⟩ := bind_some h
    have ch12 := hrec (x1 ++ str2) (w64 (x2 - 2)) x3 (w64 (x4 - 1)) x5 x11 _ h12
    try dsimp only at h
    obtain rfl := Option.some.inj h
    exact gRun_ok cxOK (f17_p3_e0 x1 x2 x3 x4 x5 x11 x12) ⟨h10, h11, ch12, trivial⟩
  · rw [if_neg h10] at h
    have h10 := Bool.eq_false_iff.2 h10
    obtain rfl := Option.some.inj h
    exact gRun_ok cxOK (f17_p3_e1 x1 x2 x3 x4 x5 x11) ⟨h10, trivial⟩
theorem f17_b_ok (F : Nat) (rec : ByteArray → Int → Int → Int → Int → Int → Option Int) (hrec : ∀ (x1 : ByteArray) (x2 x3 : Int) (x4 x5 x6 : Int) (r : Int), rec x1 x2 x3 x4 x5 x6 = some r → f17_C x1 x2 x3 x4 x5 x6 r) (x1 : ByteArray) (x2 x3 : Int) (x4 x5 x6 : Int) (r : Int) (h : f17_b F rec x1 x2 x3 x4 x5 x6 = some r) : f17_C x1 x2 x3 x4 x5 x6 r := by
  unfold f17_b at h
  by_cases h1 : (x2 == 0) = true
  · rw [if_pos h1] at h
    obtain ⟨rh2, h2, h⟩ := bind_some h
    have ch2 := f18_ok F x1 x5 _ h2
    obtain ⟨x7, x8⟩ := rh2
    try dsimp only at h
    obtain ⟨x9, h4, h⟩ := bind_some h
    have ch4 := f17_p1_ok F x8 x5 x6 _ h4
    try dsimp only at h
    obtain rfl := Option.some.inj h
    exact callOK cxOK cxW Tryd.func17 (by kernel_rfl) (f17_e0 x1 x2 x3 x4 x5 x6 x7 x8 x9) ⟨h1, ch2, ch4, trivial⟩
  · rw [if_neg h1] at h
    have h1 := Bool.eq_false_iff.2 h1
    obtain ⟨x11, h8, h⟩ := bind_some h
    have ch8 := f17_p2_ok F rec hrec x1 x2 x3 x4 x5 x6 _ h8
    try dsimp only at h
    by_cases h9 : (decide (x4 > 0)) = true
    · rw [if_pos h9] at h
      obtain ⟨x13, h13, h⟩ := bind_some h
      have ch13 := f17_p3_ok F rec hrec x1 x2 x3 x4 x5 x11 _ h13
      try dsimp only at h
      obtain rfl := Option.some.inj h
      exact callOK cxOK cxW Tryd.func17 (by kernel_rfl) (f17_e1 x1 x2 x3 x4 x5 x6 x11 x13) ⟨h1, ch8, h9, h9, h9, ch13, trivial⟩
    · rw [if_neg h9] at h
      have h9 := Bool.eq_false_iff.2 h9
      obtain rfl := Option.some.inj h
      exact callOK cxOK cxW Tryd.func17 (by kernel_rfl) (f17_e2 x1 x2 x3 x4 x5 x6 x11) ⟨h1, ch8, h9, h9, h9, rfl, trivial⟩
theorem f17_ok (F : Nat) : ∀ (k : Nat) (x1 : ByteArray) (x2 x3 : Int) (x4 x5 x6 : Int) (r : Int), f17 F k x1 x2 x3 x4 x5 x6 = some r → f17_C x1 x2 x3 x4 x5 x6 r
  | 0, _, _, _, _, _, _, _, h => by cases h
  | k + 1, x1, x2, x3, x4, x5, x6, r, h => f17_b_ok F (f17 F k) (f17_ok F k) x1 x2 x3 x4 x5 x6 r h

theorem f57_ok (F : Nat) (x1 x2 x3 : Int) (r : Bool) (h : f57 F x1 x2 x3 = some r) : f57_C x1 x2 x3 r := by
  unfold f57 at h
  by_cases h1 : (decide (x1 ≥ x2)) = true
  · rw [if_pos h1] at h
    obtain rfl := Option.some.inj h
    exact callOK cxOK cxW Tryd.func57 (by kernel_rfl) (f57_e0 x1 x2 x3) ⟨h1, h1, h1, h1, trivial⟩
  · rw [if_neg h1] at h
    have h1 := Bool.eq_false_iff.2 h1
    obtain rfl := Option.some.inj h
    exact callOK cxOK cxW Tryd.func57 (by kernel_rfl) (f57_e1 x1 x2 x3) ⟨h1, h1, h1, h1, trivial⟩

theorem f124_p4_ok (F : Nat) (x1 : List Int) : ∀ (k : Nat) (x2 x3 : Int) (r : f124_p4_R), f124_p4 F x1 k x2 x3 = some r → f124_p4_P x1 x2 x3 r
  | 0, _, _, _, h => by cases h
  | k + 1, x2, x3, r, h => by
    unfold f124_p4 at h
    by_cases h3 : (decide (x3 < ((List.length x1 : Nat) : Int))) = true
    · rw [if_pos h3] at h
      obtain ⟨x4, h4, h⟩ := bind_some h
      try dsimp only at h
      obtain ⟨x5, h5, h⟩ := bind_some h
      have ch5 := f57_ok F x4 1 30 _ h5
      try dsimp only at h
      by_cases h6 : x5 = true
      · rw [if_pos h6] at h
        by_cases h7 : (decide (x4 ≤ x2)) = true
        · rw [if_pos h7] at h
          obtain rfl := Option.some.inj h
          exact Lp.out (gRun_ok cxOK (f124_p4_e0 x1 x2 x3 x4 x5) ⟨h3, ⟨(at?_spec h4).1, x4, (at?_spec h4).2, rfl⟩, ch5, (by rw [h6]; rfl), h7, trivial⟩) (by intro hh; cases hh)
        · rw [if_neg h7] at h
          have h7 := Bool.eq_false_iff.2 h7
          exact Lp.again (gRun_ok cxOK (f124_p4_e1 x1 x2 x3 x4 x5) ⟨h3, ⟨(at?_spec h4).1, x4, (at?_spec h4).2, rfl⟩, ch5, (by rw [h6]; rfl), h7, trivial⟩) (f124_p4_ok F x1 k x4 (w64 (x3 + 1)) r h)
      · rw [if_neg h6] at h
        have h6 := Bool.eq_false_iff.2 h6
        obtain rfl := Option.some.inj h
        exact Lp.out (gRun_ok cxOK (f124_p4_e2 x1 x2 x3 x4 x5) ⟨h3, ⟨(at?_spec h4).1, x4, (at?_spec h4).2, rfl⟩, ch5, (by rw [h6]; rfl), trivial⟩) (by intro hh; cases hh)
    · rw [if_neg h3] at h
      have h3 := Bool.eq_false_iff.2 h3
      obtain rfl := Option.some.inj h
      exact Lp.out (gRun_ok cxOK (f124_p4_e3 x1 x2 x3) ⟨h3, trivial⟩) (by intro hh; cases hh)
theorem f124_ok (F : Nat) (x1 : List Int) (r : Int) (h : f124 F x1 = some r) : f124_C x1 r := by
  unfold f124 at h
  by_cases h1 : (((List.length x1 : Nat) : Int) == 0) = true
  · rw [if_pos h1] at h
    obtain rfl := Option.some.inj h
    exact callOK cxOK cxW Tryd.func124 (by kernel_rfl) (f124_e0 x1) ⟨h1, trivial⟩
  · rw [if_neg h1] at h
    have h1 := Bool.eq_false_iff.2 h1
    by_cases h2 : (decide (((List.length x1 : Nat) : Int) > 5)) = true
    · rw [if_pos h2] at h
      obtain rfl := Option.some.inj h
      exact callOK cxOK cxW Tryd.func124 (by kernel_rfl) (f124_e1 x1) ⟨h1, h2, trivial⟩
    · rw [if_neg h2] at h
      have h2 := Bool.eq_false_iff.2 h2
      obtain ⟨rh8, h8, h⟩ := bind_some h
      have ch8 := f124_p4_ok F x1 F 0 0 _ h8
      cases rh8 with
      | c0 x6 =>
        try dsimp only at h
        obtain rfl := Option.some.inj h
        exact callOK cxOK cxW Tryd.func124 (by kernel_rfl) (f124_e2 x1 x6) ⟨h1, h2, ch8, trivial⟩
      | c1 =>
        try dsimp only at h
        obtain rfl := Option.some.inj h
        exact callOK cxOK cxW Tryd.func124 (by kernel_rfl) (f124_e3 x1) ⟨h1, h2, ch8, trivial⟩

theorem f125_p0_ok (F : Nat) (x1 : List Int) (r : Unit) (h : f125_p0 F x1 = some r) : f125_p0_P x1 r := by
  unfold f125_p0 at h
  by_cases h1 : (decide (((List.length x1 : Nat) : Int) < 1)) = true
  · rw [if_pos h1] at h
    cases h
  · rw [if_neg h1] at h
    have h1 := Bool.eq_false_iff.2 h1
    obtain rfl := Option.some.inj h
    exact gRun_ok cxOK (f125_p0_e0 x1) ⟨h1, trivial⟩
theorem f125_p2_ok (F : Nat) (x1 : List Int) : ∀ (k : Nat) (x3 x4 : Int) (r : Int), f125_p2 F x1 k x3 x4 = some r → f125_p2_P x1 x3 x4 r
  | 0, _, _, _, h => by cases h
  | k + 1, x3, x4, r, h => by
    unfold f125_p2 at h
    by_cases h4 : (decide (x4 < ((List.length x1 : Nat) : Int))) = true
    · rw [if_pos h4] at h
      obtain ⟨x5, h5, h⟩ := bind_some h
      try dsimp only at h
      exact Lp.again (gRun_ok cxOK (f125_p2_e0 x1 x3 x4 x5) ⟨h4, ⟨(at?_spec h5).1, x5, (at?_spec h5).2, rfl⟩, trivial⟩) (f125_p2_ok F x1 k (if x5 < x3 then x5 else x3) (w64 (x4 + 1)) r h)
    · rw [if_neg h4] at h
      have h4 := Bool.eq_false_iff.2 h4
      obtain rfl := Option.some.inj h
      exact Lp.out (gRun_ok cxOK (f125_p2_e1 x1 x3 x4) ⟨h4, trivial⟩) (by intro hh; cases hh)
theorem f125_ok (F : Nat) (x1 : List Int) (r : Int) (h : f125 F x1 = some r) : f125_C x1 r := by
  unfold f125 at h
  obtain ⟨rh2, h2, h⟩ := bind_some h
  have ch2 := f125_p0_ok F x1 _ h2
  try dsimp only at h
  obtain ⟨x2, h3, h⟩ := bind_some h
  try dsimp only at h
  obtain ⟨x6, h6, h⟩ := bind_some h
  have ch6 := f125_p2_ok F x1 F x2 1 _ h6
  try dsimp only at h
  obtain rfl := Option.some.inj h
  exact callOK cxOK cxW Tryd.func125 (by kernel_rfl) (f125_e0 x1 x2 x6) ⟨ch2, ⟨(at?_spec h3).1, x2, (at?_spec h3).2, rfl⟩, ch6, trivial⟩

theorem f32_p0_ok (F : Nat) (x1 : List Int) (r : Unit) (h : f32_p0 F x1 = some r) : f32_p0_P x1 r := by
  unfold f32_p0 at h
  by_cases h1 : (decide (((List.length x1 : Nat) : Int) < 1)) = true
  · rw [if_pos h1] at h
    cases h
  · rw [if_neg h1] at h
    have h1 := Bool.eq_false_iff.2 h1
    obtain rfl := Option.some.inj h
    exact gRun_ok cxOK (f32_p0_e0 x1) ⟨h1, trivial⟩
theorem f32_p2_ok (F : Nat) (x1 : List Int) : ∀ (k : Nat) (x3 x4 : Int) (r : Int), f32_p2 F x1 k x3 x4 = some r → f32_p2_P x1 x3 x4 r
  | 0, _, _, _, h => by cases h
  | k + 1, x3, x4, r, h => by
    unfold f32_p2 at h
    by_cases h4 : (decide (x4 < ((List.length x1 : Nat) : Int))) = true
    · rw [if_pos h4] at h
      obtain ⟨x5, h5, h⟩ := bind_some h
      try dsimp only at h
      exact Lp.again (gRun_ok cxOK (f32_p2_e0 x1 x3 x4 x5) ⟨h4, ⟨(at?_spec h5).1, x5, (at?_spec h5).2, rfl⟩, trivial⟩) (f32_p2_ok F x1 k (if x5 > x3 then x5 else x3) (w64 (x4 + 1)) r h)
    · rw [if_neg h4] at h
      have h4 := Bool.eq_false_iff.2 h4
      obtain rfl := Option.some.inj h
      exact Lp.out (gRun_ok cxOK (f32_p2_e1 x1 x3 x4) ⟨h4, trivial⟩) (by intro hh; cases hh)
theorem f32_ok (F : Nat) (x1 : List Int) (r : Int) (h : f32 F x1 = some r) : f32_C x1 r := by
  unfold f32 at h
  obtain ⟨rh2, h2, h⟩ := bind_some h
  have ch2 := f32_p0_ok F x1 _ h2
  try dsimp only at h
  obtain ⟨x2, h3, h⟩ := bind_some h
  try dsimp only at h
  obtain ⟨x6, h6, h⟩ := bind_some h
  have ch6 := f32_p2_ok F x1 F x2 1 _ h6
  try dsimp only at h
  obtain rfl := Option.some.inj h
  exact callOK cxOK cxW Tryd.func32 (by kernel_rfl) (f32_e0 x1 x2 x6) ⟨ch2, ⟨(at?_spec h3).1, x2, (at?_spec h3).2, rfl⟩, ch6, trivial⟩

theorem f95_ok (F : Nat) (x1 x2 : List Int) (r : (List Int) × (List Int) × Int) (h : f95 F x1 x2 = some r) : f95_C x1 x2 r := by
  unfold f95 at h
  obtain ⟨x3, h1, h⟩ := bind_some h
  have ch1 := f124_ok F x1 _ h1
  try dsimp only at h
  by_cases h2 : (x3 != 0) = true
  · rw [if_pos h2] at h
    obtain rfl := Option.some.inj h
    exact callOK cxOK cxW Tryd.func95 (by kernel_rfl) (f95_e0 x1 x2 x3) ⟨ch1, h2, trivial⟩
  · rw [if_neg h2] at h
    have h2 := Bool.eq_false_iff.2 h2
    by_cases h3 : (((List.length x2 : Nat) : Int) != ((List.length x1 : Nat) : Int)) = true
    · rw [if_pos h3] at h
      obtain rfl := Option.some.inj h
      exact callOK cxOK cxW Tryd.func95 (by kernel_rfl) (f95_e1 x1 x2 x3) ⟨ch1, h2, h3, trivial⟩
    · rw [if_neg h3] at h
      have h3 := Bool.eq_false_iff.2 h3
      obtain ⟨x4, h4, h⟩ := bind_some h
      have ch4 := f125_ok F x2 _ h4
      try dsimp only at h
      by_cases h5 : (decide (x4 < 0)) = true
      · rw [if_pos h5] at h
        obtain rfl := Option.some.inj h
        exact callOK cxOK cxW Tryd.func95 (by kernel_rfl) (f95_e2 x1 x2 x3 x4) ⟨ch1, h2, h3, ch4, h5, h5, h5, h5, rfl, trivial⟩
      · rw [if_neg h5] at h
        have h5 := Bool.eq_false_iff.2 h5
        obtain ⟨x5, h6, h⟩ := bind_some h
        have ch6 := f32_ok F x2 _ h6
        try dsimp only at h
        by_cases h7 : (decide (x5 > 40)) = true
        · rw [if_pos h7] at h
          obtain rfl := Option.some.inj h
          exact callOK cxOK cxW Tryd.func95 (by kernel_rfl) (f95_e3 x1 x2 x3 x4 x5) ⟨ch1, h2, h3, ch4, h5, h5, ch6, h5, h5, h7, trivial⟩
        · rw [if_neg h7] at h
          have h7 := Bool.eq_false_iff.2 h7
          obtain rfl := Option.some.inj h
          exact callOK cxOK cxW Tryd.func95 (by kernel_rfl) (f95_e4 x1 x2 x3 x4 x5) ⟨ch1, h2, h3, ch4, h5, h5, ch6, h5, h5, h7, trivial⟩

theorem f55_p0_ok (F : Nat) (x6 : Int) (x7 : Bool) (x4 x5 : List Int) (r : Int) (h : f55_p0 F x6 x7 x4 x5 = some r) : f55_p0_P x6 x7 x4 x5 r := by
  unfold f55_p0 at h
  by_cases h4 : x7 = true
  · rw [if_pos h4] at h
    obtain rfl := Option.some.inj h
    exact gRun_ok cxOK (f55_p0_e0 x4 x5 x6 x7) ⟨(by rw [h4]; rfl), trivial⟩
  · rw [if_neg h4] at h
    have h4 := Bool.eq_false_iff.2 h4
    obtain rfl := Option.some.inj h
    exact gRun_ok cxOK (f55_p0_e1 x4 x5 x6 x7) ⟨(by rw [h4]; rfl), trivial⟩
theorem f55_ok (F : Nat) (x1 x2 : List Int) (x3 : Int) (r : (List Int) × (List Int) × Int) (h : f55 F x1 x2 x3 = some r) : f55_C x1 x2 x3 r := by
  unfold f55 at h
  obtain ⟨rh1, h1, h⟩ := bind_some h
  have ch1 := f95_ok F x1 x2 _ h1
  obtain ⟨x4, x5, x6⟩ := rh1
  try dsimp only at h
  by_cases h2 : (x6 == 0) = true
  · rw [if_pos h2] at h
    obtain ⟨x7, h3, h⟩ := bind_some h
    have ch3 := f57_ok F x3 0 1000 _ h3
    try dsimp only at h
    obtain ⟨x8, h5, h⟩ := bind_some h
    have ch5 := f55_p0_ok F x6 x7 x4 x5 _ h5
    try dsimp only at h
    obtain rfl := Option.some.inj h
    exact callOK cxOK cxW Tryd.func55 (by kernel_rfl) (f55_e0 x1 x2 x3 x4 x5 x6 x7 x8) ⟨ch1, h2, h2, ch3, h2, h2, ch5, trivial⟩
  · rw [if_neg h2] at h
    have h2 := Bool.eq_false_iff.2 h2
    obtain rfl := Option.some.inj h
    exact callOK cxOK cxW Tryd.func55 (by kernel_rfl) (f55_e1 x1 x2 x3 x4 x5 x6) ⟨ch1, h2, h2, h2, h2, rfl, trivial⟩

theorem f59_ok (F : Nat) (x1 : List Int) (r : (List Int)) (h : f59 F x1 = some r) : f59_C x1 r := by
  unfold f59 at h
  obtain ⟨h1, h⟩ := req_some h
  obtain ⟨h2, h⟩ := req_some h
  obtain rfl := Option.some.inj h
  exact callOK cxOK cxW Tryd.func59 (by kernel_rfl) (f59_e0 x1) ⟨h1, rfl, h2, (.inl rfl), trivial⟩

theorem f56_p8_5_ok (F : Nat) (x33 : List Int) (x34 x35 : Int) (x36 : List Int) (x53 x56 : Int) (x1 x2 x52 : List Int) (x54 x55 : Int) (r : (List Int)) (h : f56_p8_5 F x33 x34 x35 x36 x53 x56 x1 x2 x52 x54 x55 = some r) : f56_p8_5_P x33 x34 x35 x36 x53 x56 x1 x2 x52 x54 x55 r := by
  unfold f56_p8_5 at h
  by_cases h88 : (decide ((w64 (x53 - (w64 ((w64 (x56 + 1)) * x35)))) ≥ 0)) = true
  · rw [if_pos h88] at h
    obtain ⟨h89, h⟩ := req_some h
    obtain ⟨x57, h90, h⟩ := bind_some h
    try dsimp only at h
    obtain ⟨x58, h91, h⟩ := bind_some h
    try dsimp only at h
    obtain ⟨h92, h⟩ := req_some h
    obtain rfl := Option.some.inj h
    exact gRun_ok cxOK (f56_p8_5_e0 x1 x2 x33 x34 x35 x36 x52 x53 x54 x55 x56 x57 x58) ⟨h88, h89, ⟨x57, h90, rfl⟩, ⟨(at?_spec h91).1, x58, (at?_spec h91).2, rfl⟩, h89, h92, trivial⟩
  · rw [if_neg h88] at h
    have h88 := Bool.eq_false_iff.2 h88
    obtain rfl := Option.some.inj h
    exact gRun_ok cxOK (f56_p8_5_e1 x1 x2 x33 x34 x35 x36 x52 x53 x54 x55 x56) ⟨h88, trivial⟩
theorem f56_p5_1_ok (F : Nat) (x33 : List Int) (x34 x35 : Int) (x36 x1 x2 : List Int) : ∀ (k : Nat) (x53 : Int) (x52 : List Int) (r : (List Int)), f56_p5_1 F x33 x34 x35 x36 x1 x2 k x53 x52 = some r → f56_p5_1_P x33 x34 x35 x36 x1 x2 x53 x52 r
  | 0, _, _, _, h => by cases h
  | k + 1, x53, x52, r, h => by
    unfold f56_p5_1 at h
    by_cases h81 : (decide (x53 ≤ 1000)) = true
    · rw [if_pos h81] at h
      obtain ⟨h82, h⟩ := req_some h
      obtain ⟨x54, h83, h⟩ := bind_some h
      try dsimp only at h
      obtain ⟨h84, h⟩ := req_some h
      obtain ⟨x55, h85, h⟩ := bind_some h
      try dsimp only at h
      obtain ⟨h86, h⟩ := req_some h
      obtain ⟨x56, h87, h⟩ := bind_some h
      try dsimp only at h
      obtain ⟨x59, h93, h⟩ := bind_some h
      have ch93 := f56_p8_5_ok F x33 x34 x35 x36 x53 x56 x1 x2 x52 x54 x55 _ h93
      try dsimp only at h
      exact Lp.again (gRun_ok cxOK (f56_p5_1_e0 x1 x2 x33 x34 x35 x36 x52 x53 x54 x55 x56 x59) ⟨h81, h82, ⟨x54, h83, rfl⟩, h84, ⟨x55, h85, rfl⟩, h82, h86, ⟨(at?_spec h87).1, x56, (at?_spec h87).2, rfl⟩, ch93, trivial⟩) (f56_p5_1_ok F x33 x34 x35 x36 x1 x2 k (w64 (x53 + 1)) x59 r h)
    · rw [if_neg h81] at h
      have h81 := Bool.eq_false_iff.2 h81
      obtain rfl := Option.some.inj h
      exact Lp.out (gRun_ok cxOK (f56_p5_1_e1 x1 x2 x33 x34 x35 x36 x52 x53) ⟨h81, trivial⟩) (by intro hh; cases hh)
theorem f56_p1_ok (F : Nat) (x1 x2 : List Int) : ∀ (k : Nat) (x33 : List Int) (x34 : Int) (r : (List Int)), f56_p1 F x1 x2 k x33 x34 = some r → f56_p1_P x1 x2 x33 x34 r
  | 0, _, _, _, h => by cases h
  | k + 1, x33, x34, r, h => by
    unfold f56_p1 at h
    by_cases h52 : (decide (x34 < ((List.length x1 : Nat) : Int))) = true
    · rw [if_pos h52] at h
      obtain ⟨x35, h53, h⟩ := bind_some h
      try dsimp only at h
      obtain ⟨x36, h54, h⟩ := bind_some h
      have ch54 := f59_ok F x33 _ h54
      try dsimp only at h
      obtain ⟨x60, h94, h⟩ := bind_some h
      have ch94 := f56_p5_1_ok F x33 x34 x35 x36 x1 x2 F x35 x36 _ h94
      try dsimp only at h
      obtain ⟨h95, h⟩ := req_some h
      exact Lp.again (gRun_ok cxOK (f56_p1_e0 x1 x2 x33 x34 x35 x36 x60) ⟨h52, ⟨(at?_spec h53).1, x35, (at?_spec h53).2, rfl⟩, ch54, ch94, h95, trivial⟩) (f56_p1_ok F x1 x2 k (List.drop 0 (List.take (0 + (List.length x36)) x60)) (w64 (x34 + 1)) r h)
    · rw [if_neg h52] at h
      have h52 := Bool.eq_false_iff.2 h52
      obtain rfl := Option.some.inj h
      exact Lp.out (gRun_ok cxOK (f56_p1_e1 x1 x2 x33 x34) ⟨h52, trivial⟩) (by intro hh; cases hh)
theorem f56_ok (F : Nat) (x1 x2 : List Int) (r : (List Int)) (h : f56 F x1 x2 = some r) : f56_C x1 x2 r := by
  unfold f56 at h
  obtain ⟨h1, h⟩ := req_some h
  obtain ⟨h2, h⟩ := req_some h
  obtain ⟨h51, h⟩ := req_some h
  obtain ⟨x61, h96, h⟩ := bind_some h
  have ch96 := f56_p1_ok F x1 x2 F (List.drop 0 (List.take 1001 (List.set (List.replicate 1001 (0 : Int)) 0 1))) 0 _ h96
  try dsimp only at h
  obtain rfl := Option.some.inj h
  exact callOK cxOK cxW Tryd.func56 (by kernel_rfl) (f56_e0 x1 x2 x61) ⟨(by decide), h1, h2, h51, h51, h51, ch96, trivial⟩

theorem f19_ok (F : Nat) (x1 x2 : List Int) (x3 : Int) (r : Int × Int) (h : f19 F x1 x2 x3 = some r) : f19_C x1 x2 x3 r := by
  unfold f19 at h
  obtain ⟨rh1, h1, h⟩ := bind_some h
  have ch1 := f55_ok F x1 x2 x3 _ h1
  obtain ⟨x4, x5, x6⟩ := rh1
  try dsimp only at h
  by_cases h2 : (x6 != 0) = true
  · rw [if_pos h2] at h
    obtain rfl := Option.some.inj h
    exact callOK cxOK cxW Tryd.func19 (by kernel_rfl) (f19_e0 x1 x2 x3 x4 x5 x6) ⟨ch1, h2, trivial⟩
  · rw [if_neg h2] at h
    have h2 := Bool.eq_false_iff.2 h2
    obtain ⟨x7, h3, h⟩ := bind_some h
    have ch3 := f56_ok F x4 x5 _ h3
    try dsimp only at h
    obtain ⟨x8, h4, h⟩ := bind_some h
    try dsimp only at h
    obtain rfl := Option.some.inj h
    exact callOK cxOK cxW Tryd.func19 (by kernel_rfl) (f19_e1 x1 x2 x3 x4 x5 x6 x7 x8) ⟨ch1, h2, ch3, ⟨(at?_spec h4).1, x8, (at?_spec h4).2, rfl⟩, trivial⟩

theorem f20_p4_ok (F : Nat) (x4 x5 x6 : List Int) : ∀ (k : Nat) (x8 x9 : Int) (r : f20_p4_R), f20_p4 F x4 x5 x6 k x8 x9 = some r → f20_p4_P x4 x5 x6 x8 x9 r
  | 0, _, _, _, h => by cases h
  | k + 1, x8, x9, r, h => by
    unfold f20_p4 at h
    by_cases h4 : (decide (x9 < ((List.length x4 : Nat) : Int))) = true
    · rw [if_pos h4] at h
      obtain ⟨x10, h5, h⟩ := bind_some h
      try dsimp only at h
      obtain ⟨x11, h6, h⟩ := bind_some h
      try dsimp only at h
      obtain ⟨x12, h7, h⟩ := bind_some h
      have ch7 := f57_ok F x10 0 x11 _ h7
      try dsimp only at h
      by_cases h8 : x12 = true
      · rw [if_pos h8] at h
        obtain ⟨x13, h9, h⟩ := bind_some h
        try dsimp only at h
        exact Lp.again (gRun_ok cxOK (f20_p4_e0 x4 x5 x6 x8 x9 x10 x11 x12 x13) ⟨h4, ⟨(at?_spec h5).1, x10, (at?_spec h5).2, rfl⟩, ⟨(at?_spec h6).1, x11, (at?_spec h6).2, rfl⟩, ch7, (by rw [h8]; rfl), ⟨(at?_spec h9).1, x13, (at?_spec h9).2, rfl⟩, trivial⟩) (f20_p4_ok F x4 x5 x6 k (w64 (x8 - (w64 (x10 * x13)))) (w64 (x9 + 1)) r h)
      · rw [if_neg h8] at h
        have h8 := Bool.eq_false_iff.2 h8
        obtain rfl := Option.some.inj h
        exact Lp.out (gRun_ok cxOK (f20_p4_e1 x4 x5 x6 x8 x9 x10 x11 x12) ⟨h4, ⟨(at?_spec h5).1, x10, (at?_spec h5).2, rfl⟩, ⟨(at?_spec h6).1, x11, (at?_spec h6).2, rfl⟩, ch7, (by rw [h8]; rfl), trivial⟩) (by intro hh; cases hh)
    · rw [if_neg h4] at h
      have h4 := Bool.eq_false_iff.2 h4
      obtain rfl := Option.some.inj h
      exact Lp.out (gRun_ok cxOK (f20_p4_e2 x4 x5 x6 x8 x9) ⟨h4, trivial⟩) (by intro hh; cases hh)
theorem f20_ok (F : Nat) (x1 x2 : List Int) (x3 : Int) (x4 : List Int) (r : Int) (h : f20 F x1 x2 x3 x4 = some r) : f20_C x1 x2 x3 x4 r := by
  unfold f20 at h
  obtain ⟨rh1, h1, h⟩ := bind_some h
  have ch1 := f55_ok F x1 x2 x3 _ h1
  obtain ⟨x5, x6, x7⟩ := rh1
  try dsimp only at h
  by_cases h2 : (x7 != 0) = true
  · rw [if_pos h2] at h
    obtain rfl := Option.some.inj h
    exact callOK cxOK cxW Tryd.func20 (by kernel_rfl) (f20_e0 x1 x2 x3 x4 x5 x6 x7) ⟨ch1, h2, trivial⟩
  · rw [if_neg h2] at h
    have h2 := Bool.eq_false_iff.2 h2
    by_cases h3 : (((List.length x4 : Nat) : Int) != ((List.length x1 : Nat) : Int)) = true
    · rw [if_pos h3] at h
      obtain rfl := Option.some.inj h
      exact callOK cxOK cxW Tryd.func20 (by kernel_rfl) (f20_e1 x1 x2 x3 x4 x5 x6 x7) ⟨ch1, h2, h3, trivial⟩
    · rw [if_neg h3] at h
      have h3 := Bool.eq_false_iff.2 h3
      obtain ⟨rh10, h10, h⟩ := bind_some h
      have ch10 := f20_p4_ok F x4 x5 x6 F x3 0 _ h10
      cases rh10 with
      | c0 =>
        try dsimp only at h
        obtain rfl := Option.some.inj h
        exact callOK cxOK cxW Tryd.func20 (by kernel_rfl) (f20_e2 x1 x2 x3 x4 x5 x6 x7) ⟨ch1, h2, h3, ch10, trivial⟩
      | c1 x14 =>
        try dsimp only at h
        by_cases h11 : (x14 != 0) = true
        · rw [if_pos h11] at h
          obtain rfl := Option.some.inj h
          exact callOK cxOK cxW Tryd.func20 (by kernel_rfl) (f20_e3 x1 x2 x3 x4 x5 x6 x7 x14) ⟨ch1, h2, h3, ch10, h11, trivial⟩
        · rw [if_neg h11] at h
          have h11 := Bool.eq_false_iff.2 h11
          obtain rfl := Option.some.inj h
          exact callOK cxOK cxW Tryd.func20 (by kernel_rfl) (f20_e4 x1 x2 x3 x4 x5 x6 x7 x14) ⟨ch1, h2, h3, ch10, h11, trivial⟩

theorem f126_p2_ok (F : Nat) (x1 x2 : Int) : ∀ (k : Nat) (x3 x4 : Int) (r : Int), f126_p2 F x1 x2 k x3 x4 = some r → f126_p2_P x1 x2 x3 x4 r
  | 0, _, _, _, h => by cases h
  | k + 1, x3, x4, r, h => by
    unfold f126_p2 at h
    by_cases h2 : (decide (x4 < x2)) = true
    · rw [if_pos h2] at h
      obtain ⟨h3, h⟩ := req_some h
      exact Lp.again (gRun_ok cxOK (f126_p2_e0 x1 x2 x3 x4) ⟨h2, h3, trivial⟩) (f126_p2_ok F x1 x2 k (w64 (Int.tdiv (w64 (x3 * (w64 (x1 - x4)))) (w64 (x4 + 1)))) (w64 (x4 + 1)) r h)
    · rw [if_neg h2] at h
      have h2 := Bool.eq_false_iff.2 h2
      obtain rfl := Option.some.inj h
      exact Lp.out (gRun_ok cxOK (f126_p2_e1 x1 x2 x3 x4) ⟨h2, trivial⟩) (by intro hh; cases hh)
theorem f126_ok (F : Nat) (x1 x2 : Int) (r : Int) (h : f126 F x1 x2 = some r) : f126_C x1 x2 r := by
  unfold f126 at h
  by_cases h1 : (decide (x2 < 0)) = true
  · rw [if_pos h1] at h
    obtain rfl := Option.some.inj h
    exact callOK cxOK cxW Tryd.func126 (by kernel_rfl) (f126_e0 x1 x2) ⟨h1, trivial⟩
  · rw [if_neg h1] at h
    have h1 := Bool.eq_false_iff.2 h1
    obtain ⟨x5, h4, h⟩ := bind_some h
    have ch4 := f126_p2_ok F x1 x2 F 1 0 _ h4
    try dsimp only at h
    obtain rfl := Option.some.inj h
    exact callOK cxOK cxW Tryd.func126 (by kernel_rfl) (f126_e1 x1 x2 x5) ⟨h1, ch4, trivial⟩

theorem f96_ok (F : Nat) (x1 x2 x3 : Int) (r : Int) (h : f96 F x1 x2 x3 = some r) : f96_C x1 x2 x3 r := by
  unfold f96 at h
  by_cases h1 : (decide (x1 < 0)) = true
  · rw [if_pos h1] at h
    obtain rfl := Option.some.inj h
    exact callOK cxOK cxW Tryd.func96 (by kernel_rfl) (f96_e0 x1 x2 x3) ⟨h1, h1, h1, rfl, rfl, rfl, rfl, rfl, rfl, rfl, trivial⟩
  · rw [if_neg h1] at h
    have h1 := Bool.eq_false_iff.2 h1
    by_cases h2 : (decide (x2 < 0)) = true
    · rw [if_pos h2] at h
      obtain rfl := Option.some.inj h
      exact callOK cxOK cxW Tryd.func96 (by kernel_rfl) (f96_e1 x1 x2 x3) ⟨h1, h1, h1, h2, h2, h2, h2, h2, h2, rfl, trivial⟩
    · rw [if_neg h2] at h
      have h2 := Bool.eq_false_iff.2 h2
      by_cases h3 : (decide (x2 > (w64 (x1 + x3)))) = true
      · rw [if_pos h3] at h
        obtain rfl := Option.some.inj h
        exact callOK cxOK cxW Tryd.func96 (by kernel_rfl) (f96_e2 x1 x2 x3) ⟨h1, h1, h1, h2, h2, h2, h2, h2, h2, h3, trivial⟩
      · rw [if_neg h3] at h
        have h3 := Bool.eq_false_iff.2 h3
        obtain ⟨x4, h4, h⟩ := bind_some h
        have ch4 := f126_ok F (w64 (x1 + x2)) x2 _ h4
        try dsimp only at h
        obtain ⟨x5, h5, h⟩ := bind_some h
        have ch5 := f126_ok F (w64 (x1 + x2)) (w64 ((w64 (x2 - x3)) - 1)) _ h5
        try dsimp only at h
        obtain rfl := Option.some.inj h
        exact callOK cxOK cxW Tryd.func96 (by kernel_rfl) (f96_e3 x1 x2 x3 x4 x5) ⟨h1, h1, h1, h2, h2, h2, h2, h2, h2, h3, ch4, ch5, trivial⟩

theorem f58_ok (F : Nat) (x1 x2 x3 : Int) (r : Int × Int) (h : f58 F x1 x2 x3 = some r) : f58_C x1 x2 x3 r := by
  unfold f58 at h
  by_cases h1 : (decide ((if x2 < x1 then x2 else x1) < 0)) = true
  · rw [if_pos h1] at h
    obtain rfl := Option.some.inj h
    exact callOK cxOK cxW Tryd.func58 (by kernel_rfl) (f58_e0 x1 x2 x3) ⟨h1, h1, h1, h1, h1, rfl, rfl, rfl, rfl, rfl, rfl, trivial⟩
  · rw [if_neg h1] at h
    have h1 := Bool.eq_false_iff.2 h1
    by_cases h2 : (decide ((if x2 > x1 then x2 else x1) > 16)) = true
    · rw [if_pos h2] at h
      obtain rfl := Option.some.inj h
      exact callOK cxOK cxW Tryd.func58 (by kernel_rfl) (f58_e1 x1 x2 x3) ⟨h1, h1, h1, h1, h1, h2, h2, h2, h2, h2, rfl, trivial⟩
    · rw [if_neg h2] at h
      have h2 := Bool.eq_false_iff.2 h2
      by_cases h3 : (decide ((w64 (x1 + x2)) > 16)) = true
      · rw [if_pos h3] at h
        obtain rfl := Option.some.inj h
        exact callOK cxOK cxW Tryd.func58 (by kernel_rfl) (f58_e2 x1 x2 x3) ⟨h1, h1, h1, h1, h1, h2, h2, h2, h2, h2, h3, trivial⟩
      · rw [if_neg h3] at h
        have h3 := Bool.eq_false_iff.2 h3
        obtain ⟨x4, h4, h⟩ := bind_some h
        have ch4 := f91_ok F 0 x3 20 _ h4
        try dsimp only at h
        by_cases h5 : x4 = true
        · rw [if_pos h5] at h
          obtain ⟨x5, h6, h⟩ := bind_some h
          have ch6 := f96_ok F x1 x2 x3 _ h6
          try dsimp only at h
          obtain rfl := Option.some.inj h
          exact callOK cxOK cxW Tryd.func58 (by kernel_rfl) (f58_e3 x1 x2 x3 x4 x5) ⟨h1, h1, h1, h1, h1, h2, h2, h2, h2, h2, h3, ch4, (by rw [h5]; rfl), ch6, trivial⟩
        · rw [if_neg h5] at h
          have h5 := Bool.eq_false_iff.2 h5
          obtain rfl := Option.some.inj h
          exact callOK cxOK cxW Tryd.func58 (by kernel_rfl) (f58_e4 x1 x2 x3 x4) ⟨h1, h1, h1, h1, h1, h2, h2, h2, h2, h2, h3, ch4, (by rw [h5]; rfl), trivial⟩

theorem f21_ok (F : Nat) (x1 x2 x3 : Int) (r : Int × Int) (h : f21 F x1 x2 x3 = some r) : f21_C x1 x2 x3 r := by
  unfold f21 at h
  obtain ⟨rh1, h1, h⟩ := bind_some h
  have ch1 := f58_ok F x1 x2 x3 _ h1
  obtain ⟨x4, x5⟩ := rh1
  try dsimp only at h
  obtain rfl := Option.some.inj h
  exact callOK cxOK cxW Tryd.func21 (by kernel_rfl) (f21_e0 x1 x2 x3 x4 x5) ⟨ch1, trivial⟩

theorem f59_1_ok (F : Nat) (x1 : List Int) (r : (List Int)) (h : f59_1 F x1 = some r) : f59_1_C x1 r := by
  unfold f59_1 at h
  obtain ⟨h1, h⟩ := req_some h
  obtain ⟨h2, h⟩ := req_some h
  obtain rfl := Option.some.inj h
  exact callOK cxOK cxW Tryd.func59 (by kernel_rfl) (f59_1_e0 x1) ⟨h1, rfl, h2, (.inl rfl), trivial⟩

theorem f22_p10_ok (F : Nat) (x3 x4 : Int) (x12 x14 : Int) (x10 : List Int) (x15 x11 : Int) (x5 x6 : List Int) (r : Int × Int) (h : f22_p10 F x3 x4 x12 x14 x10 x15 x11 x5 x6 = some r) : f22_p10_P x3 x4 x12 x14 x10 x15 x11 x5 x6 r := by
  unfold f22_p10 at h
  by_cases h16 : (x14 != 0) = true
  · rw [if_pos h16] at h
    obtain rfl := Option.some.inj h
    exact gRun_ok cxOK (f22_p10_e0 x3 x4 x5 x6 x10 x11 x12 x14 x15) ⟨h16, trivial⟩
  · rw [if_neg h16] at h
    have h16 := Bool.eq_false_iff.2 h16
    obtain rfl := Option.some.inj h
    exact gRun_ok cxOK (f22_p10_e1 x3 x4 x5 x6 x10 x11 x12 x14 x15) ⟨h16, trivial⟩
theorem f22_p4_ok (F : Nat) (x3 x4 : Int) (x10 : List Int) (x11 : Int) (x5 x6 : List Int) : ∀ (k : Nat) (x12 x13 : Int) (x14 x15 : Int) (r : Int × Int × Int), f22_p4 F x3 x4 x10 x11 x5 x6 k x12 x13 x14 x15 = some r → f22_p4_P x3 x4 x10 x11 x5 x6 x12 x13 x14 x15 r
  | 0, _, _, _, _, _, h => by cases h
  | k + 1, x12, x13, x14, x15, r, h => by
    unfold f22_p4 at h
    by_cases h11 : (decide (x15 < (w64 (x11 + 1)))) = true
    · rw [if_pos h11] at h
      obtain ⟨x16, h12, h⟩ := bind_some h
      try dsimp only at h
      by_cases h13 : (decide ((w64 (x3 - (w64 (x15 * x16)))) < 0)) = true
      · rw [if_pos h13] at h
        obtain rfl := Option.some.inj h
        exact Lp.out (gRun_ok cxOK (f22_p4_e0 x3 x4 x5 x6 x10 x11 x12 x13 x14 x15 x16) ⟨h11, ⟨(at?_spec h12).1, x16, (at?_spec h12).2, rfl⟩, h13, trivial⟩) (by intro hh; cases hh)
      · rw [if_neg h13] at h
        have h13 := Bool.eq_false_iff.2 h13
        obtain ⟨x17, h14, h⟩ := bind_some h
        try dsimp only at h
        by_cases h15 : (x17 == 0) = true
        · rw [if_pos h15] at h
          exact Lp.again (gRun_ok cxOK (f22_p4_e1 x3 x4 x5 x6 x10 x11 x12 x13 x14 x15 x16 x17) ⟨h11, ⟨(at?_spec h12).1, x16, (at?_spec h12).2, rfl⟩, h13, ⟨(at?_spec h14).1, x17, (at?_spec h14).2, rfl⟩, h15, trivial⟩) (f22_p4_ok F x3 x4 x10 x11 x5 x6 k x12 x13 x14 (w64 (x15 + 1)) r h)
        · rw [if_neg h15] at h
          have h15 := Bool.eq_false_iff.2 h15
          obtain ⟨rh17, h17, h⟩ := bind_some h
          have ch17 := f22_p10_ok F x3 x4 x12 x14 x10 x15 x11 x5 x6 _ h17
          obtain ⟨x18, x19⟩ := rh17
          try dsimp only at h
          exact Lp.again (gRun_ok cxOK (f22_p4_e2 x3 x4 x5 x6 x10 x11 x12 x13 x14 x15 x16 x17 x18 x19) ⟨h11, ⟨(at?_spec h12).1, x16, (at?_spec h12).2, rfl⟩, h13, ⟨(at?_spec h14).1, x17, (at?_spec h14).2, rfl⟩, h15, ch17, trivial⟩) (f22_p4_ok F x3 x4 x10 x11 x5 x6 k x18 x15 x19 (w64 (x15 + 1)) r h)
    · rw [if_neg h11] at h
      have h11 := Bool.eq_false_iff.2 h11
      obtain rfl := Option.some.inj h
      exact Lp.out (gRun_ok cxOK (f22_p4_e3 x3 x4 x5 x6 x10 x11 x12 x13 x14 x15) ⟨h11, trivial⟩) (by intro hh; cases hh)
theorem f22_ok (F : Nat) (x1 x2 : List Int) (x3 x4 : Int) (r : Int × Int × Int) (h : f22 F x1 x2 x3 x4 = some r) : f22_C x1 x2 x3 x4 r := by
  unfold f22 at h
  obtain ⟨rh1, h1, h⟩ := bind_some h
  have ch1 := f55_ok F x1 x2 x3 _ h1
  obtain ⟨x5, x6, x7⟩ := rh1
  try dsimp only at h
  by_cases h2 : (x7 != 0) = true
  · rw [if_pos h2] at h
    obtain rfl := Option.some.inj h
    exact callOK cxOK cxW Tryd.func22 (by kernel_rfl) (f22_e0 x1 x2 x3 x4 x5 x6 x7) ⟨ch1, h2, trivial⟩
  · rw [if_neg h2] at h
    have h2 := Bool.eq_false_iff.2 h2
    obtain ⟨x8, h3, h⟩ := bind_some h
    have ch3 := f57_ok F x4 0 (w64 (((List.length x1 : Nat) : Int) - 1)) _ h3
    try dsimp only at h
    by_cases h4 : x8 = true
    · rw [if_pos h4] at h
      obtain ⟨x9, h5, h⟩ := bind_some h
      have ch5 := f59_1_ok F x6 _ h5
      try dsimp only at h
      obtain ⟨h6, h⟩ := req_some h
      obtain ⟨h7, h⟩ := req_some h
      obtain ⟨h8, h⟩ := req_some h
      obtain ⟨x10, h9, h⟩ := bind_some h
      have ch9 := f56_ok F x5 (List.drop 0 (List.take (0 + (List.length x9)) (List.set x9 (0 + (Int.toNat x4)) 0))) _ h9
      try dsimp only at h
      obtain ⟨x11, h10, h⟩ := bind_some h
      try dsimp only at h
      obtain ⟨rh18, h18, h⟩ := bind_some h
      have ch18 := f22_p4_ok F x3 x4 x10 x11 x5 x6 F 0 0 12 0 _ h18
      obtain ⟨x20, x21, x22⟩ := rh18
      try dsimp only at h
      obtain rfl := Option.some.inj h
      exact callOK cxOK cxW Tryd.func22 (by kernel_rfl) (f22_e1 x1 x2 x3 x4 x5 x6 x7 x8 x9 x10 x11 x20 x21 x22) ⟨ch1, h2, ch3, (by rw [h4]; rfl), ch5, h6, h7, h8, ch9, ⟨(at?_spec h10).1, x11, (at?_spec h10).2, rfl⟩, ch18, trivial⟩
    · rw [if_neg h4] at h
      have h4 := Bool.eq_false_iff.2 h4
      obtain rfl := Option.some.inj h
      exact callOK cxOK cxW Tryd.func22 (by kernel_rfl) (f22_e2 x1 x2 x3 x4 x5 x6 x7 x8) ⟨ch1, h2, ch3, (by rw [h4]; rfl), trivial⟩

theorem f141_1_ok (F : Nat) (x1 : Int) (x2 : List Int) (x3 x4 x5 : Int) (r : Int) (h : f141_1 F x1 x2 x3 x4 x5 = some r) : f141_1_C x1 x2 x3 x4 x5 r := by
  unfold f141_1 at h
  obtain ⟨x6, h1, h⟩ := bind_some h
  try dsimp only at h
  obtain rfl := Option.some.inj h
  exact callOK cxOK cxW Tryd.func141 (by kernel_rfl) (f141_1_e0 x1 x2 x3 x4 x5 x6) ⟨⟨(at?_spec h1).1, x6, (at?_spec h1).2, rfl⟩, trivial⟩

theorem f123_p1_ok (F : Nat) (x3 : Int) (x1 x2 : List Int) : ∀ (k : Nat) (x6 : Int) (x5 : List Int) (r : (List Int)), f123_p1 F x3 x1 x2 k x6 x5 = some r → f123_p1_P x3 x1 x2 x6 x5 r
  | 0, _, _, _, h => by cases h
  | k + 1, x6, x5, r, h => by
    unfold f123_p1 at h
    by_cases h5 : (decide (x6 < (((Int.toNat (w64 (x3 + 1))) : Nat) : Int))) = true
    · rw [if_pos h5] at h
      obtain ⟨h6, h⟩ := req_some h
      obtain ⟨h7, h⟩ := req_some h
      exact Lp.again (gRun_ok cxOK (f123_p1_e0 x1 x2 x3 x5 x6) ⟨h5, h6, h7, trivial⟩) (f123_p1_ok F x3 x1 x2 k (w64 (x6 + 1)) (List.set x5 (0 + (Int.toNat x6)) 1001) r h)
    · rw [if_neg h5] at h
      have h5 := Bool.eq_false_iff.2 h5
      obtain rfl := Option.some.inj h
      exact Lp.out (gRun_ok cxOK (f123_p1_e1 x1 x2 x3 x5 x6) ⟨h5, trivial⟩) (by intro hh; cases hh)
theorem f123_p17_17_ok (F : Nat) (x3 : Int) (x1 : List Int) (x134 x137 : Int) (x136 x167 : Int) (x2 x135 : List Int) (x133 : List (List Int)) (x179 x180 : List Int) (x182 : Int) : ∀ (k : Nat) (x183 : List Int) (r : (List Int)), f123_p17_17 F x3 x1 x134 x137 x136 x167 x2 x135 x133 x179 x180 x182 k x183 = some r → f123_p17_17_P x3 x1 x134 x137 x136 x167 x2 x135 x133 x179 x180 x182 x183 r
  | 0, _, _, h => by cases h
  | k + 1, x183, r, h => by
    unfold f123_p17_17 at h
    by_cases h343 : (decide ((((List.length x183) : Nat) : Int) > 0)) = true
    · rw [if_pos h343] at h
      obtain ⟨h344, h⟩ := req_some h
      obtain ⟨x184, h345, h⟩ := bind_some h
      try dsimp only at h
      obtain ⟨x185, h346, h⟩ := bind_some h
      have ch346 := f141_1_ok F x184 x135 x136 x167 x182 _ h346
      try dsimp only at h
      obtain ⟨x186, h347, h⟩ := bind_some h
      have ch347 := f141_1_ok F x182 x135 x136 x167 x182 _ h347
      try dsimp only at h
      by_cases h348 : (decide (x185 ≥ x186)) = true
      · rw [if_pos h348] at h
        obtain ⟨h349, h⟩ := req_some h
        obtain ⟨h350, h⟩ := req_some h
        exact Lp.again (gRun_ok cxOK (f123_p17_17_e0 x1 x2 x3 x133 x134 x135 x136 x137 x167 x179 x180 x182 x183 x184 x185 x186) ⟨h343, h343, h343, h343, h343, h343, h344, h343, ⟨x184, h345, rfl⟩, h343, ch346, h343, h343, h343, ch347, h343, h343, h348, h349, (Nat.le_refl _), h350, trivial⟩) (f123_p17_17_ok F x3 x1 x134 x137 x136 x167 x2 x135 x133 x179 x180 x182 k (List.drop 0 (List.take (Int.toNat (w64 ((((List.length x183) : Nat) : Int) - 1))) x183)) r h)
      · rw [if_neg h348] at h
        have h348 := Bool.eq_false_iff.2 h348
        obtain rfl := Option.some.inj h
        exact Lp.out (gRun_ok cxOK (f123_p17_17_e1 x1 x2 x3 x133 x134 x135 x136 x137 x167 x179 x180 x182 x183 x184 x185 x186) ⟨h343, h343, h343, h343, h343, h343, h344, h343, ⟨x184, h345, rfl⟩, h343, ch346, h343, h343, h343, ch347, h343, h343, h348, trivial⟩) (by intro hh; cases hh)
    · rw [if_neg h343] at h
      have h343 := Bool.eq_false_iff.2 h343
      obtain rfl := Option.some.inj h
      exact Lp.out (gRun_ok cxOK (f123_p17_17_e2 x1 x2 x3 x133 x134 x135 x136 x137 x167 x179 x180 x182 x183) ⟨h343, h343, h343, h343, h343, h343, h343, h343, h343, h343, h343, h343, h343, rfl, trivial⟩) (by intro hh; cases hh)
theorem f123_p20_17_ok (F : Nat) (x3 : Int) (x1 : List Int) (x134 x137 : Int) (x187 : List Int) (x182 x136 : Int) (x167 x188 : Int) (x2 x135 : List Int) (x133 : List (List Int)) (x179 x180 : List Int) (r : (List Int)) (h : f123_p20_17 F x3 x1 x134 x137 x187 x182 x136 x167 x188 x2 x135 x133 x179 x180 = some r) : f123_p20_17_P x3 x1 x134 x137 x187 x182 x136 x167 x188 x2 x135 x133 x179 x180 r := by
  unfold f123_p20_17 at h
  by_cases h355 : (decide (x188 < (w64 (x182 - x137)))) = true
  · rw [if_pos h355] at h
    obtain ⟨h356, h⟩ := req_some h
    obtain ⟨h357, h⟩ := req_some h
    obtain rfl := Option.some.inj h
    exact gRun_ok cxOK (f123_p20_17_e0 x1 x2 x3 x133 x134 x135 x136 x137 x167 x179 x180 x182 x187 x188) ⟨h355, h356, (Nat.le_refl _), h357, trivial⟩
  · rw [if_neg h355] at h
    have h355 := Bool.eq_false_iff.2 h355
    obtain rfl := Option.some.inj h
    exact gRun_ok cxOK (f123_p20_17_e1 x1 x2 x3 x133 x134 x135 x136 x137 x167 x179 x180 x182 x187 x188) ⟨h355, trivial⟩
theorem f123_p13_5_ok (F : Nat) (x3 : Int) (x1 : List Int) (x134 x137 : Int) (x136 x167 : Int) (x2 x135 : List Int) (x133 : List (List Int)) : ∀ (k : Nat) (x179 x180 : List Int) (x182 : Int) (x181 : List Int) (r : (List Int) × (List Int)), f123_p13_5 F x3 x1 x134 x137 x136 x167 x2 x135 x133 k x179 x180 x182 x181 = some r → f123_p13_5_P x3 x1 x134 x137 x136 x167 x2 x135 x133 x179 x180 x182 x181 r
  | 0, _, _, _, _, _, h => by cases h
  | k + 1, x179, x180, x182, x181, r, h => by
    unfold f123_p13_5 at h
    by_cases h342 : (decide ((w64 (x167 + (w64 (x182 * x136)))) ≤ x3)) = true
    · rw [if_pos h342] at h
      obtain ⟨x187, h351, h⟩ := bind_some h
      have ch351 := f123_p17_17_ok F x3 x1 x134 x137 x136 x167 x2 x135 x133 x179 x180 x182 F x181 _ h351
      try dsimp only at h
      obtain ⟨h352, h⟩ := req_some h
      obtain ⟨h353, h⟩ := req_some h
      obtain ⟨x188, h354, h⟩ := bind_some h
      try dsimp only at h
      obtain ⟨x189, h358, h⟩ := bind_some h
      have ch358 := f123_p20_17_ok F x3 x1 x134 x137 x187 x182 x136 x167 x188 x2 x135 x133 x179 x180 _ h358
      try dsimp only at h
      obtain ⟨h359, h⟩ := req_some h
      obtain ⟨x190, h360, h⟩ := bind_some h
      try dsimp only at h
      obtain ⟨x191, h361, h⟩ := bind_some h
      have ch361 := f141_1_ok F x190 x135 x136 x167 x182 _ h361
      try dsimp only at h
      obtain ⟨h362, h⟩ := req_some h
      obtain ⟨h363, h⟩ := req_some h
      obtain ⟨h364, h⟩ := req_some h
      exact Lp.again (gRun_ok cxOK (f123_p13_5_e0 x1 x2 x3 x133 x134 x135 x136 x137 x167 x179 x180 x181 x182 x187 x188 x189 x190 x191) ⟨h342, ch351, h352, rfl, h353, ⟨x188, h354, rfl⟩, ch358, h359, ⟨x190, h360, rfl⟩, ch361, h359, ⟨x190, h360, rfl⟩, h362, h363, h362, h364, trivial⟩) (f123_p13_5_ok F x3 x1 x134 x137 x136 x167 x2 x135 x133 k (List.set x179 (0 + (Int.toNat (w64 (x167 + (w64 (x182 * x136)))))) (if x191 < 1001 then x191 else 1001)) (List.set x180 (0 + (Int.toNat (w64 (x167 + (w64 (x182 * x136)))))) (w64 (x182 - x190))) (w64 (x182 + 1)) x189 r h)
    · rw [if_neg h342] at h
      have h342 := Bool.eq_false_iff.2 h342
      obtain rfl := Option.some.inj h
      exact Lp.out (gRun_ok cxOK (f123_p13_5_e1 x1 x2 x3 x133 x134 x135 x136 x137 x167 x179 x180 x181 x182) ⟨h342, trivial⟩) (by intro hh; cases hh)
theorem f123_p9_2_ok (F : Nat) (x3 : Int) (x1 : List Int) (x134 x137 x136 : Int) (x2 x135 : List Int) (x133 : List (List Int)) : ∀ (k : Nat) (x167 : Int) (x165 x166 : List Int) (r : (List Int) × (List Int)), f123_p9_2 F x3 x1 x134 x137 x136 x2 x135 x133 k x167 x165 x166 = some r → f123_p9_2_P x3 x1 x134 x137 x136 x2 x135 x133 x167 x165 x166 r
  | 0, _, _, _, _, h => by cases h
  | k + 1, x167, x165, x166, r, h => by
    unfold f123_p9_2 at h
    by_cases h311 : (decide (x167 < (if (w64 (x3 + 1)) < x136 then (w64 (x3 + 1)) else x136))) = true
    · rw [if_pos h311] at h
      obtain ⟨rh365, h365, h⟩ := bind_some h
      have ch365 := f123_p13_5_ok F x3 x1 x134 x137 x136 x167 x2 x135 x133 F x165 x166 0 ([] : List Int) _ h365
      obtain ⟨x192, x193⟩ := rh365
      try dsimp only at h
      exact Lp.again (gRun_ok cxOK (f123_p9_2_e0 x1 x2 x3 x133 x134 x135 x136 x137 x165 x166 x167 x192 x193) ⟨h311, ch365, trivial⟩) (f123_p9_2_ok F x3 x1 x134 x137 x136 x2 x135 x133 k (w64 (x167 + 1)) x192 x193 r h)
    · rw [if_neg h311] at h
      have h311 := Bool.eq_false_iff.2 h311
      obtain rfl := Option.some.inj h
      exact Lp.out (gRun_ok cxOK (f123_p9_2_e1 x1 x2 x3 x133 x134 x135 x136 x137 x165 x166 x167) ⟨h311, trivial⟩) (by intro hh; cases hh)
theorem f123_p5_ok (F : Nat) (x3 : Int) (x1 x2 : List Int) : ∀ (k : Nat) (x134 : Int) (x135 : List Int) (x133 : List (List Int)) (r : (List Int) × (List (List Int))), f123_p5 F x3 x1 x2 k x134 x135 x133 = some r → f123_p5_P x3 x1 x2 x134 x135 x133 r
  | 0, _, _, _, _, h => by cases h
  | k + 1, x134, x135, x133, r, h => by
    unfold f123_p5 at h
    by_cases h253 : (decide (x134 ≥ 0)) = true
    · rw [if_pos h253] at h
      obtain ⟨x136, h254, h⟩ := bind_some h
      try dsimp only at h
      obtain ⟨x137, h255, h⟩ := bind_some h
      try dsimp only at h
      obtain ⟨h256, h⟩ := req_some h
      obtain ⟨rh366, h366, h⟩ := bind_some h
      have ch366 := f123_p9_2_ok F x3 x1 x134 x137 x136 x2 x135 x133 F 0 (List.replicate (Int.toNat (w64 (x3 + 1))) (0 : Int)) (List.replicate (Int.toNat (w64 (x3 + 1))) (0 : Int)) _ h366
      obtain ⟨x194, x195⟩ := rh366
      try dsimp only at h
      obtain ⟨h369, h⟩ := req_some h
      obtain ⟨h370, h⟩ := req_some h
      obtain ⟨h371, h⟩ := req_some h
      obtain ⟨h372, h⟩ := req_some h
      exact Lp.again (gRun_ok cxOK (f123_p5_e0 x1 x2 x3 x133 x134 x135 x136 x137 x194 x195) ⟨h253, ⟨(at?_spec h254).1, x136, (at?_spec h254).2, rfl⟩, ⟨(at?_spec h255).1, x137, (at?_spec h255).2, rfl⟩, h256, h256, ch366, h369, h370, h371, h372, trivial⟩) (f123_p5_ok F x3 x1 x2 k (w64 (x134 - 1)) (List.drop 0 (List.take (0 + (Int.toNat (w64 (x3 + 1)))) x194)) (List.set x133 (0 + (Int.toNat x134)) (List.drop 0 (List.take (0 + (Int.toNat (w64 (x3 + 1)))) x195))) r h)
    · rw [if_neg h253] at h
      have h253 := Bool.eq_false_iff.2 h253
      obtain rfl := Option.some.inj h
      exact Lp.out (gRun_ok cxOK (f123_p5_e1 x1 x2 x3 x133 x134 x135) ⟨h253, trivial⟩) (by intro hh; cases hh)
theorem f123_p23_ok (F : Nat) (x1 x2 : List Int) (x197 : List (List Int)) : ∀ (k : Nat) (x205 x206 : Int) (x204 : List Int) (r : (List Int)), f123_p23 F x1 x2 x197 k x205 x206 x204 = some r → f123_p23_P x1 x2 x197 x205 x206 x204 r
  | 0, _, _, _, _, h => by cases h
  | k + 1, x205, x206, x204, r, h => by
    unfold f123_p23 at h
    by_cases h382 : (decide (x206 < (((Int.toNat ((List.length x1 : Nat) : Int)) : Nat) : Int))) = true
    · rw [if_pos h382] at h
      obtain ⟨h383, h⟩ := req_some h
      obtain ⟨x207, h384, h⟩ := bind_some h
      try dsimp only at h
      obtain ⟨x208, h385, h⟩ := bind_some h
      try dsimp only at h
      obtain ⟨h386, h⟩ := req_some h
      obtain ⟨x209, h387, h⟩ := bind_some h
      try dsimp only at h
      exact Lp.again (gRun_ok cxOK (f123_p23_e0 x1 x2 x197 x204 x205 x206 x207 x208 x209) ⟨h382, h383, ⟨x207, h384, rfl⟩, ⟨(at?_spec h385).1, x208, (at?_spec h385).2, rfl⟩, h386, rfl, ⟨(at?_spec h385).1, x208, (at?_spec h385).2, rfl⟩, ⟨(at?_spec h387).1, x209, (at?_spec h387).2, rfl⟩, trivial⟩) (f123_p23_ok F x1 x2 x197 k (w64 (x205 - (w64 (x208 * x209)))) (w64 (x206 + 1)) (x204 ++ ([x208] : List Int)) r h)
    · rw [if_neg h382] at h
      have h382 := Bool.eq_false_iff.2 h382
      obtain rfl := Option.some.inj h
      exact Lp.out (gRun_ok cxOK (f123_p23_e1 x1 x2 x197 x204 x205 x206) ⟨h382, trivial⟩) (by intro hh; cases hh)
theorem f123_ok (F : Nat) (x1 x2 : List Int) (x3 : Int) (r : (List Int) × Int) (h : f123 F x1 x2 x3 = some r) : f123_C x1 x2 x3 r := by
  unfold f123 at h
  obtain ⟨h1, h⟩ := req_some h
  obtain ⟨x7, h8, h⟩ := bind_some h
  have ch8 := f123_p1_ok F x3 x1 x2 F 0 (List.replicate (Int.toNat (w64 (x3 + 1))) (0 : Int)) _ h8
  try dsimp only at h
  obtain ⟨h9, h⟩ := req_some h
  obtain ⟨h10, h⟩ := req_some h
  obtain ⟨h11, h⟩ := req_some h
  obtain ⟨h252, h⟩ := req_some h
  obtain ⟨rh373, h373, h⟩ := bind_some h
  have ch373 := f123_p5_ok F x3 x1 x2 F (w64 (((List.length x1 : Nat) : Int) - 1)) (List.drop 0 (List.take (0 + (Int.toNat (w64 (x3 + 1)))) (List.set x7 0 0))) (List.replicate (Int.toNat ((List.length x1 : Nat) : Int)) ([] : (List Int))) _ h373
  obtain ⟨x196, x197⟩ := rh373
  try dsimp only at h
  obtain ⟨x198, h374, h⟩ := bind_some h
  try dsimp only at h
  by_cases h375 : (x198 == 1001) = true
  · rw [if_pos h375] at h
    obtain rfl := Option.some.inj h
    exact callOK cxOK cxW Tryd.func123 (by kernel_rfl) (f123_e0 x1 x2 x3 x7 x196 x197 x198) ⟨h1, ch8, h9, h10, h11, h252, h252, ch373, ⟨(at?_spec h374).1, x198, (at?_spec h374).2, rfl⟩, h375, trivial⟩
  · rw [if_neg h375] at h
    have h375 := Bool.eq_false_iff.2 h375
    obtain ⟨x210, h388, h⟩ := bind_some h
    have ch388 := f123_p23_ok F x1 x2 x197 F x3 0 ([] : List Int) _ h388
    try dsimp only at h
    obtain rfl := Option.some.inj h
    exact callOK cxOK cxW Tryd.func123 (by kernel_rfl) (f123_e1 x1 x2 x3 x7 x196 x197 x198 x210) ⟨h1, ch8, h9, h10, h11, h252, h252, ch373, ⟨(at?_spec h374).1, x198, (at?_spec h374).2, rfl⟩, h375, ch388, (Nat.le_of_eq (Nat.zero_add _)), trivial⟩

theorem f94_ok (F : Nat) (x1 x2 : List Int) (x3 : Int) (r : (List Int) × Int) (h : f94 F x1 x2 x3 = some r) : f94_C x1 x2 x3 r := by
  unfold f94 at h
  obtain ⟨rh1, h1, h⟩ := bind_some h
  have ch1 := f55_ok F x1 x2 x3 _ h1
  obtain ⟨x4, x5, x6⟩ := rh1
  try dsimp only at h
  by_cases h2 : (x6 != 0) = true
  · rw [if_pos h2] at h
    obtain rfl := Option.some.inj h
    exact callOK cxOK cxW Tryd.func94 (by kernel_rfl) (f94_e0 x1 x2 x3 x4 x5 x6) ⟨ch1, h2, trivial⟩
  · rw [if_neg h2] at h
    have h2 := Bool.eq_false_iff.2 h2
    obtain ⟨rh3, h3, h⟩ := bind_some h
    have ch3 := f123_ok F x4 x5 x3 _ h3
    obtain ⟨x7, x8⟩ := rh3
    try dsimp only at h
    obtain rfl := Option.some.inj h
    exact callOK cxOK cxW Tryd.func94 (by kernel_rfl) (f94_e1 x1 x2 x3 x4 x5 x6 x7 x8) ⟨ch1, h2, ch3, trivial⟩

theorem f87_p8_2_ok (F : Nat) (x10 x15 : Int) (x1 : List Int) (x11 : Int) (x12 : List Bool) (x13 : Int) (x14 : List Bool) (r : Bool) (h : f87_p8_2 F x10 x15 x1 x11 x12 x13 x14 = some r) : f87_p8_2_P x10 x15 x1 x11 x12 x13 x14 r := by
  unfold f87_p8_2 at h
  by_cases h19 : (x15 == 0) = true
  · rw [if_pos h19] at h
    obtain rfl := Option.some.inj h
    exact gRun_ok cxOK (f87_p8_2_e0 x1 x10 x11 x12 x13 x14 x15) ⟨h19, trivial⟩
  · rw [if_neg h19] at h
    have h19 := Bool.eq_false_iff.2 h19
    obtain rfl := Option.some.inj h
    exact gRun_ok cxOK (f87_p8_2_e1 x1 x10 x11 x12 x13 x14 x15) ⟨h19, trivial⟩
theorem f87_p4_ok (F : Nat) (x1 : List Int) : ∀ (k : Nat) (x10 x11 : Int) (x12 : List Bool) (x13 : Int) (x14 : List Bool) (r : f87_p4_R), f87_p4 F x1 k x10 x11 x12 x13 x14 = some r → f87_p4_P x1 x10 x11 x12 x13 x14 r
  | 0, _, _, _, _, _, _, h => by cases h
  | k + 1, x10, x11, x12, x13, x14, r, h => by
    unfold f87_p4 at h
    by_cases h17 : (decide (x10 < ((List.length x1 : Nat) : Int))) = true
    · rw [if_pos h17] at h
      obtain ⟨x15, h18, h⟩ := bind_some h
      try dsimp only at h
      obtain ⟨x16, h20, h⟩ := bind_some h
      have ch20 := f87_p8_2_ok F x10 x15 x1 x11 x12 x13 x14 _ h20
      try dsimp only at h
      by_cases h21 : x16 = true
      · rw [if_pos h21] at h
        obtain ⟨h22, h⟩ := req_some h
        obtain ⟨h23, h⟩ := req_some h
        exact Lp.again (gRun_ok cxOK (f87_p4_e0 x1 x10 x11 x12 x13 x14 x15 x16) ⟨h17, ⟨(at?_spec h18).1, x15, (at?_spec h18).2, rfl⟩, ch20, h21, h22, h23, trivial⟩) (f87_p4_ok F x1 k (w64 (x10 + 1)) x11 x12 x13 (List.set x14 (0 + ((Int.toNat x10) * 1)) (x15 == 1)) r h)
      · rw [if_neg h21] at h
        have h21 := Bool.eq_false_iff.2 h21
        obtain rfl := Option.some.inj h
        exact Lp.out (gRun_ok cxOK (f87_p4_e1 x1 x10 x11 x12 x13 x14 x15 x16) ⟨h17, ⟨(at?_spec h18).1, x15, (at?_spec h18).2, rfl⟩, ch20, h21, trivial⟩) (by intro hh; cases hh)
    · rw [if_neg h17] at h
      have h17 := Bool.eq_false_iff.2 h17
      obtain rfl := Option.some.inj h
      exact Lp.out (gRun_ok cxOK (f87_p4_e2 x1 x10 x11 x12 x13 x14) ⟨h17, trivial⟩) (by intro hh; cases hh)
theorem f87_ok (F : Nat) (x1 : List Int) (r : Int × (List Bool) × Int) (h : f87 F x1 = some r) : f87_C x1 r := by
  unfold f87 at h
  by_cases h1 : (((List.length x1 : Nat) : Int) == 0) = true
  · rw [if_pos h1] at h
    obtain rfl := Option.some.inj h
    exact callOK cxOK cxW Tryd.func87 (by kernel_rfl) (f87_e0 x1) ⟨h1, trivial⟩
  · rw [if_neg h1] at h
    have h1 := Bool.eq_false_iff.2 h1
    by_cases h2 : (decide (((List.length x1 : Nat) : Int) > 16)) = true
    · rw [if_pos h2] at h
      obtain rfl := Option.some.inj h
      exact callOK cxOK cxW Tryd.func87 (by kernel_rfl) (f87_e1 x1) ⟨h1, h2, trivial⟩
    · rw [if_neg h2] at h
      have h2 := Bool.eq_false_iff.2 h2
      obtain ⟨rh24, h24, h⟩ := bind_some h
      have ch24 := f87_p4_ok F x1 F 0 0 (List.replicate 16 false) ((List.length x1 : Nat) : Int) (List.replicate 16 false) _ h24
      cases rh24 with
      | c0 =>
        try dsimp only at h
        obtain rfl := Option.some.inj h
        exact callOK cxOK cxW Tryd.func87 (by kernel_rfl) (f87_e2 x1) ⟨h1, h2, ch24, trivial⟩
      | c1 x17 x18 x19 x20 =>
        try dsimp only at h
        obtain rfl := Option.some.inj h
        exact callOK cxOK cxW Tryd.func87 (by kernel_rfl) (f87_e3 x1 x17 x18 x19 x20) ⟨h1, h2, ch24, trivial⟩

theorem f88_p4_ok (F : Nat) (x3 x4 : Int) (x2 : List Bool) (r : Int) (h : f88_p4 F x3 x4 x2 = some r) : f88_p4_P x3 x4 x2 r := by
  unfold f88_p4 at h
  by_cases h3 : ((x2)[(Int.toNat x4)]?.getD false) = true
  · rw [if_pos h3] at h
    obtain ⟨h4, h⟩ := req_some h
    obtain rfl := Option.some.inj h
    exact gRun_ok cxOK (f88_p4_e0 x2 x3 x4) ⟨h3, h4, trivial⟩
  · rw [if_neg h3] at h
    have h3 := Bool.eq_false_iff.2 h3
    obtain rfl := Option.some.inj h
    exact gRun_ok cxOK (f88_p4_e1 x2 x3 x4) ⟨h3, trivial⟩
theorem f88_p1_ok (F : Nat) (x2 : List Bool) : ∀ (k : Nat) (x3 x4 : Int) (r : Int), f88_p1 F x2 k x3 x4 = some r → f88_p1_P x2 x3 x4 r
  | 0, _, _, _, h => by cases h
  | k + 1, x3, x4, r, h => by
    unfold f88_p1 at h
    by_cases h1 : (decide (x4 < 16)) = true
    · rw [if_pos h1] at h
      obtain ⟨h2, h⟩ := req_some h
      obtain ⟨x5, h5, h⟩ := bind_some h
      have ch5 := f88_p4_ok F x3 x4 x2 _ h5
      try dsimp only at h
      exact Lp.again (gRun_ok cxOK (f88_p1_e0 x2 x3 x4 x5) ⟨h1, h2, ch5, trivial⟩) (f88_p1_ok F x2 k x5 (w64 (x4 + 1)) r h)
    · rw [if_neg h1] at h
      have h1 := Bool.eq_false_iff.2 h1
      obtain rfl := Option.some.inj h
      exact Lp.out (gRun_ok cxOK (f88_p1_e1 x2 x3 x4) ⟨h1, trivial⟩) (by intro hh; cases hh)
theorem f88_p6_ok (F : Nat) : ∀ (k : Nat) (x7 x8 : Int) (r : Int), f88_p6 F k x7 x8 = some r → f88_p6_P x7 x8 r
  | 0, _, _, _, h => by cases h
  | k + 1, x7, x8, r, h => by
    unfold f88_p6 at h
    by_cases h7 : (decide (x8 < 16)) = true
    · rw [if_pos h7] at h
      obtain ⟨h8, h⟩ := req_some h
      exact Lp.again (gRun_ok cxOK (f88_p6_e0 x7 x8) ⟨h7, h8, trivial⟩) (f88_p6_ok F k (iXor .i64 x7 (iShr .i64 x7 x8)) (w64 (x8 * 2)) r h)
    · rw [if_neg h7] at h
      have h7 := Bool.eq_false_iff.2 h7
      obtain rfl := Option.some.inj h
      exact Lp.out (gRun_ok cxOK (f88_p6_e1 x7 x8) ⟨h7, trivial⟩) (by intro hh; cases hh)
theorem f88_ok (F : Nat) (x1 : Int) (x2 : List Bool) (r : Int) (h : f88 F x1 x2 = some r) : f88_C x1 x2 r := by
  unfold f88 at h
  obtain ⟨x6, h6, h⟩ := bind_some h
  have ch6 := f88_p1_ok F x2 F 0 0 _ h6
  try dsimp only at h
  obtain ⟨x9, h9, h⟩ := bind_some h
  have ch9 := f88_p6_ok F F x6 1 _ h9
  try dsimp only at h
  obtain rfl := Option.some.inj h
  exact callOK cxOK cxW Tryd.func88 (by kernel_rfl) (f88_e0 x1 x2 x6 x9) ⟨ch6, ch9, trivial⟩

theorem f47_ok (F : Nat) (x1 x2 : List Int) (r : Int × Int × Int × Int) (h : f47 F x1 x2 = some r) : f47_C x1 x2 r := by
  unfold f47 at h
  obtain ⟨rh1, h1, h⟩ := bind_some h
  have ch1 := f87_ok F x1 _ h1
  obtain ⟨x3, x4, x5⟩ := rh1
  try dsimp only at h
  by_cases h2 : (x5 != 0) = true
  · rw [if_pos h2] at h
    obtain rfl := Option.some.inj h
    exact callOK cxOK cxW Tryd.func47 (by kernel_rfl) (f47_e0 x1 x2 x3 x4 x5) ⟨ch1, h2, trivial⟩
  · rw [if_neg h2] at h
    have h2 := Bool.eq_false_iff.2 h2
    obtain ⟨rh3, h3, h⟩ := bind_some h
    have ch3 := f87_ok F x2 _ h3
    obtain ⟨x6, x7, x8⟩ := rh3
    try dsimp only at h
    by_cases h4 : (x8 != 0) = true
    · rw [if_pos h4] at h
      obtain rfl := Option.some.inj h
      exact callOK cxOK cxW Tryd.func47 (by kernel_rfl) (f47_e1 x1 x2 x3 x4 x5 x6 x7 x8) ⟨ch1, h2, ch3, h4, trivial⟩
    · rw [if_neg h4] at h
      have h4 := Bool.eq_false_iff.2 h4
      by_cases h5 : (x3 != x6) = true
      · rw [if_pos h5] at h
        obtain rfl := Option.some.inj h
        exact callOK cxOK cxW Tryd.func47 (by kernel_rfl) (f47_e2 x1 x2 x3 x4 x5 x6 x7 x8) ⟨ch1, h2, ch3, h4, h5, trivial⟩
      · rw [if_neg h5] at h
        have h5 := Bool.eq_false_iff.2 h5
        obtain ⟨x9, h6, h⟩ := bind_some h
        have ch6 := f88_ok F x3 x4 _ h6
        try dsimp only at h
        obtain ⟨x10, h7, h⟩ := bind_some h
        have ch7 := f88_ok F x6 x7 _ h7
        try dsimp only at h
        obtain rfl := Option.some.inj h
        exact callOK cxOK cxW Tryd.func47 (by kernel_rfl) (f47_e3 x1 x2 x3 x4 x5 x6 x7 x8 x9 x10) ⟨ch1, h2, ch3, h4, h5, ch6, ch7, trivial⟩

theorem f48_ok (F : Nat) (x1 x2 x3 : Int) (r : Int) (h : f48 F x1 x2 x3 = some r) : f48_C x1 x2 x3 r := by
  unfold f48 at h
  obtain rfl := Option.some.inj h
  exact callOK cxOK cxW Tryd.func48 (by kernel_rfl) (f48_e0 x1 x2 x3) trivial

theorem f128_ok (F : Nat) (x1 : Int) (r : Int) (h : f128 F x1 = some r) : f128_C x1 r := by
  unfold f128 at h
  by_cases h1 : (x1 == 0) = true
  · rw [if_pos h1] at h
    obtain rfl := Option.some.inj h
    exact callOK cxOK cxW Tryd.func128 (by kernel_rfl) (f128_e0 x1) ⟨h1, trivial⟩
  · rw [if_neg h1] at h
    have h1 := Bool.eq_false_iff.2 h1
    obtain ⟨x2, h2, h⟩ := bind_some h
    try dsimp only at h
    obtain rfl := Option.some.inj h
    exact callOK cxOK cxW Tryd.func128 (by kernel_rfl) (f128_e1 x1 x2) ⟨h1, (by decide), ⟨(at?_spec h2).1, at?_lt h2, x2, (at?_spec h2).2, rfl⟩, trivial⟩

theorem f98_ok (F : Nat) (x1 : Int) (r : Int) (h : f98 F x1 = some r) : f98_C x1 r := by
  unfold f98 at h
  obtain ⟨x2, h1, h⟩ := bind_some h
  have ch1 := f128_ok F x1 _ h1
  try dsimp only at h
  obtain rfl := Option.some.inj h
  exact callOK cxOK cxW Tryd.func98 (by kernel_rfl) (f98_e0 x1 x2) ⟨rfl, ch1, trivial⟩

theorem f89_ok (F : Nat) (x1 : Int) (r : Int) (h : f89 F x1 = some r) : f89_C x1 r := by
  unfold f89 at h
  obtain ⟨x2, h1, h⟩ := bind_some h
  have ch1 := f98_ok F (IntKind.wrap .u64 ((w64 (x1 + 1)))) _ h1
  try dsimp only at h
  obtain rfl := Option.some.inj h
  exact callOK cxOK cxW Tryd.func89 (by kernel_rfl) (f89_e0 x1 x2) ⟨ch1, trivial⟩

theorem f49_ok (F : Nat) (x1 x2 x3 : Int) (r : Int × Int × Int × Int) (h : f49 F x1 x2 x3 = some r) : f49_C x1 x2 x3 r := by
  unfold f49 at h
  by_cases h1 : (decide (x2 < x3)) = true
  · rw [if_pos h1] at h
    obtain ⟨x4, h2, h⟩ := bind_some h
    have ch2 := f89_ok F x2 _ h2
    try dsimp only at h
    obtain rfl := Option.some.inj h
    exact callOK cxOK cxW Tryd.func49 (by kernel_rfl) (f49_e0 x1 x2 x3 x4) ⟨h1, ch2, trivial⟩
  · rw [if_neg h1] at h
    have h1 := Bool.eq_false_iff.2 h1
    obtain ⟨x5, h3, h⟩ := bind_some h
    have ch3 := f89_ok F (w64 (x2 - 1)) _ h3
    try dsimp only at h
    obtain rfl := Option.some.inj h
    exact callOK cxOK cxW Tryd.func49 (by kernel_rfl) (f49_e1 x1 x2 x3 x5) ⟨h1, ch3, trivial⟩

theorem f10_p4_ok (F : Nat) : ∀ (k : Nat) (x22 x23 x24 : Int) (x21 : List Int) (r : (List Int)), f10_p4 F k x22 x23 x24 x21 = some r → f10_p4_P x22 x23 x24 x21 r
  | 0, _, _, _, _, _, h => by cases h
  | k + 1, x22, x23, x24, x21, r, h => by
    unfold f10_p4 at h
    obtain ⟨x25, h13, h⟩ := bind_some h
    have ch13 := f48_ok F x22 x23 x24 _ h13
    try dsimp only at h
    by_cases h14 : (decide (x25 > 0)) = true
    · rw [if_pos h14] at h
      obtain ⟨rh15, h15, h⟩ := bind_some h
      have ch15 := f49_ok F x22 x23 x24 _ h15
      obtain ⟨x26, x27, x28, x29⟩ := rh15
      try dsimp only at h
      obtain ⟨h16, h⟩ := req_some h
      exact Lp.again (gRun_ok cxOK (f10_p4_e0 x21 x22 x23 x24 x25 x26 x27 x28 x29) ⟨ch13, h14, ch15, h16, rfl, trivial⟩) (f10_p4_ok F k x27 x28 x29 (x21 ++ ([x26] : List Int)) r h)
    · rw [if_neg h14] at h
      have h14 := Bool.eq_false_iff.2 h14
      obtain rfl := Option.some.inj h
      exact Lp.out (gRun_ok cxOK (f10_p4_e1 x21 x22 x23 x24 x25) ⟨ch13, h14, trivial⟩) (by intro hh; cases hh)
theorem f10_ok (F : Nat) (x1 x2 : List Int) (r : (List Int) × Int) (h : f10 F x1 x2 = some r) : f10_C x1 x2 r := by
  unfold f10 at h
  obtain ⟨rh1, h1, h⟩ := bind_some h
  have ch1 := f47_ok F x1 x2 _ h1
  obtain ⟨x3, x4, x5, x6⟩ := rh1
  try dsimp only at h
  by_cases h2 : (x6 != 0) = true
  · rw [if_pos h2] at h
    obtain rfl := Option.some.inj h
    exact callOK cxOK cxW Tryd.func10 (by kernel_rfl) (f10_e0 x1 x2 x3 x4 x5 x6) ⟨ch1, h2, trivial⟩
  · rw [if_neg h2] at h
    have h2 := Bool.eq_false_iff.2 h2
    obtain ⟨x7, h3, h⟩ := bind_some h
    have ch3 := f48_ok F x3 x4 x5 _ h3
    try dsimp only at h
    by_cases h4 : (decide (x7 > 1000)) = true
    · rw [if_pos h4] at h
      obtain rfl := Option.some.inj h
      exact callOK cxOK cxW Tryd.func10 (by kernel_rfl) (f10_e1 x1 x2 x3 x4 x5 x6 x7) ⟨ch1, h2, ch3, h4, trivial⟩
    · rw [if_neg h4] at h
      have h4 := Bool.eq_false_iff.2 h4
      obtain ⟨x30, h17, h⟩ := bind_some h
      have ch17 := f10_p4_ok F F x3 x4 x5 ([] : List Int) _ h17
      try dsimp only at h
      obtain rfl := Option.some.inj h
      exact callOK cxOK cxW Tryd.func10 (by kernel_rfl) (f10_e2 x1 x2 x3 x4 x5 x6 x7 x30) ⟨ch1, h2, ch3, h4, ch17, (Nat.le_of_eq (Nat.zero_add _)), trivial⟩

theorem f63_p2_ok (F : Nat) (x1 x2 : List Int) : ∀ (k : Nat) (x3 : Int) (r : f63_p2_R), f63_p2 F x1 x2 k x3 = some r → f63_p2_P x1 x2 x3 r
  | 0, _, _, h => by cases h
  | k + 1, x3, r, h => by
    unfold f63_p2 at h
    by_cases h2 : (decide (x3 < ((List.length x1 : Nat) : Int))) = true
    · rw [if_pos h2] at h
      obtain ⟨x4, h3, h⟩ := bind_some h
      try dsimp only at h
      obtain ⟨x5, h4, h⟩ := bind_some h
      try dsimp only at h
      by_cases h5 : (x4 != x5) = true
      · rw [if_pos h5] at h
        obtain rfl := Option.some.inj h
        exact Lp.out (gRun_ok cxOK (f63_p2_e0 x1 x2 x3 x4 x5) ⟨h2, ⟨(at?_spec h3).1, x4, (at?_spec h3).2, rfl⟩, ⟨(at?_spec h4).1, x5, (at?_spec h4).2, rfl⟩, h5, trivial⟩) (by intro hh; cases hh)
      · rw [if_neg h5] at h
        have h5 := Bool.eq_false_iff.2 h5
        exact Lp.again (gRun_ok cxOK (f63_p2_e1 x1 x2 x3 x4 x5) ⟨h2, ⟨(at?_spec h3).1, x4, (at?_spec h3).2, rfl⟩, ⟨(at?_spec h4).1, x5, (at?_spec h4).2, rfl⟩, h5, trivial⟩) (f63_p2_ok F x1 x2 k (w64 (x3 + 1)) r h)
    · rw [if_neg h2] at h
      have h2 := Bool.eq_false_iff.2 h2
      obtain rfl := Option.some.inj h
      exact Lp.out (gRun_ok cxOK (f63_p2_e2 x1 x2 x3) ⟨h2, trivial⟩) (by intro hh; cases hh)
theorem f63_ok (F : Nat) (x1 x2 : List Int) (r : Bool) (h : f63 F x1 x2 = some r) : f63_C x1 x2 r := by
  unfold f63 at h
  by_cases h1 : (((List.length x1 : Nat) : Int) != ((List.length x2 : Nat) : Int)) = true
  · rw [if_pos h1] at h
    obtain rfl := Option.some.inj h
    exact callOK cxOK cxW Tryd.func63 (by kernel_rfl) (f63_e0 x1 x2) ⟨h1, trivial⟩
  · rw [if_neg h1] at h
    have h1 := Bool.eq_false_iff.2 h1
    obtain ⟨rh6, h6, h⟩ := bind_some h
    have ch6 := f63_p2_ok F x1 x2 F 0 _ h6
    cases rh6 with
    | c0 =>
      try dsimp only at h
      obtain rfl := Option.some.inj h
      exact callOK cxOK cxW Tryd.func63 (by kernel_rfl) (f63_e1 x1 x2) ⟨h1, ch6, trivial⟩
    | c1 =>
      try dsimp only at h
      obtain rfl := Option.some.inj h
      exact callOK cxOK cxW Tryd.func63 (by kernel_rfl) (f63_e2 x1 x2) ⟨h1, ch6, trivial⟩

theorem f54_ok (F : Nat) (r : Bool) (h : f54 F = some r) : f54_C r := by
  unfold f54 at h
  obtain ⟨x1, h1, h⟩ := bind_some h
  have ch1 := f16_ok F ([2, 5] : List Int) _ h1
  try dsimp only at h
  obtain ⟨x2, h2, h⟩ := bind_some h
  have ch2 := f16_ok F ([3, 2] : List Int) _ h2
  try dsimp only at h
  obtain ⟨rh3, h3, h⟩ := bind_some h
  have ch3 := f94_ok F x1 x2 11 _ h3
  obtain ⟨x3, x4⟩ := rh3
  try dsimp only at h
  obtain ⟨x5, h4, h⟩ := bind_some h
  have ch4 := f16_ok F ([1, 1, 1] : List Int) _ h4
  try dsimp only at h
  obtain ⟨x6, h5, h⟩ := bind_some h
  have ch5 := f16_ok F ([0, 0, 0] : List Int) _ h5
  try dsimp only at h
  obtain ⟨rh6, h6, h⟩ := bind_some h
  have ch6 := f10_ok F x5 x6 _ h6
  obtain ⟨x7, x8⟩ := rh6
  try dsimp only at h
  by_cases h7 : (x4 == 0) = true
  · rw [if_pos h7] at h
    by_cases h8 : (x8 == 0) = true
    · rw [if_pos h8] at h
      obtain ⟨x9, h9, h⟩ := bind_some h
      have ch9 := f16_ok F ([3, 1] : List Int) _ h9
      try dsimp only at h
      obtain ⟨x10, h10, h⟩ := bind_some h
      have ch10 := f63_ok F x3 x9 _ h10
      try dsimp only at h
      by_cases h11 : x10 = true
      · rw [if_pos h11] at h
        obtain ⟨x11, h12, h⟩ := bind_some h
        have ch12 := f16_ok F ([0, 2, 0, 1, 0] : List Int) _ h12
        try dsimp only at h
        obtain ⟨x12, h13, h⟩ := bind_some h
        have ch13 := f63_ok F x7 x11 _ h13
        try dsimp only at h
        obtain rfl := Option.some.inj h
        exact callOK cxOK cxW Tryd.func54 (by kernel_rfl) (f54_e0 x1 x2 x3 x4 x5 x6 x7 x8 x9 x10 x11 x12) ⟨ch1, ch2, ch3, ch4, ch5, ch6, h7, h7, h7, h8, h8, h8, ch9, h8, ch10, h8, h11, h11, h11, ch12, h11, ch13, h11, trivial⟩
      · rw [if_neg h11] at h
        have h11 := Bool.eq_false_iff.2 h11
        obtain rfl := Option.some.inj h
        exact callOK cxOK cxW Tryd.func54 (by kernel_rfl) (f54_e1 x1 x2 x3 x4 x5 x6 x7 x8 x9 x10) ⟨ch1, ch2, ch3, ch4, ch5, ch6, h7, h7, h7, h8, h8, h8, ch9, h8, ch10, h8, h11, h11, h11, h11, h11, trivial⟩
    · rw [if_neg h8] at h
      have h8 := Bool.eq_false_iff.2 h8
      obtain rfl := Option.some.inj h
      exact callOK cxOK cxW Tryd.func54 (by kernel_rfl) (f54_e2 x1 x2 x3 x4 x5 x6 x7 x8) ⟨ch1, ch2, ch3, ch4, ch5, ch6, h7, h7, h7, h8, h8, h8, h8, h8, rfl, rfl, rfl, rfl, rfl, trivial⟩
  · rw [if_neg h7] at h
    have h7 := Bool.eq_false_iff.2 h7
    obtain rfl := Option.some.inj h
    exact callOK cxOK cxW Tryd.func54 (by kernel_rfl) (f54_e3 x1 x2 x3 x4 x5 x6 x7 x8) ⟨ch1, ch2, ch3, ch4, ch5, ch6, h7, h7, h7, rfl, rfl, rfl, rfl, rfl, rfl, rfl, rfl, rfl, rfl, trivial⟩

theorem f15_ok (F : Nat) (r : Bool) (h : f15 F = some r) : f15_C r := by
  unfold f15 at h
  obtain ⟨rh1, h1, h⟩ := bind_some h
  have ch1 := f21_ok F 3 3 0 _ h1
  obtain ⟨x1, x2⟩ := rh1
  try dsimp only at h
  by_cases h2 : (x2 == 0) = true
  · rw [if_pos h2] at h
    by_cases h3 : (x1 == 5) = true
    · rw [if_pos h3] at h
      obtain ⟨x3, h4, h⟩ := bind_some h
      have ch4 := f54_ok F _ h4
      try dsimp only at h
      obtain rfl := Option.some.inj h
      exact callOK cxOK cxW Tryd.func15 (by kernel_rfl) (f15_e0 x1 x2 x3) ⟨ch1, h2, h2, h2, h3, ch4, h3, trivial⟩
    · rw [if_neg h3] at h
      have h3 := Bool.eq_false_iff.2 h3
      obtain rfl := Option.some.inj h
      exact callOK cxOK cxW Tryd.func15 (by kernel_rfl) (f15_e1 x1 x2) ⟨ch1, h2, h2, h2, h3, h3, trivial⟩
  · rw [if_neg h2] at h
    have h2 := Bool.eq_false_iff.2 h2
    obtain rfl := Option.some.inj h
    exact callOK cxOK cxW Tryd.func15 (by kernel_rfl) (f15_e2 x1 x2) ⟨ch1, h2, h2, h2, rfl, rfl, trivial⟩

theorem f4_p6_ok (F : Nat) (x1 : Int) (x5 x9 : List Int) (x10 x14 : Int) (x2 x8 : Int) : ∀ (k : Nat) (x16 x17 x18 : Int) (r : f4_p6_R), f4_p6 F x1 x5 x9 x10 x14 x2 x8 k x16 x17 x18 = some r → f4_p6_P x1 x5 x9 x10 x14 x2 x8 x16 x17 x18 r
  | 0, _, _, _, _, h => by cases h
  | k + 1, x16, x17, x18, r, h => by
    unfold f4_p6 at h
    obtain ⟨x19, h10, h⟩ := bind_some h
    try dsimp only at h
    by_cases h11 : (decide (x18 ≤ x19)) = true
    · rw [if_pos h11] at h
      obtain ⟨x20, h12, h⟩ := bind_some h
      have ch12 := f16_ok F ([x14, x18] : List Int) _ h12
      try dsimp only at h
      obtain ⟨x21, h13, h⟩ := bind_some h
      have ch13 := f20_ok F x9 x5 (Int.tmod (w64 (x1)) 11) x20 _ h13
      try dsimp only at h
      by_cases h14 : ((x21 == 0) == ((w64 (x14 + (w64 (2 * x18)))) == (Int.tmod (w64 (x1)) 11))) = true
      · rw [if_pos h14] at h
        by_cases h15 : (x21 != 0) = true
        · rw [if_pos h15] at h
          exact Lp.again (gRun_ok cxOK (f4_p6_e0 x1 x2 x5 x8 x9 x10 x14 x16 x17 x18 x19 x20 x21) ⟨⟨(at?_spec h10).1, x19, (at?_spec h10).2, rfl⟩, h11, ch12, ch13, (by rw [h14]; rfl), h15, trivial⟩) (f4_p6_ok F x1 x5 x9 x10 x14 x2 x8 k x16 x17 (w64 (x18 + 1)) r h)
        · rw [if_neg h15] at h
          have h15 := Bool.eq_false_iff.2 h15
          obtain ⟨rh16, h16, h⟩ := bind_some h
          have ch16 := f21_ok F x14 x18 (Int.tmod (w64 (x2)) 4) _ h16
          obtain ⟨x22, x23⟩ := rh16
          try dsimp only at h
          by_cases h17 : (x23 != 0) = true
          · rw [if_pos h17] at h
            obtain rfl := Option.some.inj h
            exact Lp.out (gRun_ok cxOK (f4_p6_e1 x1 x2 x5 x8 x9 x10 x14 x16 x17 x18 x19 x20 x21 x22 x23) ⟨⟨(at?_spec h10).1, x19, (at?_spec h10).2, rfl⟩, h11, ch12, ch13, (by rw [h14]; rfl), h15, ch16, h17, trivial⟩) (by intro hh; cases hh)
          · rw [if_neg h17] at h
            have h17 := Bool.eq_false_iff.2 h17
            exact Lp.again (gRun_ok cxOK (f4_p6_e2 x1 x2 x5 x8 x9 x10 x14 x16 x17 x18 x19 x20 x21 x22 x23) ⟨⟨(at?_spec h10).1, x19, (at?_spec h10).2, rfl⟩, h11, ch12, ch13, (by rw [h14]; rfl), h15, ch16, h17, trivial⟩) (f4_p6_ok F x1 x5 x9 x10 x14 x2 x8 k (w64 (x16 + x22)) (w64 (x17 + 1)) (w64 (x18 + 1)) r h)
      · rw [if_neg h14] at h
        have h14 := Bool.eq_false_iff.2 h14
        obtain rfl := Option.some.inj h
        exact Lp.out (gRun_ok cxOK (f4_p6_e3 x1 x2 x5 x8 x9 x10 x14 x16 x17 x18 x19 x20 x21) ⟨⟨(at?_spec h10).1, x19, (at?_spec h10).2, rfl⟩, h11, ch12, ch13, (by rw [h14]; rfl), trivial⟩) (by intro hh; cases hh)
    · rw [if_neg h11] at h
      have h11 := Bool.eq_false_iff.2 h11
      obtain rfl := Option.some.inj h
      exact Lp.out (gRun_ok cxOK (f4_p6_e4 x1 x2 x5 x8 x9 x10 x14 x16 x17 x18 x19) ⟨⟨(at?_spec h10).1, x19, (at?_spec h10).2, rfl⟩, h11, trivial⟩) (by intro hh; cases hh)
theorem f4_p2_ok (F : Nat) (x1 : Int) (x5 x9 : List Int) (x10 x2 x8 : Int) : ∀ (k : Nat) (x12 x13 x14 : Int) (r : f4_p2_R), f4_p2 F x1 x5 x9 x10 x2 x8 k x12 x13 x14 = some r → f4_p2_P x1 x5 x9 x10 x2 x8 x12 x13 x14 r
  | 0, _, _, _, _, h => by cases h
  | k + 1, x12, x13, x14, r, h => by
    unfold f4_p2 at h
    obtain ⟨x15, h8, h⟩ := bind_some h
    try dsimp only at h
    by_cases h9 : (decide (x14 ≤ x15)) = true
    · rw [if_pos h9] at h
      obtain ⟨rh18, h18, h⟩ := bind_some h
      have ch18 := f4_p6_ok F x1 x5 x9 x10 x14 x2 x8 F x12 x13 0 _ h18
      cases rh18 with
      | c0 =>
        try dsimp only at h
        obtain rfl := Option.some.inj h
        exact Lp.out (gRun_ok cxOK (f4_p2_e0 x1 x2 x5 x8 x9 x10 x12 x13 x14 x15) ⟨⟨(at?_spec h8).1, x15, (at?_spec h8).2, rfl⟩, h9, ch18, trivial⟩) (by intro hh; cases hh)
      | c1 x24 x25 =>
        try dsimp only at h
        exact Lp.again (gRun_ok cxOK (f4_p2_e1 x1 x2 x5 x8 x9 x10 x12 x13 x14 x15 x24 x25) ⟨⟨(at?_spec h8).1, x15, (at?_spec h8).2, rfl⟩, h9, ch18, trivial⟩) (f4_p2_ok F x1 x5 x9 x10 x2 x8 k x24 x25 (w64 (x14 + 1)) r h)
    · rw [if_neg h9] at h
      have h9 := Bool.eq_false_iff.2 h9
      obtain rfl := Option.some.inj h
      exact Lp.out (gRun_ok cxOK (f4_p2_e2 x1 x2 x5 x8 x9 x10 x12 x13 x14 x15) ⟨⟨(at?_spec h8).1, x15, (at?_spec h8).2, rfl⟩, h9, trivial⟩) (by intro hh; cases hh)
theorem f4_ok (F : Nat) (x1 x2 : Int) (x3 x4 : Int) (r : Bool) (h : f4 F x1 x2 x3 x4 = some r) : f4_C x1 x2 x3 x4 r := by
  unfold f4 at h
  obtain ⟨x5, h1, h⟩ := bind_some h
  have ch1 := f16_ok F ([(Int.tmod (w64 (x3)) 11), (Int.tmod (w64 (x4)) 6)] : List Int) _ h1
  try dsimp only at h
  obtain ⟨x6, h2, h⟩ := bind_some h
  try dsimp only at h
  obtain ⟨x7, h3, h⟩ := bind_some h
  try dsimp only at h
  obtain ⟨x8, h4, h⟩ := bind_some h
  have ch4 := f17_ok F F (⟨#[]⟩) (Int.tmod (w64 (x1)) 11) x6 x7 (Int.tmod (w64 (x2)) 4) 0 _ h4
  try dsimp only at h
  obtain ⟨x9, h5, h⟩ := bind_some h
  have ch5 := f16_ok F ([1, 2] : List Int) _ h5
  try dsimp only at h
  obtain ⟨rh6, h6, h⟩ := bind_some h
  have ch6 := f19_ok F x9 x5 (Int.tmod (w64 (x1)) 11) _ h6
  obtain ⟨x10, x11⟩ := rh6
  try dsimp only at h
  by_cases h7 : (x11 != 0) = true
  · rw [if_pos h7] at h
    cases h
  · rw [if_neg h7] at h
    have h7 := Bool.eq_false_iff.2 h7
    obtain ⟨rh19, h19, h⟩ := bind_some h
    have ch19 := f4_p2_ok F x1 x5 x9 x10 x2 x8 F 0 0 0 _ h19
    cases rh19 with
    | c0 =>
      try dsimp only at h
      cases h
    | c1 x26 x27 =>
      try dsimp only at h
      by_cases h20 : (x27 != x10) = true
      · rw [if_pos h20] at h
        cases h
      · rw [if_neg h20] at h
        have h20 := Bool.eq_false_iff.2 h20
        by_cases h21 : (x26 != x8) = true
        · rw [if_pos h21] at h
          cases h
        · rw [if_neg h21] at h
          have h21 := Bool.eq_false_iff.2 h21
          obtain ⟨rh22, h22, h⟩ := bind_some h
          have ch22 := f22_ok F x9 x5 (Int.tmod (w64 (x1)) 11) 0 _ h22
          obtain ⟨x28, x29, x30⟩ := rh22
          try dsimp only at h
          by_cases h23 : (x10 == 0) = true
          · rw [if_pos h23] at h
            by_cases h24 : (x30 == 12) = true
            · rw [if_pos h24] at h
              obtain ⟨x31, h25, h⟩ := bind_some h
              have ch25 := f15_ok F _ h25
              try dsimp only at h
              obtain rfl := Option.some.inj h
              exact callOK cxOK cxW Tryd.func4 (by kernel_rfl) (f4_e0 x1 x2 x3 x4 x5 x6 x7 x8 x9 x10 x11 x26 x27 x28 x29 x30 x31) ⟨(by decide), (by decide), (by decide), (by decide), ch1, ⟨(at?_spec h2).1, x6, (at?_spec h2).2, rfl⟩, ⟨(at?_spec h3).1, x7, (at?_spec h3).2, rfl⟩, ch4, ch5, ch6, h7, ch19, h20, h20, h20, h20, h21, ch22, h23, h24, ch25, h24, trivial⟩
            · rw [if_neg h24] at h
              have h24 := Bool.eq_false_iff.2 h24
              cases h
          · rw [if_neg h23] at h
            have h23 := Bool.eq_false_iff.2 h23
            by_cases h26 : (x30 == 0) = true
            · rw [if_pos h26] at h
              by_cases h27 : (decide (x28 ≤ x29)) = true
              · rw [if_pos h27] at h
                obtain ⟨x32, h28, h⟩ := bind_some h
                have ch28 := f16_ok F ([x29, (w64 (Int.tdiv (w64 ((Int.tmod (w64 (x1)) 11) - x29)) 2))] : List Int) _ h28
                try dsimp only at h
                obtain ⟨x33, h29, h⟩ := bind_some h
                have ch29 := f20_ok F x9 x5 (Int.tmod (w64 (x1)) 11) x32 _ h29
                try dsimp only at h
                by_cases h30 : (x33 == 0) = true
                · rw [if_pos h30] at h
                  obtain ⟨x34, h31, h⟩ := bind_some h
                  have ch31 := f15_ok F _ h31
                  try dsimp only at h
                  obtain rfl := Option.some.inj h
                  exact callOK cxOK cxW Tryd.func4 (by kernel_rfl) (f4_e1 x1 x2 x3 x4 x5 x6 x7 x8 x9 x10 x11 x26 x27 x28 x29 x30 x32 x33 x34) ⟨(by decide), (by decide), (by decide), (by decide), ch1, ⟨(at?_spec h2).1, x6, (at?_spec h2).2, rfl⟩, ⟨(at?_spec h3).1, x7, (at?_spec h3).2, rfl⟩, ch4, ch5, ch6, h7, ch19, h20, h20, h20, h20, h21, ch22, h23, h26, h26, h26, h26, h27, h27, h27, h27, h27, h27, h27, h27, (by decide), h27, h27, ch28, h27, ch29, h27, h27, h30, ch31, h30, trivial⟩
                · rw [if_neg h30] at h
                  have h30 := Bool.eq_false_iff.2 h30
                  cases h
              · rw [if_neg h27] at h
                have h27 := Bool.eq_false_iff.2 h27
                cases h
            · rw [if_neg h26] at h
              have h26 := Bool.eq_false_iff.2 h26
              cases h

end Go.Gh.Top
