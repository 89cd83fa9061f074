/- Tz3F0: printed by wip/tool/gx.py -/
import Derived.Test.YtcaphjiiaclndaaGreatDoorTz3E0
import Derived.Test.YtcaphjiiaclndaaGreatDoorTz3E1
namespace Go.Gh.Tz
set_option linter.unusedVariables false
set_option linter.unusedSimpArgs false
open Go.Proofs

theorem f5_p4_1_ok (F : Nat) (x1 : Int) (x4 : LI) (x5 x2 : Int) (r : (List Int)) (h : f5_p4_1 F x1 x4 x5 x2 = some r) : f5_p4_1_P x1 x4 x5 x2 r := by
 unfold f5_p4_1 at h
 by_cases h8 : ((iAnd .i64 (iShr .i64 x1 x5) 1) == 1) = true
 ·rw [if_pos h8] at h
  obtain ⟨h9, h⟩ := req_some h
  obtain rfl := sI h
  exact gRun_ok cxOK (f5_p4_1_e0 x1 x2 x4 x5) ⟨h8, h9, rfl, trivial⟩
 ·rw [if_neg h8] at h
  have h8 := eF h8
  obtain rfl := sI h
  exact gRun_ok cxOK (f5_p4_1_e1 x1 x2 x4 x5) ⟨h8, trivial⟩
theorem f5_p1_ok (F : Nat) (x1 x2 : Int) : ∀ (k : Nat) (x5 : Int) (x4 : LI) (r : (List Int)), f5_p1 F x1 x2 k x5 x4 = some r → f5_p1_P x1 x2 x5 x4 r
 | 0, _, _, _, h => by cases h
 | k + 1, x5, x4, r, h => by
  unfold f5_p1 at h
  by_cases h6 : (decide (x5 < x2)) = true
  ·rw [if_pos h6] at h
   obtain ⟨h7, h⟩ := req_some h
   obtain ⟨x6, h10, h⟩ := bind_some h
   have ch10 := f5_p4_1_ok F x1 x4 x5 x2 _ h10
   try dsimp only at h
   exact Lp.again (gRun_ok cxOK (f5_p1_e0 x1 x2 x4 x5 x6) ⟨h6, h7, ch10, trivial⟩) (f5_p1_ok F x1 x2 k (w64 (x5 + 1)) x6 r h)
  ·rw [if_neg h6] at h
   have h6 := eF h6
   obtain rfl := sI h
   exact Lp.out (gRun_ok cxOK (f5_p1_e1 x1 x2 x4 x5) ⟨h6, trivial⟩) (by intro hh; cases hh)
theorem f5_ok (F : Nat) (x1 x2 : Int) (r : (List Int)) (h : f5 F x1 x2 = some r) : f5_C x1 x2 r := by
 unfold f5 at h
 obtain ⟨x7, h11, h⟩ := bind_some h
 have ch11 := f5_p1_ok F x1 x2 F 0 ([] : List Int) _ h11
 try dsimp only at h
 obtain rfl := sI h
 exact callOK cxOK cxW Tryz.func5 (by kernel_rfl) (f5_e0 x1 x2 x7) ⟨ch11, (Nat.le_of_eq (Nat.zero_add _)), trivial⟩

theorem f28_ok (F : Nat) (x1 : Int) (r : Bool) (h : f28 F x1 = some r) : f28_C x1 r := by
 unfold f28 at h
 by_cases h1 : (decide (x1 ≥ 1)) = true
 ·rw [if_pos h1] at h
  obtain rfl := sI h
  exact callOK cxOK cxW Tryz.func28 (by kernel_rfl) (f28_e0 x1) ⟨h1, h1, h1, trivial⟩
 ·rw [if_neg h1] at h
  have h1 := eF h1
  obtain rfl := sI h
  exact callOK cxOK cxW Tryz.func28 (by kernel_rfl) (f28_e1 x1) ⟨h1, h1, h1, trivial⟩

theorem f52_ok (F : Nat) (x1 : Int) (r : Int) (h : f52 F x1 = some r) : f52_C x1 r := by
 unfold f52 at h
 obtain ⟨h1, h⟩ := req_some h
 obtain ⟨h2, h⟩ := req_some h
 obtain rfl := sI h
 exact callOK cxOK cxW Tryz.func52 (by kernel_rfl) (f52_e0 x1) ⟨(by decide), h1, h2, trivial⟩

theorem f53_ok (F : Nat) (x1 : LI) (r : (List Int)) (h : f53 F x1 = some r) : f53_C x1 r := by
 unfold f53 at h
 obtain ⟨h1, h⟩ := req_some h
 obtain rfl := sI h
 exact callOK cxOK cxW Tryz.func53 (by kernel_rfl) (f53_e0 x1) ⟨h1, trivial⟩

theorem f29_p2_ok (F : Nat) (x4 : LI) (x5 x6 x1 : Int) (x2 : LI) (x3 : Int) (r : Int) (h : f29_p2 F x4 x5 x6 x1 x2 x3 = some r) : f29_p2_P x4 x5 x6 x1 x2 x3 r := by
 unfold f29_p2 at h
 by_cases h4 : (decide (((List.length x4 : Nat) : Int) > 0)) = true
 ·rw [if_pos h4] at h
  obtain ⟨x8, h5, h⟩ := bind_some h
  try dsimp only at h
  obtain rfl := sI h
  exact gRun_ok cxOK (f29_p2_e0 x1 x2 x3 x4 x5 x6 x8) ⟨h4, ⟨(at?_spec h5).1, x8, (at?_spec h5).2, rfl⟩, trivial⟩
 ·rw [if_neg h4] at h
  have h4 := eF h4
  obtain rfl := sI h
  exact gRun_ok cxOK (f29_p2_e1 x1 x2 x3 x4 x5 x6) ⟨h4, trivial⟩
theorem f29_p4_ok (F : Nat) (rec : Int → (List Int) → Int → (List Int) → Int → Int → Option ((List Int) × Bool)) (hrec : ∀ (x1 : Int) (x2 : LI) (x3 : Int) (x4 : LI) (x5 x6 : Int) (r : (List Int) × Bool), rec x1 x2 x3 x4 x5 x6 = some r → f29_C x1 x2 x3 x4 x5 x6 r) (x4 : LI) (x5 x6 x1 : Int) (x2 : LI) (x3 : Int) : ∀ (k : Nat) (x10 : Int) (r : f29_p4_R), f29_p4 F rec x4 x5 x6 x1 x2 x3 k x10 = some r → f29_p4_P x4 x5 x6 x1 x2 x3 x10 r
 | 0, _, _, h => by cases h
 | k + 1, x10, r, h => by
  unfold f29_p4 at h
  by_cases h7 : (decide (x10 < ((List.length x2 : Nat) : Int))) = true
  ·rw [if_pos h7] at h
   obtain ⟨x11, h8, h⟩ := bind_some h
   have ch8 := f53_ok F x4 _ h8
   try dsimp only at h
   obtain ⟨h9, h⟩ := req_some h
   obtain ⟨x12, h10, h⟩ := bind_some h
   try dsimp only at h
   obtain ⟨rh11, h11, h⟩ := bind_some h
   have ch11 := hrec x1 x2 x3 (x11 ++ ([x10] : List Int)) (iOr .u16 x5 x12) (w64 (x6 - 1)) _ h11
   obtain ⟨x13, x14⟩ := rh11
   try dsimp only at h
   by_cases h12 : x14 = true
   ·rw [if_pos h12] at h
    obtain rfl := sI h
    exact Lp.out (gRun_ok cxOK (f29_p4_e0 x1 x2 x3 x4 x5 x6 x10 x11 x12 x13 x14) ⟨h7, ch8, h9, (.inr (by simp)), rfl, ⟨(at?_spec h10).1, x12, (at?_spec h10).2, rfl⟩, ch11, h12, trivial⟩) (by intro hh; cases hh)
   ·rw [if_neg h12] at h
    have h12 := eF h12
    exact Lp.again (gRun_ok cxOK (f29_p4_e1 x1 x2 x3 x4 x5 x6 x10 x11 x12 x13 x14) ⟨h7, ch8, h9, (.inr (by simp)), rfl, ⟨(at?_spec h10).1, x12, (at?_spec h10).2, rfl⟩, ch11, h12, trivial⟩) (f29_p4_ok F rec hrec x4 x5 x6 x1 x2 x3 k (w64 (x10 + 1)) r h)
  ·rw [if_neg h7] at h
   have h7 := eF h7
   obtain rfl := sI h
   exact Lp.out (gRun_ok cxOK (f29_p4_e2 x1 x2 x3 x4 x5 x6 x10) ⟨h7, trivial⟩) (by intro hh; cases hh)
theorem f29_b_ok (F : Nat) (rec : Int → (List Int) → Int → (List Int) → Int → Int → Option ((List Int) × Bool)) (hrec : ∀ (x1 : Int) (x2 : LI) (x3 : Int) (x4 : LI) (x5 x6 : Int) (r : (List Int) × Bool), rec x1 x2 x3 x4 x5 x6 = some r → f29_C x1 x2 x3 x4 x5 x6 r) (x1 : Int) (x2 : LI) (x3 : Int) (x4 : LI) (x5 x6 : Int) (r : (List Int) × Bool) (h : f29_b F rec x1 x2 x3 x4 x5 x6 = some r) : f29_C x1 x2 x3 x4 x5 x6 r := by
 unfold f29_b at h
 by_cases h1 : (x6 == 0) = true
 ·rw [if_pos h1] at h
  obtain rfl := sI h
  exact callOK cxOK cxW Tryz.func29 (by kernel_rfl) (f29_e0 x1 x2 x3 x4 x5 x6) ⟨h1, trivial⟩
 ·rw [if_neg h1] at h
  have h1 := eF h1
  obtain ⟨x7, h2, h⟩ := bind_some h
  have ch2 := f52_ok F (iAndNot .u16 x3 x5) _ h2
  try dsimp only at h
  by_cases h3 : (decide (x7 > (w64 (x6 * (w64 (x1 + 1)))))) = true
  ·rw [if_pos h3] at h
   obtain rfl := sI h
   exact callOK cxOK cxW Tryz.func29 (by kernel_rfl) (f29_e1 x1 x2 x3 x4 x5 x6 x7) ⟨h1, ch2, h3, trivial⟩
  ·rw [if_neg h3] at h
   have h3 := eF h3
   obtain ⟨x9, h6, h⟩ := bind_some h
   have ch6 := f29_p2_ok F x4 x5 x6 x1 x2 x3 _ h6
   try dsimp only at h
   obtain ⟨rh13, h13, h⟩ := bind_some h
   have ch13 := f29_p4_ok F rec hrec x4 x5 x6 x1 x2 x3 F x9 _ h13
   cases rh13 with
   | c0 x15 =>
    try dsimp only at h
    obtain rfl := sI h
    exact callOK cxOK cxW Tryz.func29 (by kernel_rfl) (f29_e2 x1 x2 x3 x4 x5 x6 x7 x9 x15) ⟨h1, ch2, h3, ch6, ch13, trivial⟩
   | c1 =>
    try dsimp only at h
    obtain rfl := sI h
    exact callOK cxOK cxW Tryz.func29 (by kernel_rfl) (f29_e3 x1 x2 x3 x4 x5 x6 x7 x9) ⟨h1, ch2, h3, ch6, ch13, trivial⟩
theorem f29_ok (F : Nat) : ∀ (k : Nat) (x1 : Int) (x2 : LI) (x3 : Int) (x4 : LI) (x5 x6 : Int) (r : (List Int) × Bool), f29 F k x1 x2 x3 x4 x5 x6 = some r → f29_C x1 x2 x3 x4 x5 x6 r
 | 0, _, _, _, _, _, _, _, h => by cases h
 | k + 1, x1, x2, x3, x4, x5, x6, r, h => f29_b_ok F (f29 F k) (f29_ok F k) x1 x2 x3 x4 x5 x6 r h

theorem f6_p8_2_ok (F : Nat) (x1 x14 x15 : Int) (x13 : LI) (x16 : Int) : ∀ (k : Nat) (x17 x18 : Int) (r : Int), f6_p8_2 F x1 x14 x15 x13 x16 k x17 x18 = some r → f6_p8_2_P x1 x14 x15 x13 x16 x17 x18 r
 | 0, _, _, _, h => by cases h
 | k + 1, x17, x18, r, h => by
  unfold f6_p8_2 at h
  by_cases h22 : (decide (x18 < x1)) = true
  ·rw [if_pos h22] at h
   obtain ⟨h23, h⟩ := req_some h
   obtain ⟨h24, h⟩ := req_some h
   exact Lp.again (gRun_ok cxOK (f6_p8_2_e0 x1 x13 x14 x15 x16 x17 x18) ⟨h22, h23, h24, trivial⟩) (f6_p8_2_ok F x1 x14 x15 x13 x16 k (iOr .u16 x17 (iShl .u16 1 (iXor .i64 x14 (iShl .i64 1 x18)))) (w64 (x18 + 1)) r h)
  ·rw [if_neg h22] at h
   have h22 := eF h22
   obtain rfl := sI h
   exact Lp.out (gRun_ok cxOK (f6_p8_2_e1 x1 x13 x14 x15 x16 x17 x18) ⟨h22, trivial⟩) (by intro hh; cases hh)
theorem f6_p4_ok (F : Nat) (x1 : Int) : ∀ (k : Nat) (x14 x15 x16 : Int) (x13 : LI) (r : Int × Int × (List Int)), f6_p4 F x1 k x14 x15 x16 x13 = some r → f6_p4_P x1 x14 x15 x16 x13 r
 | 0, _, _, _, _, _, h => by cases h
 | k + 1, x14, x15, x16, x13, r, h => by
  unfold f6_p4 at h
  by_cases h20 : (decide (x14 < (iShl .i64 1 x1))) = true
  ·rw [if_pos h20] at h
   obtain ⟨h21, h⟩ := req_some h
   obtain ⟨x19, h25, h⟩ := bind_some h
   have ch25 := f6_p8_2_ok F x1 x14 x15 x13 x16 F (iShl .u16 1 x14) 0 _ h25
   try dsimp only at h
   obtain ⟨h26, h⟩ := req_some h
   exact Lp.again (gRun_ok cxOK (f6_p4_e0 x1 x13 x14 x15 x16 x19) ⟨h20, h21, ch25, h26, rfl, trivial⟩) (f6_p4_ok F x1 k (w64 (x14 + 1)) x15 x16 (x13 ++ ([x19] : List Int)) r h)
  ·rw [if_neg h20] at h
   have h20 := eF h20
   obtain rfl := sI h
   exact Lp.out (gRun_ok cxOK (f6_p4_e1 x1 x13 x14 x15 x16) ⟨h20, trivial⟩) (by intro hh; cases hh)
theorem f6_p12_ok (F : Nat) (x20 : Int) (x22 : LI) (x21 : Int) : ∀ (k : Nat) (x26 : Int) (r : f6_p12_R), f6_p12 F x20 x22 x21 k x26 = some r → f6_p12_P x20 x22 x21 x26 r
 | 0, _, _, h => by cases h
 | k + 1, x26, r, h => by
  unfold f6_p12 at h
  by_cases h31 : (decide (x26 ≤ ((List.length (List.drop 0 (List.take (0 + (List.length x22)) x22)) : Nat) : Int))) = true
  ·rw [if_pos h31] at h
   obtain ⟨rh32, h32, h⟩ := bind_some h
   have ch32 := f29_ok F F x20 (List.drop 0 (List.take (0 + (List.length x22)) x22)) x21 ([] : List Int) 0 x26 _ h32
   obtain ⟨x27, x28⟩ := rh32
   try dsimp only at h
   by_cases h33 : x28 = true
   ·rw [if_pos h33] at h
    obtain rfl := sI h
    exact Lp.out (gRun_ok cxOK (f6_p12_e0 x20 x21 x22 x26 x27 x28) ⟨h31, ch32, h33, trivial⟩) (by intro hh; cases hh)
   ·rw [if_neg h33] at h
    have h33 := eF h33
    exact Lp.again (gRun_ok cxOK (f6_p12_e1 x20 x21 x22 x26 x27 x28) ⟨h31, ch32, h33, trivial⟩) (f6_p12_ok F x20 x22 x21 k (w64 (x26 + 1)) r h)
  ·rw [if_neg h31] at h
   have h31 := eF h31
   obtain rfl := sI h
   exact Lp.out (gRun_ok cxOK (f6_p12_e2 x20 x21 x22 x26) ⟨h31, trivial⟩) (by intro hh; cases hh)
theorem f6_ok (F : Nat) (x1 : Int) (r : (List Int) × Int) (h : f6 F x1 = some r) : f6_C x1 r := by
 unfold f6 at h
 obtain ⟨x2, h1, h⟩ := bind_some h
 have ch1 := f28_ok F x1 _ h1
 try dsimp only at h
 by_cases h2 : x2 = true
 ·rw [if_pos h2] at h
  by_cases h3 : (decide (x1 > 4)) = true
  ·rw [if_pos h3] at h
   obtain rfl := sI h
   exact callOK cxOK cxW Tryz.func6 (by kernel_rfl) (f6_e0 x1 x2) ⟨ch1, (by rw [h2]; rfl), h3, trivial⟩
  ·rw [if_neg h3] at h
   have h3 := eF h3
   obtain ⟨h4, h⟩ := req_some h
   obtain ⟨h5, h⟩ := req_some h
   obtain ⟨rh27, h27, h⟩ := bind_some h
   have ch27 := f6_p4_ok F x1 F 0 x1 (IntKind.wrap .u16 ((iShl .u16 1 (iShl .u64 1 x1)) - 1)) ([] : List Int) _ h27
   obtain ⟨x20, x21, x22⟩ := rh27
   try dsimp only at h
   obtain ⟨rh34, h34, h⟩ := bind_some h
   have ch34 := f6_p12_ok F x20 x22 x21 F 1 _ h34
   cases rh34 with
   | c0 x29 =>
    try dsimp only at h
    obtain rfl := sI h
    exact callOK cxOK cxW Tryz.func6 (by kernel_rfl) (f6_e1 x1 x2 x20 x21 x22 x29) ⟨ch1, (by rw [h2]; rfl), h3, h4, h5, h4, ch27, (Nat.le_of_eq (Nat.zero_add _)), ch34, trivial⟩
   | c1 =>
    try dsimp only at h
    obtain rfl := sI h
    exact callOK cxOK cxW Tryz.func6 (by kernel_rfl) (f6_e2 x1 x2 x20 x21 x22) ⟨ch1, (by rw [h2]; rfl), h3, h4, h5, h4, ch27, (Nat.le_of_eq (Nat.zero_add _)), ch34, trivial⟩
 ·rw [if_neg h2] at h
  have h2 := eF h2
  obtain rfl := sI h
  exact callOK cxOK cxW Tryz.func6 (by kernel_rfl) (f6_e3 x1 x2) ⟨ch1, (by rw [h2]; rfl), trivial⟩

theorem f54_ok (F : Nat) (x1 : Int) (r : Bool) (h : f54 F x1 = some r) : f54_C x1 r := by
 unfold f54 at h
 by_cases h1 : (decide (x1 ≥ 1)) = true
 ·rw [if_pos h1] at h
  obtain rfl := sI h
  exact callOK cxOK cxW Tryz.func54 (by kernel_rfl) (f54_e0 x1) ⟨h1, h1, h1, trivial⟩
 ·rw [if_neg h1] at h
  have h1 := eF h1
  obtain rfl := sI h
  exact callOK cxOK cxW Tryz.func54 (by kernel_rfl) (f54_e1 x1) ⟨h1, h1, h1, trivial⟩

theorem f55_p1_ok (F : Nat) (x1 : Int) (x2 : LI) : ∀ (k : Nat) (x3 x4 x5 : Int) (r : f55_p1_R), f55_p1 F x1 x2 k x3 x4 x5 = some r → f55_p1_P x1 x2 x3 x4 x5 r
 | 0, _, _, _, _, h => by cases h
 | k + 1, x3, x4, x5, r, h => by
  unfold f55_p1 at h
  by_cases h1 : (decide (x5 < ((List.length x2 : Nat) : Int))) = true
  ·rw [if_pos h1] at h
   obtain ⟨x6, h2, h⟩ := bind_some h
   try dsimp only at h
   by_cases h3 : (decide (x6 < 0)) = true
   ·rw [if_pos h3] at h
    obtain rfl := sI h
    exact Lp.out (gRun_ok cxOK (f55_p1_e0 x1 x2 x3 x4 x5 x6) ⟨h1, ⟨(at?_spec h2).1, x6, (at?_spec h2).2, rfl⟩, h3, h3, h3, h3, rfl, trivial⟩) (by intro hh; cases hh)
   ·rw [if_neg h3] at h
    have h3 := eF h3
    by_cases h4 : (decide (x6 ≥ x1)) = true
    ·rw [if_pos h4] at h
     obtain rfl := sI h
     exact Lp.out (gRun_ok cxOK (f55_p1_e1 x1 x2 x3 x4 x5 x6) ⟨h1, ⟨(at?_spec h2).1, x6, (at?_spec h2).2, rfl⟩, h3, h3, h3, h3, h4, trivial⟩) (by intro hh; cases hh)
    ·rw [if_neg h4] at h
     have h4 := eF h4
     by_cases h5 : (decide (x6 ≤ x4)) = true
     ·rw [if_pos h5] at h
      obtain rfl := sI h
      exact Lp.out (gRun_ok cxOK (f55_p1_e2 x1 x2 x3 x4 x5 x6) ⟨h1, ⟨(at?_spec h2).1, x6, (at?_spec h2).2, rfl⟩, h3, h3, h3, h3, h4, h5, trivial⟩) (by intro hh; cases hh)
     ·rw [if_neg h5] at h
      have h5 := eF h5
      obtain ⟨h6, h⟩ := req_some h
      exact Lp.again (gRun_ok cxOK (f55_p1_e3 x1 x2 x3 x4 x5 x6) ⟨h1, ⟨(at?_spec h2).1, x6, (at?_spec h2).2, rfl⟩, h3, h3, h3, h3, h4, h5, h6, trivial⟩) (f55_p1_ok F x1 x2 k (iOr .u64 x3 (iShl .u64 1 x6)) x6 (w64 (x5 + 1)) r h)
  ·rw [if_neg h1] at h
   have h1 := eF h1
   obtain rfl := sI h
   exact Lp.out (gRun_ok cxOK (f55_p1_e4 x1 x2 x3 x4 x5) ⟨h1, trivial⟩) (by intro hh; cases hh)
theorem f55_ok (F : Nat) (x1 : Int) (x2 : LI) (r : Int × Int) (h : f55 F x1 x2 = some r) : f55_C x1 x2 r := by
 unfold f55 at h
 obtain ⟨rh7, h7, h⟩ := bind_some h
 have ch7 := f55_p1_ok F x1 x2 F 0 (-1) 0 _ h7
 cases rh7 with
 | c0 x7 =>
  try dsimp only at h
  obtain rfl := sI h
  exact callOK cxOK cxW Tryz.func55 (by kernel_rfl) (f55_e0 x1 x2 x7) ⟨ch7, trivial⟩
 | c1 x8 =>
  try dsimp only at h
  obtain rfl := sI h
  exact callOK cxOK cxW Tryz.func55 (by kernel_rfl) (f55_e1 x1 x2 x8) ⟨ch7, trivial⟩

theorem f91_p1_ok (F : Nat) (x1 : LI) (x2 : Int) : ∀ (k : Nat) (x3 : Int) (r : f91_p1_R), f91_p1 F x1 x2 k x3 = some r → f91_p1_P x1 x2 x3 r
 | 0, _, _, h => by cases h
 | k + 1, x3, r, h => by
  unfold f91_p1 at h
  by_cases h1 : (decide (x3 < ((List.length x1 : Nat) : Int))) = true
  ·rw [if_pos h1] at h
   obtain ⟨x4, h2, h⟩ := bind_some h
   try dsimp only at h
   by_cases h3 : (x2 == x4) = true
   ·rw [if_pos h3] at h
    obtain rfl := sI h
    exact Lp.out (gRun_ok cxOK (f91_p1_e0 x1 x2 x3 x4) ⟨h1, ⟨(at?_spec h2).1, x4, (at?_spec h2).2, rfl⟩, h3, trivial⟩) (by intro hh; cases hh)
   ·rw [if_neg h3] at h
    have h3 := eF h3
    exact Lp.again (gRun_ok cxOK (f91_p1_e1 x1 x2 x3 x4) ⟨h1, ⟨(at?_spec h2).1, x4, (at?_spec h2).2, rfl⟩, h3, trivial⟩) (f91_p1_ok F x1 x2 k (w64 (x3 + 1)) r h)
  ·rw [if_neg h1] at h
   have h1 := eF h1
   obtain rfl := sI h
   exact Lp.out (gRun_ok cxOK (f91_p1_e2 x1 x2 x3) ⟨h1, trivial⟩) (by intro hh; cases hh)
theorem f91_ok (F : Nat) (x1 : LI) (x2 : Int) (r : Int) (h : f91 F x1 x2 = some r) : f91_C x1 x2 r := by
 unfold f91 at h
 obtain ⟨rh4, h4, h⟩ := bind_some h
 have ch4 := f91_p1_ok F x1 x2 F 0 _ h4
 cases rh4 with
 | c0 x5 =>
  try dsimp only at h
  obtain rfl := sI h
  exact callOK cxOK cxW Tryz.func91 (by kernel_rfl) (f91_e0 x1 x2 x5) ⟨ch4, trivial⟩
 | c1 =>
  try dsimp only at h
  obtain rfl := sI h
  exact callOK cxOK cxW Tryz.func91 (by kernel_rfl) (f91_e1 x1 x2) ⟨ch4, trivial⟩

theorem f56_ok (F : Nat) (x1 : LI) (x2 : Int) (r : Bool) (h : f56 F x1 x2 = some r) : f56_C x1 x2 r := by
 unfold f56 at h
 obtain ⟨x3, h1, h⟩ := bind_some h
 have ch1 := f91_ok F x1 x2 _ h1
 try dsimp only at h
 obtain rfl := sI h
 exact callOK cxOK cxW Tryz.func56 (by kernel_rfl) (f56_e0 x1 x2 x3) ⟨ch1, trivial⟩

theorem f30_p2_ok (F : Nat) (x2 : LL) (x1 : Int) : ∀ (k : Nat) (x10 : Int) (x9 : LI) (r : f30_p2_R), f30_p2 F x2 x1 k x10 x9 = some r → f30_p2_P x2 x1 x10 x9 r
 | 0, _, _, _, h => by cases h
 | k + 1, x10, x9, r, h => by
  unfold f30_p2 at h
  by_cases h10 : (decide (x10 < ((List.length x2 : Nat) : Int))) = true
  ·rw [if_pos h10] at h
   obtain ⟨x11, h11, h⟩ := bind_some h
   try dsimp only at h
   obtain ⟨rh12, h12, h⟩ := bind_some h
   have ch12 := f55_ok F x1 x11 _ h12
   obtain ⟨x12, x13⟩ := rh12
   try dsimp only at h
   by_cases h13 : (x13 != 0) = true
   ·rw [if_pos h13] at h
    obtain rfl := sI h
    exact Lp.out (gRun_ok cxOK (f30_p2_e0 x1 x2 x9 x10 x11 x12 x13) ⟨h10, ⟨(at?_spec h11).1, x11, (at?_spec h11).2, rfl⟩, ch12, h13, trivial⟩) (by intro hh; cases hh)
   ·rw [if_neg h13] at h
    have h13 := eF h13
    obtain ⟨x14, h14, h⟩ := bind_some h
    have ch14 := f56_ok F (List.drop 0 (List.take (0 + (List.length x9)) x9)) x12 _ h14
    try dsimp only at h
    by_cases h15 : x14 = true
    ·rw [if_pos h15] at h
     obtain rfl := sI h
     exact Lp.out (gRun_ok cxOK (f30_p2_e1 x1 x2 x9 x10 x11 x12 x13 x14) ⟨h10, ⟨(at?_spec h11).1, x11, (at?_spec h11).2, rfl⟩, ch12, h13, ch14, (Nat.le_of_eq (Nat.zero_add _)), h15, trivial⟩) (by intro hh; cases hh)
    ·rw [if_neg h15] at h
     have h15 := eF h15
     obtain ⟨h16, h⟩ := req_some h
     exact Lp.again (gRun_ok cxOK (f30_p2_e2 x1 x2 x9 x10 x11 x12 x13 x14) ⟨h10, ⟨(at?_spec h11).1, x11, (at?_spec h11).2, rfl⟩, ch12, h13, ch14, (Nat.le_of_eq (Nat.zero_add _)), h15, h16, rfl, trivial⟩) (f30_p2_ok F x2 x1 k (w64 (x10 + 1)) (x9 ++ ([x12] : List Int)) r h)
  ·rw [if_neg h10] at h
   have h10 := eF h10
   obtain rfl := sI h
   exact Lp.out (gRun_ok cxOK (f30_p2_e3 x1 x2 x9 x10) ⟨h10, trivial⟩) (by intro hh; cases hh)
theorem f30_ok (F : Nat) (x1 : Int) (x2 : LL) (r : (List Int) × Int) (h : f30 F x1 x2 = some r) : f30_C x1 x2 r := by
 unfold f30 at h
 obtain ⟨x3, h1, h⟩ := bind_some h
 have ch1 := f54_ok F x1 _ h1
 try dsimp only at h
 by_cases h2 : x3 = true
 ·rw [if_pos h2] at h
  obtain ⟨rh17, h17, h⟩ := bind_some h
  have ch17 := f30_p2_ok F x2 x1 F 0 ([] : List Int) _ h17
  cases rh17 with
  | c0 x15 =>
   try dsimp only at h
   obtain rfl := sI h
   exact callOK cxOK cxW Tryz.func30 (by kernel_rfl) (f30_e0 x1 x2 x3 x15) ⟨ch1, (by rw [h2]; rfl), ch17, trivial⟩
  | c1 x16 =>
   try dsimp only at h
   obtain rfl := sI h
   exact callOK cxOK cxW Tryz.func30 (by kernel_rfl) (f30_e1 x1 x2 x3 x16) ⟨ch1, (by rw [h2]; rfl), ch17, (Nat.le_of_eq (Nat.zero_add _)), trivial⟩
 ·rw [if_neg h2] at h
  have h2 := eF h2
  obtain rfl := sI h
  exact callOK cxOK cxW Tryz.func30 (by kernel_rfl) (f30_e2 x1 x2 x3) ⟨ch1, (by rw [h2]; rfl), trivial⟩

theorem f32_p8_2_ok (F : Nat) (x1 : Int) (x3 : Bool) (x16 : LI) (x15 x17 : Int) (x2 : LI) (x14 : Int) (x18 : Bool) (r : (List Int)) (h : f32_p8_2 F x1 x3 x16 x15 x17 x2 x14 x18 = some r) : f32_p8_2_P x1 x3 x16 x15 x17 x2 x14 x18 r := by
 unfold f32_p8_2 at h
 by_cases h24 : x18 = true
 ·rw [if_pos h24] at h
  obtain rfl := sI h
  exact gRun_ok cxOK (f32_p8_2_e0 x1 x2 x3 x14 x15 x16 x17 x18) ⟨(by rw [h24]; rfl), trivial⟩
 ·rw [if_neg h24] at h
  have h24 := eF h24
  obtain ⟨h25, h⟩ := req_some h
  obtain rfl := sI h
  exact gRun_ok cxOK (f32_p8_2_e1 x1 x2 x3 x14 x15 x16 x17 x18) ⟨(by rw [h24]; rfl), h25, rfl, trivial⟩
theorem f32_p5_1_ok (F : Nat) (x1 : Int) (x3 : Bool) (x15 : Int) (x2 : LI) (x14 : Int) : ∀ (k : Nat) (x17 : Int) (x16 : LI) (r : (List Int)), f32_p5_1 F x1 x3 x15 x2 x14 k x17 x16 = some r → f32_p5_1_P x1 x3 x15 x2 x14 x17 x16 r
 | 0, _, _, _, h => by cases h
 | k + 1, x17, x16, r, h => by
  unfold f32_p5_1 at h
  by_cases h20 : (decide (x17 < x1)) = true
  ·rw [if_pos h20] at h
   obtain ⟨h21, h⟩ := req_some h
   by_cases h22 : ((decide ((iXor .u64 x15 (iShl .u64 1 x17)) > x15)) == x3) = true
   ·rw [if_pos h22] at h
    obtain ⟨x18, h23, h⟩ := bind_some h
    have ch23 := f56_ok F (List.drop 0 (List.take (0 + (List.length x16)) x16)) (iXor .u64 x15 (iShl .u64 1 x17)) _ h23
    try dsimp only at h
    obtain ⟨x19, h26, h⟩ := bind_some h
    have ch26 := f32_p8_2_ok F x1 x3 x16 x15 x17 x2 x14 x18 _ h26
    try dsimp only at h
    exact Lp.again (gRun_ok cxOK (f32_p5_1_e0 x1 x2 x3 x14 x15 x16 x17 x18 x19) ⟨h20, h21, h22, h22, h22, ch23, (Nat.le_of_eq (Nat.zero_add _)), h22, h22, ch26, trivial⟩) (f32_p5_1_ok F x1 x3 x15 x2 x14 k (w64 (x17 + 1)) x19 r h)
   ·rw [if_neg h22] at h
    have h22 := eF h22
    exact Lp.again (gRun_ok cxOK (f32_p5_1_e1 x1 x2 x3 x14 x15 x16 x17) ⟨h20, h21, h22, h22, h22, h22, h22, rfl, trivial⟩) (f32_p5_1_ok F x1 x3 x15 x2 x14 k (w64 (x17 + 1)) x16 r h)
  ·rw [if_neg h20] at h
   have h20 := eF h20
   obtain rfl := sI h
   exact Lp.out (gRun_ok cxOK (f32_p5_1_e2 x1 x2 x3 x14 x15 x16 x17) ⟨h20, trivial⟩) (by intro hh; cases hh)
theorem f32_p1_ok (F : Nat) (x1 : Int) (x3 : Bool) (x2 : LI) : ∀ (k : Nat) (x14 : Int) (x13 : LI) (r : (List Int)), f32_p1 F x1 x3 x2 k x14 x13 = some r → f32_p1_P x1 x3 x2 x14 x13 r
 | 0, _, _, _, h => by cases h
 | k + 1, x14, x13, r, h => by
  unfold f32_p1 at h
  by_cases h18 : (decide (x14 < ((List.length x2 : Nat) : Int))) = true
  ·rw [if_pos h18] at h
   obtain ⟨x15, h19, h⟩ := bind_some h
   try dsimp only at h
   obtain ⟨x20, h27, h⟩ := bind_some h
   have ch27 := f32_p5_1_ok F x1 x3 x15 x2 x14 F 0 x13 _ h27
   try dsimp only at h
   exact Lp.again (gRun_ok cxOK (f32_p1_e0 x1 x2 x3 x13 x14 x15 x20) ⟨h18, ⟨(at?_spec h19).1, x15, (at?_spec h19).2, rfl⟩, ch27, trivial⟩) (f32_p1_ok F x1 x3 x2 k (w64 (x14 + 1)) x20 r h)
  ·rw [if_neg h18] at h
   have h18 := eF h18
   obtain rfl := sI h
   exact Lp.out (gRun_ok cxOK (f32_p1_e1 x1 x2 x3 x13 x14) ⟨h18, trivial⟩) (by intro hh; cases hh)
theorem f32_ok (F : Nat) (x1 : Int) (x2 : LI) (x3 : Bool) (r : (List Int)) (h : f32 F x1 x2 x3 = some r) : f32_C x1 x2 x3 r := by
 unfold f32 at h
 obtain ⟨x21, h28, h⟩ := bind_some h
 have ch28 := f32_p1_ok F x1 x3 x2 F 0 ([] : List Int) _ h28
 try dsimp only at h
 obtain rfl := sI h
 exact callOK cxOK cxW Tryz.func32 (by kernel_rfl) (f32_e0 x1 x2 x3 x21) ⟨ch28, (Nat.le_of_eq (Nat.zero_add _)), trivial⟩

theorem f112_ok (F : Nat) (x1 : Int) (r : Int) (h : f112 F x1 = some r) : f112_C x1 r := by
 unfold f112 at h
 by_cases h1 : (x1 == 0) = true
 ·rw [if_pos h1] at h
  obtain rfl := sI h
  exact callOK cxOK cxW Tryz.func112 (by kernel_rfl) (f112_e0 x1) ⟨h1, trivial⟩
 ·rw [if_neg h1] at h
  have h1 := eF h1
  obtain ⟨x2, h2, h⟩ := bind_some h
  try dsimp only at h
  obtain rfl := sI h
  exact callOK cxOK cxW Tryz.func112 (by kernel_rfl) (f112_e1 x1 x2) ⟨h1, (by decide), ⟨(at?_spec h2).1, at?_lt h2, x2, (at?_spec h2).2, rfl⟩, trivial⟩

theorem f92_ok (F : Nat) (x1 : Int) (r : Int) (h : f92 F x1 = some r) : f92_C x1 r := by
 unfold f92 at h
 obtain ⟨x2, h1, h⟩ := bind_some h
 have ch1 := f112_ok F x1 _ h1
 try dsimp only at h
 obtain rfl := sI h
 exact callOK cxOK cxW Tryz.func92 (by kernel_rfl) (f92_e0 x1 x2) ⟨rfl, ch1, trivial⟩

theorem f58_p1_ok (F : Nat) : ∀ (k : Nat) (x5 : Int) (x4 : LI) (r : (List Int)), f58_p1 F k x5 x4 = some r → f58_p1_P x5 x4 r
 | 0, _, _, _, h => by cases h
 | k + 1, x5, x4, r, h => by
  unfold f58_p1 at h
  by_cases h4 : (x5 != 0) = true
  ·rw [if_pos h4] at h
   obtain ⟨x6, h5, h⟩ := bind_some h
   have ch5 := f92_ok F x5 _ h5
   try dsimp only at h
   obtain ⟨h6, h⟩ := req_some h
   exact Lp.again (gRun_ok cxOK (f58_p1_e0 x4 x5 x6) ⟨h4, ch5, h6, rfl, trivial⟩) (f58_p1_ok F k (iAnd .u64 x5 (IntKind.wrap .u64 (x5 - 1))) (x4 ++ ([x6] : List Int)) r h)
  ·rw [if_neg h4] at h
   have h4 := eF h4
   obtain rfl := sI h
   exact Lp.out (gRun_ok cxOK (f58_p1_e1 x4 x5) ⟨h4, trivial⟩) (by intro hh; cases hh)
theorem f58_ok (F : Nat) (x1 : Int) (r : (List Int)) (h : f58 F x1 = some r) : f58_C x1 r := by
 unfold f58 at h
 obtain ⟨x7, h7, h⟩ := bind_some h
 have ch7 := f58_p1_ok F F x1 ([] : List Int) _ h7
 try dsimp only at h
 obtain rfl := sI h
 exact callOK cxOK cxW Tryz.func58 (by kernel_rfl) (f58_e0 x1 x7) ⟨ch7, (Nat.le_of_eq (Nat.zero_add _)), trivial⟩

theorem f57_p1_ok (F : Nat) (x1 : LI) : ∀ (k : Nat) (x6 : Int) (x5 : LL) (r : (List (List Int))), f57_p1 F x1 k x6 x5 = some r → f57_p1_P x1 x6 x5 r
 | 0, _, _, _, h => by cases h
 | k + 1, x6, x5, r, h => by
  unfold f57_p1 at h
  by_cases h5 : (decide (x6 < ((List.length x1 : Nat) : Int))) = true
  ·rw [if_pos h5] at h
   obtain ⟨x7, h6, h⟩ := bind_some h
   try dsimp only at h
   obtain ⟨x8, h7, h⟩ := bind_some h
   have ch7 := f58_ok F x7 _ h7
   try dsimp only at h
   obtain ⟨h8, h⟩ := req_some h
   exact Lp.again (gRun_ok cxOK (f57_p1_e0 x1 x5 x6 x7 x8) ⟨h5, ⟨(at?_spec h6).1, x7, (at?_spec h6).2, rfl⟩, ch7, h8, rfl, trivial⟩) (f57_p1_ok F x1 k (w64 (x6 + 1)) (x5 ++ ([x8] : List (List Int))) r h)
  ·rw [if_neg h5] at h
   have h5 := eF h5
   obtain rfl := sI h
   exact Lp.out (gRun_ok cxOK (f57_p1_e1 x1 x5 x6) ⟨h5, trivial⟩) (by intro hh; cases hh)
theorem f57_ok (F : Nat) (x1 : LI) (r : (List (List Int))) (h : f57 F x1 = some r) : f57_C x1 r := by
 unfold f57 at h
 obtain ⟨x9, h9, h⟩ := bind_some h
 have ch9 := f57_p1_ok F x1 F 0 ([] : List (List Int)) _ h9
 try dsimp only at h
 obtain rfl := sI h
 exact callOK cxOK cxW Tryz.func57 (by kernel_rfl) (f57_e0 x1 x9) ⟨ch9, trivial⟩

theorem f74_p0_ok (F : Nat) (x1 : Int) (r : Int × Int) (h : f74_p0 F x1 = some r) : f74_p0_P x1 r := by
 unfold f74_p0 at h
 by_cases h1 : (decide (x1 ≥ 4294967296)) = true
 ·rw [if_pos h1] at h
  obtain rfl := sI h
  exact gRun_ok cxOK (f74_p0_e0 x1) ⟨h1, (by decide), trivial⟩
 ·rw [if_neg h1] at h
  have h1 := eF h1
  obtain rfl := sI h
  exact gRun_ok cxOK (f74_p0_e1 x1) ⟨h1, trivial⟩
theorem f74_p1_ok (F : Nat) (x2 x3 : Int) (r : Int × Int) (h : f74_p1 F x2 x3 = some r) : f74_p1_P x2 x3 r := by
 unfold f74_p1 at h
 by_cases h3 : (decide (x2 ≥ 65536)) = true
 ·rw [if_pos h3] at h
  obtain rfl := sI h
  exact gRun_ok cxOK (f74_p1_e0 x2 x3) ⟨h3, (by decide), trivial⟩
 ·rw [if_neg h3] at h
  have h3 := eF h3
  obtain rfl := sI h
  exact gRun_ok cxOK (f74_p1_e1 x2 x3) ⟨h3, trivial⟩
theorem f74_p2_ok (F : Nat) (x4 x5 : Int) (r : Int × Int) (h : f74_p2 F x4 x5 = some r) : f74_p2_P x4 x5 r := by
 unfold f74_p2 at h
 by_cases h5 : (decide (x4 ≥ 256)) = true
 ·rw [if_pos h5] at h
  obtain rfl := sI h
  exact gRun_ok cxOK (f74_p2_e0 x4 x5) ⟨h5, (by decide), trivial⟩
 ·rw [if_neg h5] at h
  have h5 := eF h5
  obtain rfl := sI h
  exact gRun_ok cxOK (f74_p2_e1 x4 x5) ⟨h5, trivial⟩
theorem f74_ok (F : Nat) (x1 : Int) (r : Int) (h : f74 F x1 = some r) : f74_C x1 r := by
 unfold f74 at h
 obtain ⟨rh2, h2, h⟩ := bind_some h
 have ch2 := f74_p0_ok F x1 _ h2
 obtain ⟨x2, x3⟩ := rh2
 try dsimp only at h
 obtain ⟨rh4, h4, h⟩ := bind_some h
 have ch4 := f74_p1_ok F x2 x3 _ h4
 obtain ⟨x4, x5⟩ := rh4
 try dsimp only at h
 obtain ⟨rh6, h6, h⟩ := bind_some h
 have ch6 := f74_p2_ok F x4 x5 _ h6
 obtain ⟨x6, x7⟩ := rh6
 try dsimp only at h
 obtain ⟨h7, h⟩ := req_some h
 obtain rfl := sI h
 exact callOK cxOK cxW Tryz.func74 (by kernel_rfl) (f74_e0 x1 x2 x3 x4 x5 x6 x7) ⟨ch2, ch4, ch6, h7, trivial⟩

theorem f39_ok (F : Nat) (x1 : Int) (r : Int) (h : f39 F x1 = some r) : f39_C x1 r := by
 unfold f39 at h
 obtain ⟨x2, h1, h⟩ := bind_some h
 have ch1 := f74_ok F x1 _ h1
 try dsimp only at h
 obtain rfl := sI h
 exact callOK cxOK cxW Tryz.func39 (by kernel_rfl) (f39_e0 x1 x2) ⟨rfl, ch1, trivial⟩

theorem f105_ok (F : Nat) (x1 : Int) (r : Bool) (h : f105 F x1 = some r) : f105_C x1 r := by
 unfold f105 at h
 obtain rfl := sI h
 exact callOK cxOK cxW Tryz.func105 (by kernel_rfl) (f105_e0 x1) trivial

theorem f94_ok (F : Nat) (x1 x2 : Int) (r : Int) (h : f94 F x1 x2 = some r) : f94_C x1 x2 r := by
 unfold f94 at h
 obtain ⟨x3, h1, h⟩ := bind_some h
 have ch1 := f105_ok F x1 _ h1
 try dsimp only at h
 obtain ⟨x4, h2, h⟩ := bind_some h
 have ch2 := f105_ok F x2 _ h2
 try dsimp only at h
 by_cases h3 : x3 = true
 ·rw [if_pos h3] at h
  by_cases h4 : x4 = true
  ·rw [if_pos h4] at h
   obtain rfl := sI h
   exact callOK cxOK cxW Tryz.func94 (by kernel_rfl) (f94_e0 x1 x2 x3 x4) ⟨ch1, ch2, h3, h4, trivial⟩
  ·rw [if_neg h4] at h
   have h4 := eF h4
   obtain rfl := sI h
   exact callOK cxOK cxW Tryz.func94 (by kernel_rfl) (f94_e1 x1 x2 x3 x4) ⟨ch1, ch2, h3, h4, trivial⟩
 ·rw [if_neg h3] at h
  have h3 := eF h3
  by_cases h5 : x4 = true
  ·rw [if_pos h5] at h
   obtain rfl := sI h
   exact callOK cxOK cxW Tryz.func94 (by kernel_rfl) (f94_e2 x1 x2 x3 x4) ⟨ch1, ch2, h3, h5, trivial⟩
  ·rw [if_neg h5] at h
   have h5 := eF h5
   by_cases h6 : (decide (x1 < x2)) = true
   ·rw [if_pos h6] at h
    obtain rfl := sI h
    exact callOK cxOK cxW Tryz.func94 (by kernel_rfl) (f94_e3 x1 x2 x3 x4) ⟨ch1, ch2, h3, h5, h6, trivial⟩
   ·rw [if_neg h6] at h
    have h6 := eF h6
    by_cases h7 : (decide (x1 > x2)) = true
    ·rw [if_pos h7] at h
     obtain rfl := sI h
     exact callOK cxOK cxW Tryz.func94 (by kernel_rfl) (f94_e4 x1 x2 x3 x4) ⟨ch1, ch2, h3, h5, h6, h7, trivial⟩
    ·rw [if_neg h7] at h
     have h7 := eF h7
     obtain rfl := sI h
     exact callOK cxOK cxW Tryz.func94 (by kernel_rfl) (f94_e5 x1 x2 x3 x4) ⟨ch1, ch2, h3, h5, h6, h7, trivial⟩

theorem f60_p1_ok (F : Nat) (x1 x2 : LI) : ∀ (k : Nat) (x3 : Int) (r : f60_p1_R), f60_p1 F x1 x2 k x3 = some r → f60_p1_P x1 x2 x3 r
 | 0, _, _, h => by cases h
 | k + 1, x3, r, h => by
  unfold f60_p1 at h
  by_cases h1 : (decide (x3 < ((List.length x1 : Nat) : Int))) = true
  ·rw [if_pos h1] at h
   obtain ⟨x4, h2, h⟩ := bind_some h
   try dsimp only at h
   by_cases h3 : (decide (x3 ≥ ((List.length x2 : Nat) : Int))) = true
   ·rw [if_pos h3] at h
    obtain rfl := sI h
    exact Lp.out (gRun_ok cxOK (f60_p1_e0 x1 x2 x3 x4) ⟨h1, ⟨(at?_spec h2).1, x4, (at?_spec h2).2, rfl⟩, h3, trivial⟩) (by intro hh; cases hh)
   ·rw [if_neg h3] at h
    have h3 := eF h3
    obtain ⟨x5, h4, h⟩ := bind_some h
    try dsimp only at h
    obtain ⟨x6, h5, h⟩ := bind_some h
    have ch5 := f94_ok F x4 x5 _ h5
    try dsimp only at h
    by_cases h6 : (x6 != 0) = true
    ·rw [if_pos h6] at h
     obtain rfl := sI h
     exact Lp.out (gRun_ok cxOK (f60_p1_e1 x1 x2 x3 x4 x5 x6) ⟨h1, ⟨(at?_spec h2).1, x4, (at?_spec h2).2, rfl⟩, h3, ⟨(at?_spec h4).1, x5, (at?_spec h4).2, rfl⟩, ch5, h6, trivial⟩) (by intro hh; cases hh)
    ·rw [if_neg h6] at h
     have h6 := eF h6
     exact Lp.again (gRun_ok cxOK (f60_p1_e2 x1 x2 x3 x4 x5 x6) ⟨h1, ⟨(at?_spec h2).1, x4, (at?_spec h2).2, rfl⟩, h3, ⟨(at?_spec h4).1, x5, (at?_spec h4).2, rfl⟩, ch5, h6, trivial⟩) (f60_p1_ok F x1 x2 k (w64 (x3 + 1)) r h)
  ·rw [if_neg h1] at h
   have h1 := eF h1
   obtain rfl := sI h
   exact Lp.out (gRun_ok cxOK (f60_p1_e3 x1 x2 x3) ⟨h1, trivial⟩) (by intro hh; cases hh)
theorem f60_ok (F : Nat) (x1 x2 : LI) (r : Int) (h : f60 F x1 x2 = some r) : f60_C x1 x2 r := by
 unfold f60 at h
 obtain ⟨rh7, h7, h⟩ := bind_some h
 have ch7 := f60_p1_ok F x1 x2 F 0 _ h7
 cases rh7 with
 | c0 x7 =>
  try dsimp only at h
  obtain rfl := sI h
  exact callOK cxOK cxW Tryz.func60 (by kernel_rfl) (f60_e0 x1 x2 x7) ⟨ch7, trivial⟩
 | c1 =>
  try dsimp only at h
  by_cases h8 : (decide (((List.length x1 : Nat) : Int) < ((List.length x2 : Nat) : Int))) = true
  ·rw [if_pos h8] at h
   obtain rfl := sI h
   exact callOK cxOK cxW Tryz.func60 (by kernel_rfl) (f60_e1 x1 x2) ⟨ch7, h8, trivial⟩
  ·rw [if_neg h8] at h
   have h8 := eF h8
   obtain rfl := sI h
   exact callOK cxOK cxW Tryz.func60 (by kernel_rfl) (f60_e2 x1 x2) ⟨ch7, h8, trivial⟩

theorem f113_p5_1_ok (F : Nat) (x1 x2 : Nat) (x3 x4 x18 : Int) : ∀ (k : Nat) (x24 : Int) (x23 : LL) (r : (List (List Int))), f113_p5_1 F x1 x2 x3 x4 x18 k x24 x23 = some r → f113_p5_1_P x1 x2 x3 x4 x18 x24 x23 r
 | 0, _, _, _, h => by cases h
 | k + 1, x24, x23, r, h => by
  unfold f113_p5_1 at h
  by_cases h31 : (decide (x24 > x3)) = true
  ·rw [if_pos h31] at h
   obtain ⟨h32, h⟩ := req_some h
   obtain ⟨x25, h33, h⟩ := bind_some h
   try dsimp only at h
   obtain ⟨h34, h⟩ := req_some h
   obtain ⟨x26, h35, h⟩ := bind_some h
   try dsimp only at h
   obtain ⟨x27, h36, h⟩ := bind_some h
   have ch36 := f60_ok F x25 x26 _ h36
   try dsimp only at h
   by_cases h37 : (decide (x27 < 0)) = true
   ·rw [if_pos h37] at h
    obtain ⟨h38, h⟩ := req_some h
    obtain ⟨h39, h⟩ := req_some h
    exact Lp.again (gRun_ok cxOK (f113_p5_1_e0 x1 x2 x3 x4 x18 x23 x24 x25 x26 x27) ⟨h31, h31, h31, h31, h32, h31, ⟨x25, h33, rfl⟩, h31, h31, h31, h31, h34, h31, ⟨x26, h35, rfl⟩, h31, ch36, h31, h31, h37, h34, ⟨x26, h35, rfl⟩, h32, ⟨x25, h33, rfl⟩, h32, h38, h34, h39, trivial⟩) (f113_p5_1_ok F x1 x2 x3 x4 x18 k (w64 (x24 - 1)) (List.set (List.set x23 (x1 + (Int.toNat x24)) x26) (x1 + (Int.toNat (w64 (x24 - 1)))) x25) r h)
   ·rw [if_neg h37] at h
    have h37 := eF h37
    obtain rfl := sI h
    exact Lp.out (gRun_ok cxOK (f113_p5_1_e1 x1 x2 x3 x4 x18 x23 x24 x25 x26 x27) ⟨h31, h31, h31, h31, h32, h31, ⟨x25, h33, rfl⟩, h31, h31, h31, h31, h34, h31, ⟨x26, h35, rfl⟩, h31, ch36, h31, h31, h37, trivial⟩) (by intro hh; cases hh)
  ·rw [if_neg h31] at h
   have h31 := eF h31
   obtain rfl := sI h
   exact Lp.out (gRun_ok cxOK (f113_p5_1_e2 x1 x2 x3 x4 x18 x23 x24) ⟨h31, h31, h31, h31, h31, h31, h31, h31, h31, h31, h31, h31, h31, rfl, trivial⟩) (by intro hh; cases hh)
theorem f113_p1_ok (F : Nat) (x1 x2 : Nat) (x3 x4 : Int) : ∀ (k : Nat) (x18 : Int) (x17 : LL) (r : (List (List Int))), f113_p1 F x1 x2 x3 x4 k x18 x17 = some r → f113_p1_P x1 x2 x3 x4 x18 x17 r
 | 0, _, _, _, h => by cases h
 | k + 1, x18, x17, r, h => by
  unfold f113_p1 at h
  by_cases h21 : (decide (x18 < x4)) = true
  ·rw [if_pos h21] at h
   obtain ⟨x28, h40, h⟩ := bind_some h
   have ch40 := f113_p5_1_ok F x1 x2 x3 x4 x18 F x18 x17 _ h40
   try dsimp only at h
   exact Lp.again (gRun_ok cxOK (f113_p1_e0 x1 x2 x3 x4 x17 x18 x28) ⟨h21, ch40, trivial⟩) (f113_p1_ok F x1 x2 x3 x4 k (w64 (x18 + 1)) x28 r h)
  ·rw [if_neg h21] at h
   have h21 := eF h21
   obtain rfl := sI h
   exact Lp.out (gRun_ok cxOK (f113_p1_e1 x1 x2 x3 x4 x17 x18) ⟨h21, trivial⟩) (by intro hh; cases hh)
theorem f113_ok (F : Nat) (x1 x2 : Nat) (x3 x4 : Int) (x5 : LL) (r : (List (List Int))) (h : f113 F x1 x2 x3 x4 x5 = some r) : f113_C x1 x2 x3 x4 x5 r := by
 unfold f113 at h
 obtain ⟨x29, h41, h⟩ := bind_some h
 have ch41 := f113_p1_ok F x1 x2 x3 x4 F (w64 (x3 + 1)) x5 _ h41
 try dsimp only at h
 obtain rfl := sI h
 exact callOK cxOK cxW Tryz.func113 (by kernel_rfl) (f113_e0 x1 x2 x3 x4 x5 x29) ⟨ch41, trivial⟩

theorem f101_ok (F : Nat) (x1 : Int) (r : Int) (h : f101 F x1 = some r) : f101_C x1 r := by
 unfold f101 at h
 obtain ⟨x2, h1, h⟩ := bind_some h
 have ch1 := f39_ok F (IntKind.wrap .u64 (x1)) _ h1
 try dsimp only at h
 obtain ⟨h2, h⟩ := req_some h
 obtain rfl := sI h
 exact callOK cxOK cxW Tryz.func101 (by kernel_rfl) (f101_e0 x1 x2) ⟨ch1, h2, trivial⟩

theorem f102_ok (F : Nat) (x1 : Int) (r : Int × Int) (h : f102 F x1 = some r) : f102_C x1 r := by
 unfold f102 at h
 obtain rfl := sI h
 exact callOK cxOK cxW Tryz.func102 (by kernel_rfl) (f102_e0 x1) ⟨(by decide), (by decide), (by decide), trivial⟩

theorem f115_p5_1_ok (F : Nat) (x1 x2 : Nat) (x3 x4 : Int) (x6 x14 x16 : Int) (x13 : LL) (x17 : Int) (r : Int) (h : f115_p5_1 F x1 x2 x3 x4 x6 x14 x16 x13 x17 = some r) : f115_p5_1_P x1 x2 x3 x4 x6 x14 x16 x13 x17 r := by
 unfold f115_p5_1 at h
 by_cases h15 : (decide ((w64 ((iAnd .u64 x16 (IntKind.wrap .u64 (x6 - 1))))) ≥ (w64 (x4 - x3)))) = true
 ·rw [if_pos h15] at h
  obtain rfl := sI h
  exact gRun_ok cxOK (f115_p5_1_e0 x1 x2 x3 x4 x6 x13 x14 x16 x17) ⟨h15, trivial⟩
 ·rw [if_neg h15] at h
  have h15 := eF h15
  obtain rfl := sI h
  exact gRun_ok cxOK (f115_p5_1_e1 x1 x2 x3 x4 x6 x13 x14 x16 x17) ⟨h15, trivial⟩
theorem f115_p2_ok (F : Nat) (x1 x2 : Nat) (x3 x4 x6 : Int) : ∀ (k : Nat) (x14 : Int) (x13 : LL) (x15 : Int) (r : (List (List Int))), f115_p2 F x1 x2 x3 x4 x6 k x14 x13 x15 = some r → f115_p2_P x1 x2 x3 x4 x6 x14 x13 x15 r
 | 0, _, _, _, _, h => by cases h
 | k + 1, x14, x13, x15, r, h => by
  unfold f115_p2 at h
  by_cases h13 : (decide (x14 ≤ (w64 ((w64 (x3 + (w64 ((w64 (Int.tdiv (w64 (x4 - x3)) 4)) * 2)))) + 1)))) = true
  ·rw [if_pos h13] at h
   obtain ⟨rh14, h14, h⟩ := bind_some h
   have ch14 := f102_ok F x15 _ h14
   obtain ⟨x16, x17⟩ := rh14
   try dsimp only at h
   obtain ⟨x18, h16, h⟩ := bind_some h
   have ch16 := f115_p5_1_ok F x1 x2 x3 x4 x6 x14 x16 x13 x17 _ h16
   try dsimp only at h
   obtain ⟨h17, h⟩ := req_some h
   obtain ⟨x19, h18, h⟩ := bind_some h
   try dsimp only at h
   obtain ⟨h19, h⟩ := req_some h
   obtain ⟨x20, h20, h⟩ := bind_some h
   try dsimp only at h
   obtain ⟨h21, h⟩ := req_some h
   obtain ⟨h22, h⟩ := req_some h
   exact Lp.again (gRun_ok cxOK (f115_p2_e0 x1 x2 x3 x4 x6 x13 x14 x15 x16 x17 x18 x19 x20) ⟨(by decide), h13, ch14, ch16, h17, ⟨x19, h18, rfl⟩, h19, ⟨x20, h20, rfl⟩, h19, h21, h17, h22, trivial⟩) (f115_p2_ok F x1 x2 x3 x4 x6 k (w64 (x14 + 1)) (List.set (List.set x13 (x1 + (Int.toNat x14)) x19) (x1 + (Int.toNat (w64 (x3 + x18)))) x20) x17 r h)
  ·rw [if_neg h13] at h
   have h13 := eF h13
   obtain rfl := sI h
   exact Lp.out (gRun_ok cxOK (f115_p2_e1 x1 x2 x3 x4 x6 x13 x14 x15) ⟨(by decide), h13, trivial⟩) (by intro hh; cases hh)
theorem f115_p0_ok (F : Nat) (x1 x2 : Nat) (x3 x4 : Int) (x5 : LL) (r : (List (List Int))) (h : f115_p0 F x1 x2 x3 x4 x5 = some r) : f115_p0_P x1 x2 x3 x4 x5 r := by
 unfold f115_p0 at h
 by_cases h1 : (decide ((w64 (x4 - x3)) ≥ 8)) = true
 ·rw [if_pos h1] at h
  obtain ⟨x6, h2, h⟩ := bind_some h
  have ch2 := f101_ok F (w64 (x4 - x3)) _ h2
  try dsimp only at h
  obtain ⟨x21, h23, h⟩ := bind_some h
  have ch23 := f115_p2_ok F x1 x2 x3 x4 x6 F (w64 ((w64 (x3 + (w64 ((w64 (Int.tdiv (w64 (x4 - x3)) 4)) * 2)))) - 1)) x5 (IntKind.wrap .u64 ((w64 (x4 - x3)))) _ h23
  try dsimp only at h
  obtain rfl := sI h
  exact gRun_ok cxOK (f115_p0_e0 x1 x2 x3 x4 x5 x6 x21) ⟨h1, ch2, (by decide), ch23, trivial⟩
 ·rw [if_neg h1] at h
  have h1 := eF h1
  obtain rfl := sI h
  exact gRun_ok cxOK (f115_p0_e1 x1 x2 x3 x4 x5) ⟨h1, trivial⟩
theorem f115_ok (F : Nat) (x1 x2 : Nat) (x3 x4 : Int) (x5 : LL) (r : (List (List Int))) (h : f115 F x1 x2 x3 x4 x5 = some r) : f115_C x1 x2 x3 x4 x5 r := by
 unfold f115 at h
 obtain ⟨x22, h24, h⟩ := bind_some h
 have ch24 := f115_p0_ok F x1 x2 x3 x4 x5 _ h24
 try dsimp only at h
 obtain rfl := sI h
 exact callOK cxOK cxW Tryz.func115 (by kernel_rfl) (f115_e0 x1 x2 x3 x4 x5 x22) ⟨ch24, trivial⟩

theorem f167_ok (F : Nat) (x1 x2 : Nat) (x3 x4 : Int) (x5 : LL) (x6 : Int) (r : Int × Int × Int) (h : f167 F x1 x2 x3 x4 x5 x6 = some r) : f167_C x1 x2 x3 x4 x5 x6 r := by
 unfold f167 at h
 obtain ⟨h1, h⟩ := req_some h
 obtain ⟨x7, h2, h⟩ := bind_some h
 try dsimp only at h
 obtain ⟨h3, h⟩ := req_some h
 obtain ⟨x8, h4, h⟩ := bind_some h
 try dsimp only at h
 obtain ⟨x9, h5, h⟩ := bind_some h
 have ch5 := f60_ok F x7 x8 _ h5
 try dsimp only at h
 by_cases h6 : (decide (x9 < 0)) = true
 ·rw [if_pos h6] at h
  obtain rfl := sI h
  exact callOK cxOK cxW Tryz.func167 (by kernel_rfl) (f167_e0 x1 x2 x3 x4 x5 x6 x7 x8 x9) ⟨h1, ⟨x7, h2, rfl⟩, h3, ⟨x8, h4, rfl⟩, ch5, h6, trivial⟩
 ·rw [if_neg h6] at h
  have h6 := eF h6
  obtain rfl := sI h
  exact callOK cxOK cxW Tryz.func167 (by kernel_rfl) (f167_e1 x1 x2 x3 x4 x5 x6 x7 x8 x9) ⟨h1, ⟨x7, h2, rfl⟩, h3, ⟨x8, h4, rfl⟩, ch5, h6, trivial⟩

theorem f144_ok (F : Nat) (x1 x2 : Nat) (x3 x4 x5 : Int) (x6 : LL) (x7 : Int) (r : Int × Int) (h : f144 F x1 x2 x3 x4 x5 x6 x7 = some r) : f144_C x1 x2 x3 x4 x5 x6 x7 r := by
 unfold f144 at h
 obtain ⟨rh1, h1, h⟩ := bind_some h
 have ch1 := f167_ok F x1 x2 x3 x4 x6 x7 _ h1
 obtain ⟨x8, x9, x10⟩ := rh1
 try dsimp only at h
 obtain ⟨rh2, h2, h⟩ := bind_some h
 have ch2 := f167_ok F x1 x2 x9 x5 x6 x10 _ h2
 obtain ⟨x11, x12, x13⟩ := rh2
 try dsimp only at h
 obtain ⟨rh3, h3, h⟩ := bind_some h
 have ch3 := f167_ok F x1 x2 x8 x11 x6 x13 _ h3
 obtain ⟨x14, x15, x16⟩ := rh3
 try dsimp only at h
 obtain rfl := sI h
 exact callOK cxOK cxW Tryz.func144 (by kernel_rfl) (f144_e0 x1 x2 x3 x4 x5 x6 x7 x8 x9 x10 x11 x12 x13 x14 x15 x16) ⟨ch1, ch2, ch3, trivial⟩

theorem f116_p1_ok (F : Nat) (x1 x2 : Nat) (x3 x4 : Int) (x5 : LL) (r : Unit) (h : f116_p1 F x1 x2 x3 x4 x5 = some r) : f116_p1_P x1 x2 x3 x4 x5 r := by
 unfold f116_p1 at h
 by_cases h2 : (decide ((w64 (x4 - x3)) ≥ 50)) = true
 ·rw [if_pos h2] at h
  cases h
 ·rw [if_neg h2] at h
  have h2 := eF h2
  obtain rfl := sI h
  exact gRun_ok cxOK (f116_p1_e0 x1 x2 x3 x4 x5) ⟨h2, trivial⟩
theorem f116_p0_ok (F : Nat) (x1 x2 : Nat) (x4 x3 : Int) (x5 : LL) (r : Int × Int) (h : f116_p0 F x1 x2 x4 x3 x5 = some r) : f116_p0_P x1 x2 x4 x3 x5 r := by
 unfold f116_p0 at h
 by_cases h1 : (decide ((w64 (x4 - x3)) ≥ 8)) = true
 ·rw [if_pos h1] at h
  obtain ⟨rh3, h3, h⟩ := bind_some h
  have ch3 := f116_p1_ok F x1 x2 x3 x4 x5 _ h3
  try dsimp only at h
  obtain ⟨rh4, h4, h⟩ := bind_some h
  have ch4 := f144_ok F x1 x2 (w64 (x3 + (w64 ((w64 (Int.tdiv (w64 (x4 - x3)) 4)) * 1)))) (w64 (x3 + (w64 ((w64 (Int.tdiv (w64 (x4 - x3)) 4)) * 2)))) (w64 (x3 + (w64 ((w64 (Int.tdiv (w64 (x4 - x3)) 4)) * 3)))) x5 0 _ h4
  obtain ⟨x6, x7⟩ := rh4
  try dsimp only at h
  obtain rfl := sI h
  exact gRun_ok cxOK (f116_p0_e0 x1 x2 x3 x4 x5 x6 x7) ⟨h1, ch3, ch4, trivial⟩
 ·rw [if_neg h1] at h
  have h1 := eF h1
  obtain rfl := sI h
  exact gRun_ok cxOK (f116_p0_e1 x1 x2 x3 x4 x5) ⟨h1, trivial⟩
theorem f116_ok (F : Nat) (x1 x2 : Nat) (x3 x4 : Int) (x5 : LL) (r : Int × Int) (h : f116 F x1 x2 x3 x4 x5 = some r) : f116_C x1 x2 x3 x4 x5 r := by
 unfold f116 at h
 obtain ⟨rh5, h5, h⟩ := bind_some h
 have ch5 := f116_p0_ok F x1 x2 x4 x3 x5 _ h5
 obtain ⟨x8, x9⟩ := rh5
 try dsimp only at h
 by_cases h6 : (x9 == 0) = true
 ·rw [if_pos h6] at h
  obtain rfl := sI h
  exact callOK cxOK cxW Tryz.func116 (by kernel_rfl) (f116_e0 x1 x2 x3 x4 x5 x8 x9) ⟨(by decide), (by decide), (by decide), ch5, h6, trivial⟩
 ·rw [if_neg h6] at h
  have h6 := eF h6
  by_cases h7 : (x9 == 12) = true
  ·rw [if_pos h7] at h
   obtain rfl := sI h
   exact callOK cxOK cxW Tryz.func116 (by kernel_rfl) (f116_e1 x1 x2 x3 x4 x5 x8 x9) ⟨(by decide), (by decide), (by decide), ch5, h6, h7, trivial⟩
  ·rw [if_neg h7] at h
   have h7 := eF h7
   obtain rfl := sI h
   exact callOK cxOK cxW Tryz.func116 (by kernel_rfl) (f116_e2 x1 x2 x3 x4 x5 x8 x9) ⟨(by decide), (by decide), (by decide), ch5, h6, h7, trivial⟩

theorem f118_p5_ok (F : Nat) (x1 x2 : Nat) (x3 x4 x7 : Int) (x5 : LL) : ∀ (k : Nat) (x8 : Int) (r : Int), f118_p5 F x1 x2 x3 x4 x7 x5 k x8 = some r → f118_p5_P x1 x2 x3 x4 x7 x5 x8 r
 | 0, _, _, h => by cases h
 | k + 1, x8, r, h => by
  unfold f118_p5 at h
  by_cases h2 : (decide (x8 < x4)) = true
  ·rw [if_pos h2] at h
   obtain ⟨h3, h⟩ := req_some h
   obtain ⟨x9, h4, h⟩ := bind_some h
   try dsimp only at h
   obtain ⟨h5, h⟩ := req_some h
   obtain ⟨x10, h6, h⟩ := bind_some h
   try dsimp only at h
   obtain ⟨x11, h7, h⟩ := bind_some h
   have ch7 := f60_ok F x9 x10 _ h7
   try dsimp only at h
   by_cases h8 : (decide (x11 < 0)) = true
   ·rw [if_pos h8] at h
    obtain rfl := sI h
    exact Lp.out (gRun_ok cxOK (f118_p5_e0 x1 x2 x3 x4 x5 x7 x8 x9 x10 x11) ⟨h2, h2, h2, h2, h3, h2, ⟨x9, h4, rfl⟩, h2, h2, h2, h2, h5, h2, ⟨x10, h6, rfl⟩, h2, ch7, h2, h2, h2, (by rw [h8]; rfl), trivial⟩) (by intro hh; cases hh)
   ·rw [if_neg h8] at h
    have h8 := eF h8
    exact Lp.again (gRun_ok cxOK (f118_p5_e1 x1 x2 x3 x4 x5 x7 x8 x9 x10 x11) ⟨h2, h2, h2, h2, h3, h2, ⟨x9, h4, rfl⟩, h2, h2, h2, h2, h5, h2, ⟨x10, h6, rfl⟩, h2, ch7, h2, h2, h2, (by rw [h8]; rfl), trivial⟩) (f118_p5_ok F x1 x2 x3 x4 x7 x5 k (w64 (x8 + 1)) r h)
  ·rw [if_neg h2] at h
   have h2 := eF h2
   obtain rfl := sI h
   exact Lp.out (gRun_ok cxOK (f118_p5_e2 x1 x2 x3 x4 x5 x7 x8) ⟨h2, h2, h2, h2, h2, h2, h2, h2, h2, h2, h2, h2, h2, h2, rfl, trivial⟩) (by intro hh; cases hh)
theorem f118_p1_ok (F : Nat) (x1 x2 : Nat) (x3 x4 : Int) (x5 : LL) : ∀ (k : Nat) (x6 x7 : Int) (r : f118_p1_R), f118_p1 F x1 x2 x3 x4 x5 k x6 x7 = some r → f118_p1_P x1 x2 x3 x4 x5 x6 x7 r
 | 0, _, _, _, h => by cases h
 | k + 1, x6, x7, r, h => by
  unfold f118_p1 at h
  dsimp only at h
  by_cases h1 : (decide (x7 < 5)) = true
  ·rw [if_pos h1] at h
   obtain ⟨x12, h9, h⟩ := bind_some h
   have ch9 := f118_p5_ok F x1 x2 x3 x4 x7 x5 F x6 _ h9
   try dsimp only at h
   by_cases h10 : (x12 == x4) = true
   ·rw [if_pos h10] at h
    obtain rfl := sI h
    exact Lp.out (gRun_ok cxOK (f118_p1_e0 x1 x2 x3 x4 x5 x6 x7 x12) ⟨h1, ch9, h10, trivial⟩) (by intro hh; cases hh)
   ·rw [if_neg h10] at h
    have h10 := eF h10
    by_cases h11 : (decide ((w64 (x4 - x3)) < 50)) = true
    ·rw [if_pos h11] at h
     obtain rfl := sI h
     exact Lp.out (gRun_ok cxOK (f118_p1_e1 x1 x2 x3 x4 x5 x6 x7 x12) ⟨h1, ch9, h10, h11, trivial⟩) (by intro hh; cases hh)
    ·rw [if_neg h11] at h
     have h11 := eF h11
     cases h
  ·rw [if_neg h1] at h
   have h1 := eF h1
   obtain rfl := sI h
   exact Lp.out (gRun_ok cxOK (f118_p1_e2 x1 x2 x3 x4 x5 x6 x7) ⟨h1, trivial⟩) (by intro hh; cases hh)
theorem f118_ok (F : Nat) (x1 x2 : Nat) (x3 x4 : Int) (x5 : LL) (r : Bool) (h : f118 F x1 x2 x3 x4 x5 = some r) : f118_C x1 x2 x3 x4 x5 r := by
 unfold f118 at h
 obtain ⟨rh12, h12, h⟩ := bind_some h
 have ch12 := f118_p1_ok F x1 x2 x3 x4 x5 F (w64 (x3 + 1)) 0 _ h12
 cases rh12 with
 | c0 x13 =>
  try dsimp only at h
  obtain rfl := sI h
  exact callOK cxOK cxW Tryz.func118 (by kernel_rfl) (f118_e0 x1 x2 x3 x4 x5 x13) ⟨ch12, trivial⟩
 | c1 =>
  try dsimp only at h
  obtain rfl := sI h
  exact callOK cxOK cxW Tryz.func118 (by kernel_rfl) (f118_e1 x1 x2 x3 x4 x5) ⟨ch12, trivial⟩

theorem f119_p4_1_ok (F : Nat) (x1 x2 : Nat) (x3 x25 : Int) (x23 : LL) : ∀ (k : Nat) (x26 : Int) (r : Int), f119_p4_1 F x1 x2 x3 x25 x23 k x26 = some r → f119_p4_1_P x1 x2 x3 x25 x23 x26 r
 | 0, _, _, h => by cases h
 | k + 1, x26, r, h => by
  unfold f119_p4_1 at h
  by_cases h30 : (decide (x26 ≤ x25)) = true
  ·rw [if_pos h30] at h
   obtain ⟨h31, h⟩ := req_some h
   obtain ⟨x27, h32, h⟩ := bind_some h
   try dsimp only at h
   obtain ⟨h33, h⟩ := req_some h
   obtain ⟨x28, h34, h⟩ := bind_some h
   try dsimp only at h
   obtain ⟨x29, h35, h⟩ := bind_some h
   have ch35 := f60_ok F x27 x28 _ h35
   try dsimp only at h
   by_cases h36 : (decide (x29 < 0)) = true
   ·rw [if_pos h36] at h
    obtain rfl := sI h
    exact Lp.out (gRun_ok cxOK (f119_p4_1_e0 x1 x2 x3 x23 x25 x26 x27 x28 x29) ⟨h30, h30, h30, h30, h31, h30, ⟨x27, h32, rfl⟩, h30, h30, h30, h33, h30, ⟨x28, h34, rfl⟩, h30, ch35, h30, h30, h30, (by rw [h36]; rfl), trivial⟩) (by intro hh; cases hh)
   ·rw [if_neg h36] at h
    have h36 := eF h36
    exact Lp.again (gRun_ok cxOK (f119_p4_1_e1 x1 x2 x3 x23 x25 x26 x27 x28 x29) ⟨h30, h30, h30, h30, h31, h30, ⟨x27, h32, rfl⟩, h30, h30, h30, h33, h30, ⟨x28, h34, rfl⟩, h30, ch35, h30, h30, h30, (by rw [h36]; rfl), trivial⟩) (f119_p4_1_ok F x1 x2 x3 x25 x23 k (w64 (x26 + 1)) r h)
  ·rw [if_neg h30] at h
   have h30 := eF h30
   obtain rfl := sI h
   exact Lp.out (gRun_ok cxOK (f119_p4_1_e2 x1 x2 x3 x23 x25 x26) ⟨h30, h30, h30, h30, h30, h30, h30, h30, h30, h30, h30, h30, h30, rfl, trivial⟩) (by intro hh; cases hh)
theorem f119_p8_1_ok (F : Nat) (x1 x2 : Nat) (x3 x30 : Int) (x23 : LL) : ∀ (k : Nat) (x31 : Int) (r : Int), f119_p8_1 F x1 x2 x3 x30 x23 k x31 = some r → f119_p8_1_P x1 x2 x3 x30 x23 x31 r
 | 0, _, _, h => by cases h
 | k + 1, x31, r, h => by
  unfold f119_p8_1 at h
  by_cases h38 : (decide (x30 ≤ x31)) = true
  ·rw [if_pos h38] at h
   obtain ⟨h39, h⟩ := req_some h
   obtain ⟨x32, h40, h⟩ := bind_some h
   try dsimp only at h
   obtain ⟨h41, h⟩ := req_some h
   obtain ⟨x33, h42, h⟩ := bind_some h
   try dsimp only at h
   obtain ⟨x34, h43, h⟩ := bind_some h
   have ch43 := f60_ok F x32 x33 _ h43
   try dsimp only at h
   by_cases h44 : (decide (x34 < 0)) = true
   ·rw [if_pos h44] at h
    exact Lp.again (gRun_ok cxOK (f119_p8_1_e0 x1 x2 x3 x23 x30 x31 x32 x33 x34) ⟨h38, h38, h38, h38, h39, h38, ⟨x32, h40, rfl⟩, h38, h38, h38, h41, h38, ⟨x33, h42, rfl⟩, h38, ch43, h38, h38, h44, trivial⟩) (f119_p8_1_ok F x1 x2 x3 x30 x23 k (w64 (x31 - 1)) r h)
   ·rw [if_neg h44] at h
    have h44 := eF h44
    obtain rfl := sI h
    exact Lp.out (gRun_ok cxOK (f119_p8_1_e1 x1 x2 x3 x23 x30 x31 x32 x33 x34) ⟨h38, h38, h38, h38, h39, h38, ⟨x32, h40, rfl⟩, h38, h38, h38, h41, h38, ⟨x33, h42, rfl⟩, h38, ch43, h38, h38, h44, trivial⟩) (by intro hh; cases hh)
  ·rw [if_neg h38] at h
   have h38 := eF h38
   obtain rfl := sI h
   exact Lp.out (gRun_ok cxOK (f119_p8_1_e2 x1 x2 x3 x23 x30 x31) ⟨h38, h38, h38, h38, h38, h38, h38, h38, h38, h38, h38, h38, rfl, trivial⟩) (by intro hh; cases hh)
theorem f119_p1_ok (F : Nat) (x1 x2 : Nat) (x3 : Int) : ∀ (k : Nat) (x24 x25 : Int) (x23 : LL) (r : Int × (List (List Int))), f119_p1 F x1 x2 x3 k x24 x25 x23 = some r → f119_p1_P x1 x2 x3 x24 x25 x23 r
 | 0, _, _, _, _, h => by cases h
 | k + 1, x24, x25, x23, r, h => by
  unfold f119_p1 at h
  obtain ⟨x30, h37, h⟩ := bind_some h
  have ch37 := f119_p4_1_ok F x1 x2 x3 x25 x23 F x24 _ h37
  try dsimp only at h
  obtain ⟨x35, h45, h⟩ := bind_some h
  have ch45 := f119_p8_1_ok F x1 x2 x3 x30 x23 F x25 _ h45
  try dsimp only at h
  by_cases h46 : (decide (x30 > x35)) = true
  ·rw [if_pos h46] at h
   obtain rfl := sI h
   exact Lp.out (gRun_ok cxOK (f119_p1_e0 x1 x2 x3 x23 x24 x25 x30 x35) ⟨ch37, ch45, h46, trivial⟩) (by intro hh; cases hh)
  ·rw [if_neg h46] at h
   have h46 := eF h46
   obtain ⟨h47, h⟩ := req_some h
   obtain ⟨x36, h48, h⟩ := bind_some h
   try dsimp only at h
   obtain ⟨h49, h⟩ := req_some h
   obtain ⟨x37, h50, h⟩ := bind_some h
   try dsimp only at h
   obtain ⟨h51, h⟩ := req_some h
   obtain ⟨h52, h⟩ := req_some h
   exact Lp.again (gRun_ok cxOK (f119_p1_e1 x1 x2 x3 x23 x24 x25 x30 x35 x36 x37) ⟨ch37, ch45, h46, h47, ⟨x36, h48, rfl⟩, h49, ⟨x37, h50, rfl⟩, h49, h51, h47, h52, trivial⟩) (f119_p1_ok F x1 x2 x3 k (w64 (x30 + 1)) (w64 (x35 - 1)) (List.set (List.set x23 (x1 + (Int.toNat x30)) x36) (x1 + (Int.toNat x35)) x37) r h)
theorem f119_ok (F : Nat) (x1 x2 : Nat) (x3 x4 x5 : Int) (x6 : LL) (r : Int × (List (List Int))) (h : f119 F x1 x2 x3 x4 x5 x6 = some r) : f119_C x1 x2 x3 x4 x5 x6 r := by
 unfold f119 at h
 obtain ⟨h1, h⟩ := req_some h
 obtain ⟨x7, h2, h⟩ := bind_some h
 try dsimp only at h
 obtain ⟨h3, h⟩ := req_some h
 obtain ⟨x8, h4, h⟩ := bind_some h
 try dsimp only at h
 obtain ⟨h5, h⟩ := req_some h
 obtain ⟨h6, h⟩ := req_some h
 obtain ⟨rh53, h53, h⟩ := bind_some h
 have ch53 := f119_p1_ok F x1 x2 x3 F (w64 (x3 + 1)) (w64 (x4 - 1)) (List.set (List.set x6 (x1 + (Int.toNat x3)) x7) (x1 + (Int.toNat x5)) x8) _ h53
 obtain ⟨x38, x39⟩ := rh53
 try dsimp only at h
 obtain rfl := sI h
 exact callOK cxOK cxW Tryz.func119 (by kernel_rfl) (f119_e0 x1 x2 x3 x4 x5 x6 x7 x8 x38 x39) ⟨h1, ⟨x7, h2, rfl⟩, h3, ⟨x8, h4, rfl⟩, h3, h5, h1, h6, ch53, trivial⟩

theorem f120_p1_ok (F : Nat) (x1 x2 : Nat) (x3 x4 : Int) (x6 : LL) (x7 : LI) (x5 : Int) (x8 : LI) : ∀ (k : Nat) (x9 : Int) (r : Int), f120_p1 F x1 x2 x3 x4 x6 x7 x5 x8 k x9 = some r → f120_p1_P x1 x2 x3 x4 x6 x7 x5 x8 x9 r
 | 0, _, _, h => by cases h
 | k + 1, x9, r, h => by
  unfold f120_p1 at h
  by_cases h7 : (decide (x9 ≤ (w64 (x4 - 1)))) = true
  ·rw [if_pos h7] at h
   obtain ⟨h8, h⟩ := req_some h
   obtain ⟨x10, h9, h⟩ := bind_some h
   try dsimp only at h
   obtain ⟨h10, h⟩ := req_some h
   obtain ⟨x11, h11, h⟩ := bind_some h
   try dsimp only at h
   obtain ⟨x12, h12, h⟩ := bind_some h
   have ch12 := f60_ok F x10 x11 _ h12
   try dsimp only at h
   by_cases h13 : (decide (x12 < 0)) = true
   ·rw [if_pos h13] at h
    exact Lp.again (gRun_ok cxOK (f120_p1_e0 x1 x2 x3 x4 x5 x6 x7 x8 x9 x10 x11 x12) ⟨h7, h7, h7, h7, h8, h7, ⟨x10, h9, rfl⟩, h7, h7, h7, h10, h7, ⟨x11, h11, rfl⟩, h7, ch12, h7, h7, h13, trivial⟩) (f120_p1_ok F x1 x2 x3 x4 x6 x7 x5 x8 k (w64 (x9 + 1)) r h)
   ·rw [if_neg h13] at h
    have h13 := eF h13
    obtain rfl := sI h
    exact Lp.out (gRun_ok cxOK (f120_p1_e1 x1 x2 x3 x4 x5 x6 x7 x8 x9 x10 x11 x12) ⟨h7, h7, h7, h7, h8, h7, ⟨x10, h9, rfl⟩, h7, h7, h7, h10, h7, ⟨x11, h11, rfl⟩, h7, ch12, h7, h7, h13, trivial⟩) (by intro hh; cases hh)
  ·rw [if_neg h7] at h
   have h7 := eF h7
   obtain rfl := sI h
   exact Lp.out (gRun_ok cxOK (f120_p1_e2 x1 x2 x3 x4 x5 x6 x7 x8 x9) ⟨h7, h7, h7, h7, h7, h7, h7, h7, h7, h7, h7, h7, rfl, trivial⟩) (by intro hh; cases hh)
theorem f120_p5_ok (F : Nat) (x1 x2 : Nat) (x3 x13 : Int) (x6 : LL) (x7 : LI) (x5 : Int) (x8 : LI) : ∀ (k : Nat) (x14 : Int) (r : Int), f120_p5 F x1 x2 x3 x13 x6 x7 x5 x8 k x14 = some r → f120_p5_P x1 x2 x3 x13 x6 x7 x5 x8 x14 r
 | 0, _, _, h => by cases h
 | k + 1, x14, r, h => by
  unfold f120_p5 at h
  by_cases h15 : (decide (x13 ≤ x14)) = true
  ·rw [if_pos h15] at h
   obtain ⟨h16, h⟩ := req_some h
   obtain ⟨x15, h17, h⟩ := bind_some h
   try dsimp only at h
   obtain ⟨h18, h⟩ := req_some h
   obtain ⟨x16, h19, h⟩ := bind_some h
   try dsimp only at h
   obtain ⟨x17, h20, h⟩ := bind_some h
   have ch20 := f60_ok F x15 x16 _ h20
   try dsimp only at h
   by_cases h21 : (decide (x17 < 0)) = true
   ·rw [if_pos h21] at h
    obtain rfl := sI h
    exact Lp.out (gRun_ok cxOK (f120_p5_e0 x1 x2 x3 x5 x6 x7 x8 x13 x14 x15 x16 x17) ⟨h15, h15, h15, h15, h16, h15, ⟨x15, h17, rfl⟩, h15, h15, h15, h18, h15, ⟨x16, h19, rfl⟩, h15, ch20, h15, h15, h15, (by rw [h21]; rfl), trivial⟩) (by intro hh; cases hh)
   ·rw [if_neg h21] at h
    have h21 := eF h21
    exact Lp.again (gRun_ok cxOK (f120_p5_e1 x1 x2 x3 x5 x6 x7 x8 x13 x14 x15 x16 x17) ⟨h15, h15, h15, h15, h16, h15, ⟨x15, h17, rfl⟩, h15, h15, h15, h18, h15, ⟨x16, h19, rfl⟩, h15, ch20, h15, h15, h15, (by rw [h21]; rfl), trivial⟩) (f120_p5_ok F x1 x2 x3 x13 x6 x7 x5 x8 k (w64 (x14 - 1)) r h)
  ·rw [if_neg h15] at h
   have h15 := eF h15
   obtain rfl := sI h
   exact Lp.out (gRun_ok cxOK (f120_p5_e2 x1 x2 x3 x5 x6 x7 x8 x13 x14) ⟨h15, h15, h15, h15, h15, h15, h15, h15, h15, h15, h15, h15, h15, rfl, trivial⟩) (by intro hh; cases hh)
theorem f120_p13_1_ok (F : Nat) (x1 x2 : Nat) (x3 x39 : Int) (x37 : LL) : ∀ (k : Nat) (x40 : Int) (r : Int), f120_p13_1 F x1 x2 x3 x39 x37 k x40 = some r → f120_p13_1_P x1 x2 x3 x39 x37 x40 r
 | 0, _, _, h => by cases h
 | k + 1, x40, r, h => by
  unfold f120_p13_1 at h
  by_cases h58 : (decide (x40 ≤ x39)) = true
  ·rw [if_pos h58] at h
   obtain ⟨h59, h⟩ := req_some h
   obtain ⟨x41, h60, h⟩ := bind_some h
   try dsimp only at h
   obtain ⟨h61, h⟩ := req_some h
   obtain ⟨x42, h62, h⟩ := bind_some h
   try dsimp only at h
   obtain ⟨x43, h63, h⟩ := bind_some h
   have ch63 := f60_ok F x41 x42 _ h63
   try dsimp only at h
   by_cases h64 : (decide (x43 < 0)) = true
   ·rw [if_pos h64] at h
    exact Lp.again (gRun_ok cxOK (f120_p13_1_e0 x1 x2 x3 x37 x39 x40 x41 x42 x43) ⟨h58, h58, h58, h58, h59, h58, ⟨x41, h60, rfl⟩, h58, h58, h58, h61, h58, ⟨x42, h62, rfl⟩, h58, ch63, h58, h58, h64, trivial⟩) (f120_p13_1_ok F x1 x2 x3 x39 x37 k (w64 (x40 + 1)) r h)
   ·rw [if_neg h64] at h
    have h64 := eF h64
    obtain rfl := sI h
    exact Lp.out (gRun_ok cxOK (f120_p13_1_e1 x1 x2 x3 x37 x39 x40 x41 x42 x43) ⟨h58, h58, h58, h58, h59, h58, ⟨x41, h60, rfl⟩, h58, h58, h58, h61, h58, ⟨x42, h62, rfl⟩, h58, ch63, h58, h58, h64, trivial⟩) (by intro hh; cases hh)
  ·rw [if_neg h58] at h
   have h58 := eF h58
   obtain rfl := sI h
   exact Lp.out (gRun_ok cxOK (f120_p13_1_e2 x1 x2 x3 x37 x39 x40) ⟨h58, h58, h58, h58, h58, h58, h58, h58, h58, h58, h58, h58, rfl, trivial⟩) (by intro hh; cases hh)
theorem f120_p17_1_ok (F : Nat) (x1 x2 : Nat) (x3 x44 : Int) (x37 : LL) : ∀ (k : Nat) (x45 : Int) (r : Int), f120_p17_1 F x1 x2 x3 x44 x37 k x45 = some r → f120_p17_1_P x1 x2 x3 x44 x37 x45 r
 | 0, _, _, h => by cases h
 | k + 1, x45, r, h => by
  unfold f120_p17_1 at h
  by_cases h66 : (decide (x44 ≤ x45)) = true
  ·rw [if_pos h66] at h
   obtain ⟨h67, h⟩ := req_some h
   obtain ⟨x46, h68, h⟩ := bind_some h
   try dsimp only at h
   obtain ⟨h69, h⟩ := req_some h
   obtain ⟨x47, h70, h⟩ := bind_some h
   try dsimp only at h
   obtain ⟨x48, h71, h⟩ := bind_some h
   have ch71 := f60_ok F x46 x47 _ h71
   try dsimp only at h
   by_cases h72 : (decide (x48 < 0)) = true
   ·rw [if_pos h72] at h
    obtain rfl := sI h
    exact Lp.out (gRun_ok cxOK (f120_p17_1_e0 x1 x2 x3 x37 x44 x45 x46 x47 x48) ⟨h66, h66, h66, h66, h67, h66, ⟨x46, h68, rfl⟩, h66, h66, h66, h69, h66, ⟨x47, h70, rfl⟩, h66, ch71, h66, h66, h66, (by rw [h72]; rfl), trivial⟩) (by intro hh; cases hh)
   ·rw [if_neg h72] at h
    have h72 := eF h72
    exact Lp.again (gRun_ok cxOK (f120_p17_1_e1 x1 x2 x3 x37 x44 x45 x46 x47 x48) ⟨h66, h66, h66, h66, h67, h66, ⟨x46, h68, rfl⟩, h66, h66, h66, h69, h66, ⟨x47, h70, rfl⟩, h66, ch71, h66, h66, h66, (by rw [h72]; rfl), trivial⟩) (f120_p17_1_ok F x1 x2 x3 x44 x37 k (w64 (x45 - 1)) r h)
  ·rw [if_neg h66] at h
   have h66 := eF h66
   obtain rfl := sI h
   exact Lp.out (gRun_ok cxOK (f120_p17_1_e2 x1 x2 x3 x37 x44 x45) ⟨h66, h66, h66, h66, h66, h66, h66, h66, h66, h66, h66, h66, h66, rfl, trivial⟩) (by intro hh; cases hh)
theorem f120_p10_ok (F : Nat) (x1 x2 : Nat) (x3 : Int) : ∀ (k : Nat) (x38 x39 : Int) (x37 : LL) (r : Int × (List (List Int))), f120_p10 F x1 x2 x3 k x38 x39 x37 = some r → f120_p10_P x1 x2 x3 x38 x39 x37 r
 | 0, _, _, _, _, h => by cases h
 | k + 1, x38, x39, x37, r, h => by
  unfold f120_p10 at h
  obtain ⟨x44, h65, h⟩ := bind_some h
  have ch65 := f120_p13_1_ok F x1 x2 x3 x39 x37 F x38 _ h65
  try dsimp only at h
  obtain ⟨x49, h73, h⟩ := bind_some h
  have ch73 := f120_p17_1_ok F x1 x2 x3 x44 x37 F x39 _ h73
  try dsimp only at h
  by_cases h74 : (decide (x44 > x49)) = true
  ·rw [if_pos h74] at h
   obtain rfl := sI h
   exact Lp.out (gRun_ok cxOK (f120_p10_e0 x1 x2 x3 x37 x38 x39 x44 x49) ⟨ch65, ch73, h74, trivial⟩) (by intro hh; cases hh)
  ·rw [if_neg h74] at h
   have h74 := eF h74
   obtain ⟨h75, h⟩ := req_some h
   obtain ⟨x50, h76, h⟩ := bind_some h
   try dsimp only at h
   obtain ⟨h77, h⟩ := req_some h
   obtain ⟨x51, h78, h⟩ := bind_some h
   try dsimp only at h
   obtain ⟨h79, h⟩ := req_some h
   obtain ⟨h80, h⟩ := req_some h
   exact Lp.again (gRun_ok cxOK (f120_p10_e1 x1 x2 x3 x37 x38 x39 x44 x49 x50 x51) ⟨ch65, ch73, h74, h75, ⟨x50, h76, rfl⟩, h77, ⟨x51, h78, rfl⟩, h77, h79, h75, h80, trivial⟩) (f120_p10_ok F x1 x2 x3 k (w64 (x44 + 1)) (w64 (x49 - 1)) (List.set (List.set x37 (x1 + (Int.toNat x44)) x50) (x1 + (Int.toNat x49)) x51) r h)
theorem f120_ok (F : Nat) (x1 x2 : Nat) (x3 x4 x5 : Int) (x6 : LL) (r : Int × Bool × (List (List Int))) (h : f120 F x1 x2 x3 x4 x5 x6 = some r) : f120_C x1 x2 x3 x4 x5 x6 r := by
 unfold f120 at h
 obtain ⟨h1, h⟩ := req_some h
 obtain ⟨x7, h2, h⟩ := bind_some h
 try dsimp only at h
 obtain ⟨h3, h⟩ := req_some h
 obtain ⟨x8, h4, h⟩ := bind_some h
 try dsimp only at h
 obtain ⟨h5, h⟩ := req_some h
 obtain ⟨h6, h⟩ := req_some h
 obtain ⟨x13, h14, h⟩ := bind_some h
 have ch14 := f120_p1_ok F x1 x2 x3 x4 x6 x7 x5 x8 F (w64 (x3 + 1)) _ h14
 try dsimp only at h
 obtain ⟨x18, h22, h⟩ := bind_some h
 have ch22 := f120_p5_ok F x1 x2 x3 x13 x6 x7 x5 x8 F (w64 (x4 - 1)) _ h22
 try dsimp only at h
 by_cases h23 : (decide (x13 > x18)) = true
 ·rw [if_pos h23] at h
  obtain ⟨x19, h24, h⟩ := bind_some h
  try dsimp only at h
  obtain ⟨h25, h⟩ := req_some h
  obtain ⟨x20, h26, h⟩ := bind_some h
  try dsimp only at h
  obtain ⟨h27, h⟩ := req_some h
  obtain ⟨h28, h⟩ := req_some h
  obtain rfl := sI h
  exact callOK cxOK cxW Tryz.func120 (by kernel_rfl) (f120_e0 x1 x2 x3 x4 x5 x6 x7 x8 x13 x18 x19 x20) ⟨h1, ⟨x7, h2, rfl⟩, h3, ⟨x8, h4, rfl⟩, h3, h5, h1, h6, ch14, ch22, h23, h3, ⟨x19, h24, rfl⟩, h25, ⟨x20, h26, rfl⟩, h25, h27, h3, h28, trivial⟩
 ·rw [if_neg h23] at h
  have h23 := eF h23
  obtain ⟨h29, h⟩ := req_some h
  obtain ⟨x21, h30, h⟩ := bind_some h
  try dsimp only at h
  obtain ⟨h31, h⟩ := req_some h
  obtain ⟨x22, h32, h⟩ := bind_some h
  try dsimp only at h
  obtain ⟨h33, h⟩ := req_some h
  obtain ⟨h34, h⟩ := req_some h
  obtain ⟨rh81, h81, h⟩ := bind_some h
  have ch81 := f120_p10_ok F x1 x2 x3 F (w64 (x13 + 1)) (w64 (x18 - 1)) (List.set (List.set (List.set (List.set x6 (x1 + (Int.toNat x3)) x7) (x1 + (Int.toNat x5)) x8) (x1 + (Int.toNat x13)) x21) (x1 + (Int.toNat x18)) x22) _ h81
  obtain ⟨x52, x53⟩ := rh81
  try dsimp only at h
  obtain ⟨x54, h82, h⟩ := bind_some h
  try dsimp only at h
  obtain ⟨h83, h⟩ := req_some h
  obtain ⟨x55, h84, h⟩ := bind_some h
  try dsimp only at h
  obtain ⟨h85, h⟩ := req_some h
  obtain ⟨h86, h⟩ := req_some h
  obtain rfl := sI h
  exact callOK cxOK cxW Tryz.func120 (by kernel_rfl) (f120_e1 x1 x2 x3 x4 x5 x6 x7 x8 x13 x18 x21 x22 x52 x53 x54 x55) ⟨h1, ⟨x7, h2, rfl⟩, h3, ⟨x8, h4, rfl⟩, h3, h5, h1, h6, ch14, ch22, h23, h29, ⟨x21, h30, rfl⟩, h31, ⟨x22, h32, rfl⟩, h31, h33, h29, h34, ch81, h3, ⟨x54, h82, rfl⟩, h83, ⟨x55, h84, rfl⟩, h83, h85, h3, h86, trivial⟩

theorem f93_p5_1_ok (F : Nat) (x1 x2 : Nat) (x27 x28 x29 : Int) (x30 x31 : Bool) (x26 : LL) (r : Int × (List (List Int))) (h : f93_p5_1 F x1 x2 x27 x28 x29 x30 x31 x26 = some r) : f93_p5_1_P x1 x2 x27 x28 x29 x30 x31 x26 r := by
 unfold f93_p5_1 at h
 by_cases h29 : x30 = true
 ·rw [if_pos h29] at h
  obtain rfl := sI h
  exact gRun_ok cxOK (f93_p5_1_e0 x1 x2 x26 x27 x28 x29 x30 x31) ⟨(by rw [h29]; rfl), trivial⟩
 ·rw [if_neg h29] at h
  have h29 := eF h29
  obtain ⟨x33, h30, h⟩ := bind_some h
  have ch30 := f115_ok F x1 x2 x27 x28 x26 _ h30
  try dsimp only at h
  obtain rfl := sI h
  exact gRun_ok cxOK (f93_p5_1_e1 x1 x2 x26 x27 x28 x29 x30 x31 x33) ⟨(by rw [h29]; rfl), ch30, trivial⟩
theorem f93_p6_1_ok (F : Nat) (x1 x2 : Nat) (x27 x28 x34 : Int) (x30 x31 : Bool) (x36 x37 : Int) (x35 : LL) (r : Unit) (h : f93_p6_1 F x1 x2 x27 x28 x34 x30 x31 x36 x37 x35 = some r) : f93_p6_1_P x1 x2 x27 x28 x34 x30 x31 x36 x37 x35 r := by
 unfold f93_p6_1 at h
 by_cases h33 : (x37 == 2) = true
 ·rw [if_pos h33] at h
  cases h
 ·rw [if_neg h33] at h
  have h33 := eF h33
  obtain rfl := sI h
  exact gRun_ok cxOK (f93_p6_1_e0 x1 x2 x27 x28 x30 x31 x34 x35 x36 x37) ⟨h33, trivial⟩
theorem f93_r15_1_ok (F : Nat) (x1 x2 : Nat) (x27 x28 x34 : Int) (x30 x31 : Bool) (x36 x37 : Int) (x35 : LL) (r : Bool) (h : f93_r15_1 F x1 x2 x27 x28 x34 x30 x31 x36 x37 x35 = some r) : f93_r15_1_P x1 x2 x27 x28 x34 x30 x31 x36 x37 x35 r := by
 unfold f93_r15_1 at h
 by_cases h35 : x30 = true
 ·rw [if_pos h35] at h
  by_cases h36 : x31 = true
  ·rw [if_pos h36] at h
   obtain rfl := sI h
   exact gRun_ok cxOK (f93_r15_1_e0 x1 x2 x27 x28 x30 x31 x34 x35 x36 x37) ⟨h35, h35, h36, h36, h36, trivial⟩
  ·rw [if_neg h36] at h
   have h36 := eF h36
   obtain rfl := sI h
   exact gRun_ok cxOK (f93_r15_1_e1 x1 x2 x27 x28 x30 x31 x34 x35 x36 x37) ⟨h35, h35, h36, h36, h36, trivial⟩
 ·rw [if_neg h35] at h
  have h35 := eF h35
  obtain rfl := sI h
  exact gRun_ok cxOK (f93_r15_1_e2 x1 x2 x27 x28 x30 x31 x34 x35 x36 x37) ⟨h35, h35, rfl, rfl, rfl, trivial⟩
theorem f93_p7_1_ok (F : Nat) (x1 x2 : Nat) (x27 x28 x34 : Int) (x30 x31 : Bool) (x36 : Int) (x38 : Bool) (x35 : LL) (r : f93_p7_1_R) (h : f93_p7_1 F x1 x2 x27 x28 x34 x30 x31 x36 x38 x35 = some r) : f93_p7_1_P x1 x2 x27 x28 x34 x30 x31 x36 x38 x35 r := by
 unfold f93_p7_1 at h
 by_cases h38 : x38 = true
 ·rw [if_pos h38] at h
  obtain ⟨x39, h39, h⟩ := bind_some h
  have ch39 := f118_ok F x1 x2 x27 x28 x35 _ h39
  try dsimp only at h
  by_cases h40 : x39 = true
  ·rw [if_pos h40] at h
   obtain rfl := sI h
   exact gRun_ok cxOK (f93_p7_1_e0 x1 x2 x27 x28 x30 x31 x34 x35 x36 x38 x39) ⟨h38, ch39, h40, trivial⟩
  ·rw [if_neg h40] at h
   have h40 := eF h40
   obtain rfl := sI h
   exact gRun_ok cxOK (f93_p7_1_e1 x1 x2 x27 x28 x30 x31 x34 x35 x36 x38 x39) ⟨h38, ch39, h40, trivial⟩
 ·rw [if_neg h38] at h
  have h38 := eF h38
  obtain rfl := sI h
  exact gRun_ok cxOK (f93_p7_1_e2 x1 x2 x27 x28 x30 x31 x34 x35 x36 x38) ⟨h38, trivial⟩
theorem f93_r17_1_ok (F : Nat) (x1 x2 : Nat) (x27 x28 x34 : Int) (x30 x31 : Bool) (x36 : Int) (x35 : LL) (r : Bool) (h : f93_r17_1 F x1 x2 x27 x28 x34 x30 x31 x36 x35 = some r) : f93_r17_1_P x1 x2 x27 x28 x34 x30 x31 x36 x35 r := by
 unfold f93_r17_1 at h
 by_cases h42 : (decide (x27 > 0)) = true
 ·rw [if_pos h42] at h
  obtain ⟨h43, h⟩ := req_some h
  obtain ⟨x40, h44, h⟩ := bind_some h
  try dsimp only at h
  obtain ⟨h45, h⟩ := req_some h
  obtain ⟨x41, h46, h⟩ := bind_some h
  try dsimp only at h
  obtain ⟨x42, h47, h⟩ := bind_some h
  have ch47 := f60_ok F x40 x41 _ h47
  try dsimp only at h
  obtain rfl := sI h
  exact gRun_ok cxOK (f93_r17_1_e0 x1 x2 x27 x28 x30 x31 x34 x35 x36 x40 x41 x42) ⟨h42, h42, h42, h42, h42, h43, h42, ⟨x40, h44, rfl⟩, h42, h42, h42, h45, h42, ⟨x41, h46, rfl⟩, h42, ch47, h42, h42, h42, trivial⟩
 ·rw [if_neg h42] at h
  have h42 := eF h42
  obtain rfl := sI h
  exact gRun_ok cxOK (f93_r17_1_e1 x1 x2 x27 x28 x30 x31 x34 x35 x36) ⟨h42, h42, h42, h42, h42, h42, h42, h42, h42, h42, h42, h42, h42, h42, trivial⟩
theorem f93_p10_ok (F : Nat) (rec : Nat → Nat → Int → Int → Int → (List (List Int)) → Option (List (List Int))) (hrec : ∀ (x1 x2 : Nat) (x3 x4 x5 : Int) (x6 : LL) (r : (List (List Int))), rec x1 x2 x3 x4 x5 x6 = some r → f93_C x1 x2 x3 x4 x5 x6 r) (x1 x2 : Nat) (x27 x28 x34 : Int) (x47 : Bool) (x46 : Int) (x48 : LL) (r : Int × Int × Bool × (List (List Int))) (h : f93_p10 F rec x1 x2 x27 x28 x34 x47 x46 x48 = some r) : f93_p10_P x1 x2 x27 x28 x34 x47 x46 x48 r := by
 unfold f93_p10 at h
 by_cases h52 : (decide ((w64 (x46 - x27)) < (w64 (x28 - x46)))) = true
 ·rw [if_pos h52] at h
  obtain ⟨x49, h53, h⟩ := bind_some h
  have ch53 := hrec x1 x2 x27 x46 x34 x48 _ h53
  try dsimp only at h
  obtain rfl := sI h
  exact gRun_ok cxOK (f93_p10_e0 x1 x2 x27 x28 x34 x46 x47 x48 x49) ⟨h52, ch53, trivial⟩
 ·rw [if_neg h52] at h
  have h52 := eF h52
  obtain ⟨x50, h54, h⟩ := bind_some h
  have ch54 := hrec x1 x2 (w64 (x46 + 1)) x28 x34 x48 _ h54
  try dsimp only at h
  obtain rfl := sI h
  exact gRun_ok cxOK (f93_p10_e1 x1 x2 x27 x28 x34 x46 x47 x48 x50) ⟨h52, ch54, trivial⟩
theorem f93_p1_1_ok (F : Nat) (rec : Nat → Nat → Int → Int → Int → (List (List Int)) → Option (List (List Int))) (hrec : ∀ (x1 x2 : Nat) (x3 x4 x5 : Int) (x6 : LL) (r : (List (List Int))), rec x1 x2 x3 x4 x5 x6 = some r → f93_C x1 x2 x3 x4 x5 x6 r) (x1 x2 : Nat) : ∀ (k : Nat) (x27 x28 x29 : Int) (x30 x31 : Bool) (x26 : LL) (r : (List (List Int))), f93_p1_1 F rec x1 x2 k x27 x28 x29 x30 x31 x26 = some r → f93_p1_1_P x1 x2 x27 x28 x29 x30 x31 x26 r
 | 0, _, _, _, _, _, _, _, h => by cases h
 | k + 1, x27, x28, x29, x30, x31, x26, r, h => by
  unfold f93_p1_1 at h
  by_cases h26 : (decide ((w64 (x28 - x27)) ≤ 12)) = true
  ·rw [if_pos h26] at h
   obtain ⟨x32, h27, h⟩ := bind_some h
   have ch27 := f113_ok F x1 x2 x27 x28 x26 _ h27
   try dsimp only at h
   obtain rfl := sI h
   exact Lp.out (gRun_ok cxOK (f93_p1_1_e0 x1 x2 x26 x27 x28 x29 x30 x31 x32) ⟨h26, ch27, trivial⟩) (by intro hh; cases hh)
  ·rw [if_neg h26] at h
   have h26 := eF h26
   by_cases h28 : (x29 == 0) = true
   ·rw [if_pos h28] at h
    cases h
   ·rw [if_neg h28] at h
    have h28 := eF h28
    obtain ⟨rh31, h31, h⟩ := bind_some h
    have ch31 := f93_p5_1_ok F x1 x2 x27 x28 x29 x30 x31 x26 _ h31
    obtain ⟨x34, x35⟩ := rh31
    try dsimp only at h
    obtain ⟨rh32, h32, h⟩ := bind_some h
    have ch32 := f116_ok F x1 x2 x27 x28 x35 _ h32
    obtain ⟨x36, x37⟩ := rh32
    try dsimp only at h
    obtain ⟨rh34, h34, h⟩ := bind_some h
    have ch34 := f93_p6_1_ok F x1 x2 x27 x28 x34 x30 x31 x36 x37 x35 _ h34
    try dsimp only at h
    obtain ⟨x38, h37, h⟩ := bind_some h
    have ch37 := f93_r15_1_ok F x1 x2 x27 x28 x34 x30 x31 x36 x37 x35 _ h37
    try dsimp only at h
    obtain ⟨rh41, h41, h⟩ := bind_some h
    have ch41 := f93_p7_1_ok F x1 x2 x27 x28 x34 x30 x31 x36 x38 x35 _ h41
    cases rh41 with
    | c0 =>
     try dsimp only at h
     obtain rfl := sI h
     exact Lp.out (gRun_ok cxOK (f93_p1_1_e1 x1 x2 x26 x27 x28 x29 x30 x31 x34 x35 x36 x37 x38) ⟨h26, h28, ch31, ch32, ch34, ch37, ch41, trivial⟩) (by intro hh; cases hh)
    | c1 =>
     try dsimp only at h
     obtain ⟨x43, h48, h⟩ := bind_some h
     have ch48 := f93_r17_1_ok F x1 x2 x27 x28 x34 x30 x31 x36 x35 _ h48
     try dsimp only at h
     by_cases h49 : x43 = true
     ·rw [if_pos h49] at h
      obtain ⟨rh50, h50, h⟩ := bind_some h
      have ch50 := f119_ok F x1 x2 x27 x28 x36 x35 _ h50
      obtain ⟨x44, x45⟩ := rh50
      try dsimp only at h
      exact Lp.again (gRun_ok cxOK (f93_p1_1_e2 x1 x2 x26 x27 x28 x29 x30 x31 x34 x35 x36 x37 x38 x43 x44 x45) ⟨h26, h28, ch31, ch32, ch34, ch37, ch41, ch48, h49, ch50, trivial⟩) (f93_p1_1_ok F rec hrec x1 x2 k x44 x28 x34 x30 x31 x45 r h)
     ·rw [if_neg h49] at h
      have h49 := eF h49
      obtain ⟨rh51, h51, h⟩ := bind_some h
      have ch51 := f120_ok F x1 x2 x27 x28 x36 x35 _ h51
      obtain ⟨x46, x47, x48⟩ := rh51
      try dsimp only at h
      obtain ⟨rh55, h55, h⟩ := bind_some h
      have ch55 := f93_p10_ok F rec hrec x1 x2 x27 x28 x34 x47 x46 x48 _ h55
      obtain ⟨x51, x52, x53, x54⟩ := rh55
      try dsimp only at h
      exact Lp.again (gRun_ok cxOK (f93_p1_1_e3 x1 x2 x26 x27 x28 x29 x30 x31 x34 x35 x36 x37 x38 x43 x46 x47 x48 x51 x52 x53 x54) ⟨h26, h28, ch31, ch32, ch34, ch37, ch41, ch48, h49, ch51, (by decide), ch55, trivial⟩) (f93_p1_1_ok F rec hrec x1 x2 k x51 x52 x34 x53 x47 x54 r h)
theorem f93_b_ok (F : Nat) (rec : Nat → Nat → Int → Int → Int → (List (List Int)) → Option (List (List Int))) (hrec : ∀ (x1 x2 : Nat) (x3 x4 x5 : Int) (x6 : LL) (r : (List (List Int))), rec x1 x2 x3 x4 x5 x6 = some r → f93_C x1 x2 x3 x4 x5 x6 r) (x1 x2 : Nat) (x3 x4 x5 : Int) (x6 : LL) (r : (List (List Int))) (h : f93_b F rec x1 x2 x3 x4 x5 x6 = some r) : f93_C x1 x2 x3 x4 x5 x6 r := by
 unfold f93_b at h
 obtain ⟨x55, h56, h⟩ := bind_some h
 have ch56 := f93_p1_1_ok F rec hrec x1 x2 F x3 x4 x5 true true x6 _ h56
 try dsimp only at h
 obtain rfl := sI h
 exact callOK cxOK cxW Tryz.func93 (by kernel_rfl) (f93_e0 x1 x2 x3 x4 x5 x6 x55) ⟨ch56, trivial⟩
theorem f93_ok (F : Nat) : ∀ (k : Nat) (x1 x2 : Nat) (x3 x4 x5 : Int) (x6 : LL) (r : (List (List Int))), f93 F k x1 x2 x3 x4 x5 x6 = some r → f93_C x1 x2 x3 x4 x5 x6 r
 | 0, _, _, _, _, _, _, _, h => by cases h
 | k + 1, x1, x2, x3, x4, x5, x6, r, h => f93_b_ok F (f93 F k) (f93_ok F k) x1 x2 x3 x4 x5 x6 r h

theorem f59_ok (F : Nat) (x1 : LL) (r : (List (List Int))) (h : f59 F x1 = some r) : f59_C x1 r := by
 unfold f59 at h
 obtain ⟨x2, h1, h⟩ := bind_some h
 have ch1 := f39_ok F (IntKind.wrap .u64 ((((List.length x1) : Nat) : Int))) _ h1
 try dsimp only at h
 obtain ⟨x3, h2, h⟩ := bind_some h
 have ch2 := f93_ok F F 0 (List.length x1) 0 (((List.length x1) : Nat) : Int) x2 x1 _ h2
 try dsimp only at h
 obtain rfl := sI h
 exact callOK cxOK cxW Tryz.func59 (by kernel_rfl) (f59_e0 x1 x2 x3) ⟨ch1, ch2, trivial⟩

theorem f31_ok (F : Nat) (x1 : LI) (r : (List (List Int))) (h : f31 F x1 = some r) : f31_C x1 r := by
 unfold f31 at h
 obtain ⟨x2, h1, h⟩ := bind_some h
 have ch1 := f57_ok F x1 _ h1
 try dsimp only at h
 obtain ⟨x3, h2, h⟩ := bind_some h
 have ch2 := f59_ok F x2 _ h2
 try dsimp only at h
 obtain ⟨h3, h⟩ := req_some h
 obtain rfl := sI h
 exact callOK cxOK cxW Tryz.func31 (by kernel_rfl) (f31_e0 x1 x2 x3) ⟨ch1, ch2, h3, trivial⟩

theorem f7_ok (F : Nat) (x1 : Int) (x2 : LL) (r : (List (List Int)) × Int) (h : f7 F x1 x2 = some r) : f7_C x1 x2 r := by
 unfold f7 at h
 obtain ⟨rh1, h1, h⟩ := bind_some h
 have ch1 := f30_ok F x1 x2 _ h1
 obtain ⟨x3, x4⟩ := rh1
 try dsimp only at h
 by_cases h2 : (x4 != 0) = true
 ·rw [if_pos h2] at h
  obtain rfl := sI h
  exact callOK cxOK cxW Tryz.func7 (by kernel_rfl) (f7_e0 x1 x2 x3 x4) ⟨ch1, h2, trivial⟩
 ·rw [if_neg h2] at h
  have h2 := eF h2
  obtain ⟨x5, h3, h⟩ := bind_some h
  have ch3 := f32_ok F x1 x3 false _ h3
  try dsimp only at h
  obtain ⟨x6, h4, h⟩ := bind_some h
  have ch4 := f31_ok F x5 _ h4
  try dsimp only at h
  obtain rfl := sI h
  exact callOK cxOK cxW Tryz.func7 (by kernel_rfl) (f7_e1 x1 x2 x3 x4 x5 x6) ⟨ch1, h2, ch3, ch4, trivial⟩

theorem f8_ok (F : Nat) (x1 : Int) (x2 : LL) (r : (List (List Int)) × Int) (h : f8 F x1 x2 = some r) : f8_C x1 x2 r := by
 unfold f8 at h
 obtain ⟨rh1, h1, h⟩ := bind_some h
 have ch1 := f30_ok F x1 x2 _ h1
 obtain ⟨x3, x4⟩ := rh1
 try dsimp only at h
 by_cases h2 : (x4 != 0) = true
 ·rw [if_pos h2] at h
  obtain rfl := sI h
  exact callOK cxOK cxW Tryz.func8 (by kernel_rfl) (f8_e0 x1 x2 x3 x4) ⟨ch1, h2, trivial⟩
 ·rw [if_neg h2] at h
  have h2 := eF h2
  obtain ⟨x5, h3, h⟩ := bind_some h
  have ch3 := f32_ok F x1 x3 true _ h3
  try dsimp only at h
  obtain ⟨x6, h4, h⟩ := bind_some h
  have ch4 := f31_ok F x5 _ h4
  try dsimp only at h
  obtain rfl := sI h
  exact callOK cxOK cxW Tryz.func8 (by kernel_rfl) (f8_e1 x1 x2 x3 x4 x5 x6) ⟨ch1, h2, ch3, ch4, trivial⟩

theorem f33_p9_1_ok (F : Nat) (x1 x17 : Int) (x2 : LI) (x16 : Int) : ∀ (k : Nat) (x22 : Int) (x21 : LI) (r : (List Int)), f33_p9_1 F x1 x17 x2 x16 k x22 x21 = some r → f33_p9_1_P x1 x17 x2 x16 x22 x21 r
 | 0, _, _, _, h => by cases h
 | k + 1, x22, x21, r, h => by
  unfold f33_p9_1 at h
  by_cases h37 : (decide (x22 < x1)) = true
  ·rw [if_pos h37] at h
   obtain ⟨h38, h⟩ := req_some h
   obtain ⟨h39, h⟩ := req_some h
   obtain ⟨x23, h40, h⟩ := bind_some h
   try dsimp only at h
   obtain ⟨h41, h⟩ := req_some h
   exact Lp.again (gRun_ok cxOK (f33_p9_1_e0 x1 x2 x16 x17 x21 x22 x23) ⟨h37, h38, h39, ⟨x23, h40, rfl⟩, h39, h41, trivial⟩) (f33_p9_1_ok F x1 x17 x2 x16 k (w64 (x22 + 1)) (List.set x21 (0 + (Int.toNat (iXor .i64 x17 (iShl .i64 1 x22)))) (w64 (x23 + 1))) r h)
  ·rw [if_neg h37] at h
   have h37 := eF h37
   obtain rfl := sI h
   exact Lp.out (gRun_ok cxOK (f33_p9_1_e1 x1 x2 x16 x17 x21 x22) ⟨h37, trivial⟩) (by intro hh; cases hh)
theorem f33_p2_ok (F : Nat) (x1 : Int) (x2 : LI) : ∀ (k : Nat) (x15 x16 : Int) (x14 : LI) (r : f33_p2_R), f33_p2 F x1 x2 k x15 x16 x14 = some r → f33_p2_P x1 x2 x15 x16 x14 r
 | 0, _, _, _, _, h => by cases h
 | k + 1, x15, x16, x14, r, h => by
  unfold f33_p2 at h
  by_cases h24 : (decide (x16 < ((List.length x2 : Nat) : Int))) = true
  ·rw [if_pos h24] at h
   obtain ⟨x17, h25, h⟩ := bind_some h
   try dsimp only at h
   by_cases h26 : (decide (x17 < 0)) = true
   ·rw [if_pos h26] at h
    obtain rfl := sI h
    exact Lp.out (gRun_ok cxOK (f33_p2_e0 x1 x2 x14 x15 x16 x17) ⟨h24, ⟨(at?_spec h25).1, x17, (at?_spec h25).2, rfl⟩, h26, h26, h26, h26, h26, rfl, trivial⟩) (by intro hh; cases hh)
   ·rw [if_neg h26] at h
    have h26 := eF h26
    by_cases h27 : (decide (x17 ≥ (((Int.toNat (iShl .i64 1 x1)) : Nat) : Int))) = true
    ·rw [if_pos h27] at h
     obtain rfl := sI h
     exact Lp.out (gRun_ok cxOK (f33_p2_e1 x1 x2 x14 x15 x16 x17) ⟨h24, ⟨(at?_spec h25).1, x17, (at?_spec h25).2, rfl⟩, h26, h26, h26, h26, h26, h27, trivial⟩) (by intro hh; cases hh)
    ·rw [if_neg h27] at h
     have h27 := eF h27
     by_cases h28 : (decide (x17 ≤ x15)) = true
     ·rw [if_pos h28] at h
      obtain rfl := sI h
      exact Lp.out (gRun_ok cxOK (f33_p2_e2 x1 x2 x14 x15 x16 x17) ⟨h24, ⟨(at?_spec h25).1, x17, (at?_spec h25).2, rfl⟩, h26, h26, h26, h26, h26, h27, h28, trivial⟩) (by intro hh; cases hh)
     ·rw [if_neg h28] at h
      have h28 := eF h28
      obtain ⟨h29, h⟩ := req_some h
      obtain ⟨x18, h30, h⟩ := bind_some h
      try dsimp only at h
      obtain ⟨h31, h⟩ := req_some h
      obtain ⟨x24, h42, h⟩ := bind_some h
      have ch42 := f33_p9_1_ok F x1 x17 x2 x16 F 0 (List.set x14 (0 + (Int.toNat x17)) (w64 (x18 + 1))) _ h42
      try dsimp only at h
      exact Lp.again (gRun_ok cxOK (f33_p2_e3 x1 x2 x14 x15 x16 x17 x18 x24) ⟨h24, ⟨(at?_spec h25).1, x17, (at?_spec h25).2, rfl⟩, h26, h26, h26, h26, h26, h27, h28, h29, ⟨x18, h30, rfl⟩, h29, h31, ch42, trivial⟩) (f33_p2_ok F x1 x2 k x17 (w64 (x16 + 1)) x24 r h)
  ·rw [if_neg h24] at h
   have h24 := eF h24
   obtain rfl := sI h
   exact Lp.out (gRun_ok cxOK (f33_p2_e4 x1 x2 x14 x15 x16) ⟨h24, trivial⟩) (by intro hh; cases hh)
theorem f33_ok (F : Nat) (x1 : Int) (x2 : LI) (r : (List Int) × Int) (h : f33 F x1 x2 = some r) : f33_C x1 x2 r := by
 unfold f33 at h
 obtain ⟨x3, h1, h⟩ := bind_some h
 have ch1 := f28_ok F x1 _ h1
 try dsimp only at h
 by_cases h2 : x3 = true
 ·rw [if_pos h2] at h
  obtain ⟨h3, h⟩ := req_some h
  obtain ⟨h4, h⟩ := req_some h
  obtain ⟨rh43, h43, h⟩ := bind_some h
  have ch43 := f33_p2_ok F x1 x2 F (-1) 0 (List.replicate (Int.toNat (iShl .i64 1 x1)) (0 : Int)) _ h43
  cases rh43 with
  | c0 x25 =>
   try dsimp only at h
   obtain rfl := sI h
   exact callOK cxOK cxW Tryz.func33 (by kernel_rfl) (f33_e0 x1 x2 x3 x25) ⟨ch1, (by rw [h2]; rfl), h3, h4, ch43, trivial⟩
  | c1 x26 =>
   try dsimp only at h
   obtain ⟨h44, h⟩ := req_some h
   obtain rfl := sI h
   exact callOK cxOK cxW Tryz.func33 (by kernel_rfl) (f33_e1 x1 x2 x3 x26) ⟨ch1, (by rw [h2]; rfl), h3, h4, ch43, h44, trivial⟩
 ·rw [if_neg h2] at h
  have h2 := eF h2
  obtain rfl := sI h
  exact callOK cxOK cxW Tryz.func33 (by kernel_rfl) (f33_e2 x1 x2 x3) ⟨ch1, (by rw [h2]; rfl), trivial⟩

theorem f9_ok (F : Nat) (x1 : Int) (x2 : LI) (r : (List Int) × Int) (h : f9 F x1 x2 = some r) : f9_C x1 x2 r := by
 unfold f9 at h
 obtain ⟨rh1, h1, h⟩ := bind_some h
 have ch1 := f33_ok F x1 x2 _ h1
 obtain ⟨x3, x4⟩ := rh1
 try dsimp only at h
 obtain rfl := sI h
 exact callOK cxOK cxW Tryz.func9 (by kernel_rfl) (f9_e0 x1 x2 x3 x4) ⟨ch1, trivial⟩

theorem f10_p5_1_ok (F : Nat) (x7 : LI) (x8 : Int) (x3 : LI) (x9 : Int) (r : (List Int)) (h : f10_p5_1 F x7 x8 x3 x9 = some r) : f10_p5_1_P x7 x8 x3 x9 r := by
 unfold f10_p5_1 at h
 by_cases h10 : (x9 == 0) = true
 ·rw [if_pos h10] at h
  obtain ⟨h11, h⟩ := req_some h
  obtain rfl := sI h
  exact gRun_ok cxOK (f10_p5_1_e0 x3 x7 x8 x9) ⟨h10, h11, rfl, trivial⟩
 ·rw [if_neg h10] at h
  have h10 := eF h10
  obtain rfl := sI h
  exact gRun_ok cxOK (f10_p5_1_e1 x3 x7 x8 x9) ⟨h10, trivial⟩
theorem f10_p2_ok (F : Nat) (x3 : LI) : ∀ (k : Nat) (x8 : Int) (x7 : LI) (r : (List Int)), f10_p2 F x3 k x8 x7 = some r → f10_p2_P x3 x8 x7 r
 | 0, _, _, _, h => by cases h
 | k + 1, x8, x7, r, h => by
  unfold f10_p2 at h
  by_cases h8 : (decide (x8 < ((List.length x3 : Nat) : Int))) = true
  ·rw [if_pos h8] at h
   obtain ⟨x9, h9, h⟩ := bind_some h
   try dsimp only at h
   obtain ⟨x10, h12, h⟩ := bind_some h
   have ch12 := f10_p5_1_ok F x7 x8 x3 x9 _ h12
   try dsimp only at h
   exact Lp.again (gRun_ok cxOK (f10_p2_e0 x3 x7 x8 x9 x10) ⟨h8, ⟨(at?_spec h9).1, x9, (at?_spec h9).2, rfl⟩, ch12, trivial⟩) (f10_p2_ok F x3 k (w64 (x8 + 1)) x10 r h)
  ·rw [if_neg h8] at h
   have h8 := eF h8
   obtain rfl := sI h
   exact Lp.out (gRun_ok cxOK (f10_p2_e1 x3 x7 x8) ⟨h8, trivial⟩) (by intro hh; cases hh)
theorem f10_ok (F : Nat) (x1 : Int) (x2 : LI) (r : (List Int) × Int) (h : f10 F x1 x2 = some r) : f10_C x1 x2 r := by
 unfold f10 at h
 obtain ⟨rh1, h1, h⟩ := bind_some h
 have ch1 := f33_ok F x1 x2 _ h1
 obtain ⟨x3, x4⟩ := rh1
 try dsimp only at h
 by_cases h2 : (x4 != 0) = true
 ·rw [if_pos h2] at h
  obtain rfl := sI h
  exact callOK cxOK cxW Tryz.func10 (by kernel_rfl) (f10_e0 x1 x2 x3 x4) ⟨ch1, h2, trivial⟩
 ·rw [if_neg h2] at h
  have h2 := eF h2
  obtain ⟨x11, h13, h⟩ := bind_some h
  have ch13 := f10_p2_ok F x3 F 0 ([] : List Int) _ h13
  try dsimp only at h
  obtain rfl := sI h
  exact callOK cxOK cxW Tryz.func10 (by kernel_rfl) (f10_e1 x1 x2 x3 x4 x11) ⟨ch1, h2, ch13, (Nat.le_of_eq (Nat.zero_add _)), trivial⟩

theorem f12_p2_ok (F : Nat) (x1 x2 : LI) : ∀ (k : Nat) (x3 : Int) (r : f12_p2_R), f12_p2 F x1 x2 k x3 = some r → f12_p2_P x1 x2 x3 r
 | 0, _, _, h => by cases h
 | k + 1, x3, r, h => by
  unfold f12_p2 at h
  by_cases h2 : (decide (x3 < ((List.length x1 : Nat) : Int))) = true
  ·rw [if_pos h2] at h
   obtain ⟨x4, h3, h⟩ := bind_some h
   try dsimp only at h
   obtain ⟨x5, h4, h⟩ := bind_some h
   try dsimp only at h
   by_cases h5 : (x4 != x5) = true
   ·rw [if_pos h5] at h
    obtain rfl := sI h
    exact Lp.out (gRun_ok cxOK (f12_p2_e0 x1 x2 x3 x4 x5) ⟨h2, ⟨(at?_spec h3).1, x4, (at?_spec h3).2, rfl⟩, ⟨(at?_spec h4).1, x5, (at?_spec h4).2, rfl⟩, h5, trivial⟩) (by intro hh; cases hh)
   ·rw [if_neg h5] at h
    have h5 := eF h5
    exact Lp.again (gRun_ok cxOK (f12_p2_e1 x1 x2 x3 x4 x5) ⟨h2, ⟨(at?_spec h3).1, x4, (at?_spec h3).2, rfl⟩, ⟨(at?_spec h4).1, x5, (at?_spec h4).2, rfl⟩, h5, trivial⟩) (f12_p2_ok F x1 x2 k (w64 (x3 + 1)) r h)
  ·rw [if_neg h2] at h
   have h2 := eF h2
   obtain rfl := sI h
   exact Lp.out (gRun_ok cxOK (f12_p2_e2 x1 x2 x3) ⟨h2, trivial⟩) (by intro hh; cases hh)
theorem f12_ok (F : Nat) (x1 x2 : LI) (r : Bool) (h : f12 F x1 x2 = some r) : f12_C x1 x2 r := by
 unfold f12 at h
 by_cases h1 : (((List.length x1 : Nat) : Int) != ((List.length x2 : Nat) : Int)) = true
 ·rw [if_pos h1] at h
  obtain rfl := sI h
  exact callOK cxOK cxW Tryz.func12 (by kernel_rfl) (f12_e0 x1 x2) ⟨h1, trivial⟩
 ·rw [if_neg h1] at h
  have h1 := eF h1
  obtain ⟨rh6, h6, h⟩ := bind_some h
  have ch6 := f12_p2_ok F x1 x2 F 0 _ h6
  cases rh6 with
  | c0 =>
   try dsimp only at h
   obtain rfl := sI h
   exact callOK cxOK cxW Tryz.func12 (by kernel_rfl) (f12_e1 x1 x2) ⟨h1, ch6, trivial⟩
  | c1 =>
   try dsimp only at h
   obtain rfl := sI h
   exact callOK cxOK cxW Tryz.func12 (by kernel_rfl) (f12_e2 x1 x2) ⟨h1, ch6, trivial⟩

theorem f11_ok (F : Nat) (x1 x2 : LI) (r : Bool) (h : f11 F x1 x2 = some r) : f11_C x1 x2 r := by
 unfold f11 at h
 obtain ⟨x3, h1, h⟩ := bind_some h
 have ch1 := f12_ok F x1 x2 _ h1
 try dsimp only at h
 obtain rfl := sI h
 exact callOK cxOK cxW Tryz.func11 (by kernel_rfl) (f11_e0 x1 x2 x3) ⟨ch1, trivial⟩

theorem f34_p1_ok (F : Nat) (x1 : LL) (x2 : LI) : ∀ (k : Nat) (x3 : Int) (r : f34_p1_R), f34_p1 F x1 x2 k x3 = some r → f34_p1_P x1 x2 x3 r
 | 0, _, _, h => by cases h
 | k + 1, x3, r, h => by
  unfold f34_p1 at h
  by_cases h1 : (decide (x3 < ((List.length x1 : Nat) : Int))) = true
  ·rw [if_pos h1] at h
   obtain ⟨x4, h2, h⟩ := bind_some h
   try dsimp only at h
   obtain ⟨x5, h3, h⟩ := bind_some h
   have ch3 := f11_ok F x4 x2 _ h3
   try dsimp only at h
   by_cases h4 : x5 = true
   ·rw [if_pos h4] at h
    obtain rfl := sI h
    exact Lp.out (gRun_ok cxOK (f34_p1_e0 x1 x2 x3 x4 x5) ⟨h1, ⟨(at?_spec h2).1, x4, (at?_spec h2).2, rfl⟩, ch3, h4, trivial⟩) (by intro hh; cases hh)
   ·rw [if_neg h4] at h
    have h4 := eF h4
    exact Lp.again (gRun_ok cxOK (f34_p1_e1 x1 x2 x3 x4 x5) ⟨h1, ⟨(at?_spec h2).1, x4, (at?_spec h2).2, rfl⟩, ch3, h4, trivial⟩) (f34_p1_ok F x1 x2 k (w64 (x3 + 1)) r h)
  ·rw [if_neg h1] at h
   have h1 := eF h1
   obtain rfl := sI h
   exact Lp.out (gRun_ok cxOK (f34_p1_e2 x1 x2 x3) ⟨h1, trivial⟩) (by intro hh; cases hh)
theorem f34_ok (F : Nat) (x1 : LL) (x2 : LI) (r : Int) (h : f34 F x1 x2 = some r) : f34_C x1 x2 r := by
 unfold f34 at h
 obtain ⟨rh5, h5, h⟩ := bind_some h
 have ch5 := f34_p1_ok F x1 x2 F 0 _ h5
 cases rh5 with
 | c0 x6 =>
  try dsimp only at h
  obtain rfl := sI h
  exact callOK cxOK cxW Tryz.func34 (by kernel_rfl) (f34_e0 x1 x2 x6) ⟨ch5, trivial⟩
 | c1 =>
  try dsimp only at h
  obtain rfl := sI h
  exact callOK cxOK cxW Tryz.func34 (by kernel_rfl) (f34_e1 x1 x2) ⟨ch5, trivial⟩

theorem f13_ok (F : Nat) (x1 : LL) (x2 : LI) (r : Bool) (h : f13 F x1 x2 = some r) : f13_C x1 x2 r := by
 unfold f13 at h
 obtain ⟨x3, h1, h⟩ := bind_some h
 have ch1 := f34_ok F x1 x2 _ h1
 try dsimp only at h
 obtain rfl := sI h
 exact callOK cxOK cxW Tryz.func13 (by kernel_rfl) (f13_e0 x1 x2 x3) ⟨ch1, trivial⟩

theorem f35_p1_ok (F : Nat) (x1 : LI) (x2 : Int) : ∀ (k : Nat) (x3 : Int) (r : f35_p1_R), f35_p1 F x1 x2 k x3 = some r → f35_p1_P x1 x2 x3 r
 | 0, _, _, h => by cases h
 | k + 1, x3, r, h => by
  unfold f35_p1 at h
  by_cases h1 : (decide (x3 < ((List.length x1 : Nat) : Int))) = true
  ·rw [if_pos h1] at h
   obtain ⟨x4, h2, h⟩ := bind_some h
   try dsimp only at h
   by_cases h3 : (x2 == x4) = true
   ·rw [if_pos h3] at h
    obtain rfl := sI h
    exact Lp.out (gRun_ok cxOK (f35_p1_e0 x1 x2 x3 x4) ⟨h1, ⟨(at?_spec h2).1, x4, (at?_spec h2).2, rfl⟩, h3, trivial⟩) (by intro hh; cases hh)
   ·rw [if_neg h3] at h
    have h3 := eF h3
    exact Lp.again (gRun_ok cxOK (f35_p1_e1 x1 x2 x3 x4) ⟨h1, ⟨(at?_spec h2).1, x4, (at?_spec h2).2, rfl⟩, h3, trivial⟩) (f35_p1_ok F x1 x2 k (w64 (x3 + 1)) r h)
  ·rw [if_neg h1] at h
   have h1 := eF h1
   obtain rfl := sI h
   exact Lp.out (gRun_ok cxOK (f35_p1_e2 x1 x2 x3) ⟨h1, trivial⟩) (by intro hh; cases hh)
theorem f35_ok (F : Nat) (x1 : LI) (x2 : Int) (r : Int) (h : f35 F x1 x2 = some r) : f35_C x1 x2 r := by
 unfold f35 at h
 obtain ⟨rh4, h4, h⟩ := bind_some h
 have ch4 := f35_p1_ok F x1 x2 F 0 _ h4
 cases rh4 with
 | c0 x5 =>
  try dsimp only at h
  obtain rfl := sI h
  exact callOK cxOK cxW Tryz.func35 (by kernel_rfl) (f35_e0 x1 x2 x5) ⟨ch4, trivial⟩
 | c1 =>
  try dsimp only at h
  obtain rfl := sI h
  exact callOK cxOK cxW Tryz.func35 (by kernel_rfl) (f35_e1 x1 x2) ⟨ch4, trivial⟩

theorem f14_ok (F : Nat) (x1 : LI) (x2 : Int) (r : Bool) (h : f14 F x1 x2 = some r) : f14_C x1 x2 r := by
 unfold f14 at h
 obtain ⟨x3, h1, h⟩ := bind_some h
 have ch1 := f35_ok F x1 x2 _ h1
 try dsimp only at h
 obtain rfl := sI h
 exact callOK cxOK cxW Tryz.func14 (by kernel_rfl) (f14_e0 x1 x2 x3) ⟨ch1, trivial⟩

theorem f36_ok (F : Nat) (x1 : LI) (r : (List Int)) (h : f36 F x1 = some r) : f36_C x1 r := by
 unfold f36 at h
 obtain rfl := sI h
 exact callOK cxOK cxW Tryz.func36 (by kernel_rfl) (f36_e0 x1) trivial

theorem f95_ok (F : Nat) (x1 : Int) (x2 : LI) (r : Int × Int) (h : f95 F x1 x2 = some r) : f95_C x1 x2 r := by
 unfold f95 at h
 obtain ⟨x3, h1, h⟩ := bind_some h
 have ch1 := f54_ok F x1 _ h1
 try dsimp only at h
 by_cases h2 : x3 = true
 ·rw [if_pos h2] at h
  obtain ⟨rh3, h3, h⟩ := bind_some h
  have ch3 := f55_ok F x1 x2 _ h3
  obtain ⟨x4, x5⟩ := rh3
  try dsimp only at h
  obtain rfl := sI h
  exact callOK cxOK cxW Tryz.func95 (by kernel_rfl) (f95_e0 x1 x2 x3 x4 x5) ⟨ch1, (by rw [h2]; rfl), ch3, trivial⟩
 ·rw [if_neg h2] at h
  have h2 := eF h2
  obtain rfl := sI h
  exact callOK cxOK cxW Tryz.func95 (by kernel_rfl) (f95_e1 x1 x2 x3) ⟨ch1, (by rw [h2]; rfl), trivial⟩

theorem f58_1_p1_ok (F : Nat) : ∀ (k : Nat) (x5 : Int) (x4 : LI) (r : (List Int)), f58_1_p1 F k x5 x4 = some r → f58_1_p1_P x5 x4 r
 | 0, _, _, _, h => by cases h
 | k + 1, x5, x4, r, h => by
  unfold f58_1_p1 at h
  by_cases h4 : (x5 != 0) = true
  ·rw [if_pos h4] at h
   obtain ⟨x6, h5, h⟩ := bind_some h
   have ch5 := f92_ok F x5 _ h5
   try dsimp only at h
   obtain ⟨h6, h⟩ := req_some h
   exact Lp.again (gRun_ok cxOK (f58_1_p1_e0 x4 x5 x6) ⟨h4, ch5, h6, rfl, trivial⟩) (f58_1_p1_ok F k (iAnd .u64 x5 (IntKind.wrap .u64 (x5 - 1))) (x4 ++ ([x6] : List Int)) r h)
  ·rw [if_neg h4] at h
   have h4 := eF h4
   obtain rfl := sI h
   exact Lp.out (gRun_ok cxOK (f58_1_p1_e1 x4 x5) ⟨h4, trivial⟩) (by intro hh; cases hh)
theorem f58_1_ok (F : Nat) (x1 : Int) (r : (List Int)) (h : f58_1 F x1 = some r) : f58_1_C x1 r := by
 unfold f58_1 at h
 obtain ⟨x7, h7, h⟩ := bind_some h
 have ch7 := f58_1_p1_ok F F x1 ([] : List Int) _ h7
 try dsimp only at h
 obtain rfl := sI h
 exact callOK cxOK cxW Tryz.func58 (by kernel_rfl) (f58_1_e0 x1 x7) ⟨ch7, trivial⟩

theorem f121_1_ok (F : Nat) (x1 x2 : Nat) (x3 x4 : Int) (x5 : LI) (r : Nat × Nat × (List Int)) (h : f121_1 F x1 x2 x3 x4 x5 = some r) : f121_1_C x1 x2 x3 x4 x5 r := by
 unfold f121_1 at h
 obtain ⟨h1, h⟩ := req_some h
 by_cases h2 : (x3 == x4) = true
 ·rw [if_pos h2] at h
  obtain rfl := sI h
  exact callOK cxOK cxW Tryz.func121 (by kernel_rfl) (f121_1_e0 x1 x2 x3 x4 x5) ⟨h1, h2, trivial⟩
 ·rw [if_neg h2] at h
  have h2 := eF h2
  obtain ⟨h3, h⟩ := req_some h
  obtain ⟨h4, h⟩ := req_some h
  obtain ⟨h5, h⟩ := req_some h
  obtain ⟨h6, h⟩ := req_some h
  obtain ⟨h7, h⟩ := req_some h
  obtain ⟨h8, h⟩ := req_some h
  obtain rfl := sI h
  exact callOK cxOK cxW Tryz.func121 (by kernel_rfl) (f121_1_e1 x1 x2 x3 x4 x5) ⟨h1, h2, h3, h4, h5, h6, h7, h8, trivial⟩

theorem f96_p4_1_ok (F : Nat) (x2 : Int) (x16 x17 : Nat) (x18 x20 : Int) (x15 : LI) (r : Nat × Nat × Int × (List Int)) (h : f96_p4_1 F x2 x16 x17 x18 x20 x15 = some r) : f96_p4_1_P x2 x16 x17 x18 x20 x15 r := by
 unfold f96_p4_1 at h
 by_cases h22 : ((iAnd .u64 (iShr .u64 x2 x20) 1) == 0) = true
 ·rw [if_pos h22] at h
  obtain ⟨rh23, h23, h⟩ := bind_some h
  have ch23 := f121_1_ok F x16 x17 (w64 (x18 - 1)) (w64 (x18 + 1)) x15 _ h23
  obtain ⟨x21, x22, x23⟩ := rh23
  try dsimp only at h
  obtain rfl := sI h
  exact gRun_ok cxOK (f96_p4_1_e0 x2 x15 x16 x17 x18 x20 x21 x22 x23) ⟨h22, ch23, trivial⟩
 ·rw [if_neg h22] at h
  have h22 := eF h22
  obtain rfl := sI h
  exact gRun_ok cxOK (f96_p4_1_e1 x2 x15 x16 x17 x18 x20) ⟨h22, trivial⟩
theorem f96_p1_ok (F : Nat) (x2 : Int) : ∀ (k : Nat) (x16 x17 : Nat) (x18 : Int) (x15 : LI) (r : Nat × Nat × (List Int)), f96_p1 F x2 k x16 x17 x18 x15 = some r → f96_p1_P x2 x16 x17 x18 x15 r
 | 0, _, _, _, _, _, h => by cases h
 | k + 1, x16, x17, x18, x15, r, h => by
  unfold f96_p1 at h
  by_cases h14 : (decide (x18 < ((x17 : Nat) : Int))) = true
  ·rw [if_pos h14] at h
   obtain ⟨h15, h⟩ := req_some h
   obtain ⟨x19, h16, h⟩ := bind_some h
   try dsimp only at h
   obtain ⟨h17, h⟩ := req_some h
   by_cases h18 : ((iAnd .u64 (iShr .u64 x2 x19) 1) == 1) = true
   ·rw [if_pos h18] at h
    obtain ⟨h19, h⟩ := req_some h
    obtain ⟨x20, h20, h⟩ := bind_some h
    try dsimp only at h
    obtain ⟨h21, h⟩ := req_some h
    obtain ⟨rh24, h24, h⟩ := bind_some h
    have ch24 := f96_p4_1_ok F x2 x16 x17 x18 x20 x15 _ h24
    obtain ⟨x24, x25, x26, x27⟩ := rh24
    try dsimp only at h
    exact Lp.again (gRun_ok cxOK (f96_p1_e0 x2 x15 x16 x17 x18 x19 x20 x24 x25 x26 x27) ⟨h14, h15, ⟨x19, h16, rfl⟩, h17, h18, h18, h18, h18, h18, h19, h18, ⟨x20, h20, rfl⟩, h18, h21, h18, h18, h18, ch24, trivial⟩) (f96_p1_ok F x2 k x24 x25 x26 x27 r h)
   ·rw [if_neg h18] at h
    have h18 := eF h18
    exact Lp.again (gRun_ok cxOK (f96_p1_e1 x2 x15 x16 x17 x18 x19) ⟨h14, h15, ⟨x19, h16, rfl⟩, h17, h18, h18, h18, h18, h18, h18, h18, h18, h18, h18, rfl, trivial⟩) (f96_p1_ok F x2 k x16 x17 (w64 (x18 + 1)) x15 r h)
  ·rw [if_neg h14] at h
   have h14 := eF h14
   obtain rfl := sI h
   exact Lp.out (gRun_ok cxOK (f96_p1_e2 x2 x15 x16 x17 x18) ⟨h14, trivial⟩) (by intro hh; cases hh)
theorem f96_ok (F : Nat) (x1 x2 : Int) (r : (List Int)) (h : f96 F x1 x2 = some r) : f96_C x1 x2 r := by
 unfold f96 at h
 obtain ⟨h1, h⟩ := req_some h
 obtain ⟨x3, h2, h⟩ := bind_some h
 have ch2 := f58_1_ok F (IntKind.wrap .u64 ((iShl .u64 1 x1) - 1)) _ h2
 try dsimp only at h
 obtain ⟨rh25, h25, h⟩ := bind_some h
 have ch25 := f96_p1_ok F x2 F 0 (List.length x3) 1 x3 _ h25
 obtain ⟨x28, x29, x30⟩ := rh25
 try dsimp only at h
 obtain ⟨h26, h⟩ := req_some h
 obtain rfl := sI h
 exact callOK cxOK cxW Tryz.func96 (by kernel_rfl) (f96_e0 x1 x2 x3 x28 x29 x30) ⟨h1, ch2, ch25, h26, trivial⟩

theorem f61_ok (F : Nat) (x1 : Int) (x2 : LI) (r : (List Int) × Int) (h : f61 F x1 x2 = some r) : f61_C x1 x2 r := by
 unfold f61 at h
 obtain ⟨rh1, h1, h⟩ := bind_some h
 have ch1 := f95_ok F x1 x2 _ h1
 obtain ⟨x3, x4⟩ := rh1
 try dsimp only at h
 by_cases h2 : (x4 != 0) = true
 ·rw [if_pos h2] at h
  obtain rfl := sI h
  exact callOK cxOK cxW Tryz.func61 (by kernel_rfl) (f61_e0 x1 x2 x3 x4) ⟨ch1, h2, trivial⟩
 ·rw [if_neg h2] at h
  have h2 := eF h2
  obtain ⟨x5, h3, h⟩ := bind_some h
  have ch3 := f96_ok F x1 x3 _ h3
  try dsimp only at h
  obtain rfl := sI h
  exact callOK cxOK cxW Tryz.func61 (by kernel_rfl) (f61_e1 x1 x2 x3 x4 x5) ⟨ch1, h2, ch3, trivial⟩

theorem f122_ok (F : Nat) (x1 x2 x3 : Int) (r : Bool) (h : f122 F x1 x2 x3 = some r) : f122_C x1 x2 x3 r := by
 unfold f122 at h
 by_cases h1 : (decide (x1 ≤ x2)) = true
 ·rw [if_pos h1] at h
  obtain rfl := sI h
  exact callOK cxOK cxW Tryz.func122 (by kernel_rfl) (f122_e0 x1 x2 x3) ⟨h1, h1, h1, h1, trivial⟩
 ·rw [if_neg h1] at h
  have h1 := eF h1
  obtain rfl := sI h
  exact callOK cxOK cxW Tryz.func122 (by kernel_rfl) (f122_e1 x1 x2 x3) ⟨h1, h1, h1, h1, trivial⟩

theorem f145_p2_ok (F : Nat) (x1 x2 : Int) : ∀ (k : Nat) (x3 x4 : Int) (r : Int), f145_p2 F x1 x2 k x3 x4 = some r → f145_p2_P x1 x2 x3 x4 r
 | 0, _, _, _, h => by cases h
 | k + 1, x3, x4, r, h => by
  unfold f145_p2 at h
  by_cases h2 : (decide (x4 < x2)) = true
  ·rw [if_pos h2] at h
   obtain ⟨h3, h⟩ := req_some h
   exact Lp.again (gRun_ok cxOK (f145_p2_e0 x1 x2 x3 x4) ⟨h2, h3, trivial⟩) (f145_p2_ok F x1 x2 k (w64 (Int.tdiv (w64 (x3 * (w64 (x1 - x4)))) (w64 (x4 + 1)))) (w64 (x4 + 1)) r h)
  ·rw [if_neg h2] at h
   have h2 := eF h2
   obtain rfl := sI h
   exact Lp.out (gRun_ok cxOK (f145_p2_e1 x1 x2 x3 x4) ⟨h2, trivial⟩) (by intro hh; cases hh)
theorem f145_ok (F : Nat) (x1 x2 : Int) (r : Int) (h : f145 F x1 x2 = some r) : f145_C x1 x2 r := by
 unfold f145 at h
 by_cases h1 : (decide (x2 < 0)) = true
 ·rw [if_pos h1] at h
  obtain rfl := sI h
  exact callOK cxOK cxW Tryz.func145 (by kernel_rfl) (f145_e0 x1 x2) ⟨h1, trivial⟩
 ·rw [if_neg h1] at h
  have h1 := eF h1
  obtain ⟨x5, h4, h⟩ := bind_some h
  have ch4 := f145_p2_ok F x1 x2 F 1 0 _ h4
  try dsimp only at h
  obtain rfl := sI h
  exact callOK cxOK cxW Tryz.func145 (by kernel_rfl) (f145_e1 x1 x2 x5) ⟨h1, ch4, trivial⟩

theorem f123_ok (F : Nat) (x1 x2 x3 : Int) (r : Int) (h : f123 F x1 x2 x3 = some r) : f123_C x1 x2 x3 r := by
 unfold f123 at h
 by_cases h1 : (decide (x1 < 0)) = true
 ·rw [if_pos h1] at h
  obtain rfl := sI h
  exact callOK cxOK cxW Tryz.func123 (by kernel_rfl) (f123_e0 x1 x2 x3) ⟨h1, h1, h1, rfl, rfl, rfl, rfl, rfl, rfl, rfl, trivial⟩
 ·rw [if_neg h1] at h
  have h1 := eF h1
  by_cases h2 : (decide (x2 < 0)) = true
  ·rw [if_pos h2] at h
   obtain rfl := sI h
   exact callOK cxOK cxW Tryz.func123 (by kernel_rfl) (f123_e1 x1 x2 x3) ⟨h1, h1, h1, h2, h2, h2, h2, h2, h2, rfl, trivial⟩
  ·rw [if_neg h2] at h
   have h2 := eF h2
   by_cases h3 : (decide (x2 > (w64 (x1 + x3)))) = true
   ·rw [if_pos h3] at h
    obtain rfl := sI h
    exact callOK cxOK cxW Tryz.func123 (by kernel_rfl) (f123_e2 x1 x2 x3) ⟨h1, h1, h1, h2, h2, h2, h2, h2, h2, h3, trivial⟩
   ·rw [if_neg h3] at h
    have h3 := eF h3
    obtain ⟨x4, h4, h⟩ := bind_some h
    have ch4 := f145_ok F (w64 (x1 + x2)) x2 _ h4
    try dsimp only at h
    obtain ⟨x5, h5, h⟩ := bind_some h
    have ch5 := f145_ok F (w64 (x1 + x2)) (w64 ((w64 (x2 - x3)) - 1)) _ h5
    try dsimp only at h
    obtain rfl := sI h
    exact callOK cxOK cxW Tryz.func123 (by kernel_rfl) (f123_e3 x1 x2 x3 x4 x5) ⟨h1, h1, h1, h2, h2, h2, h2, h2, h2, h3, ch4, ch5, trivial⟩

theorem f97_ok (F : Nat) (x1 x2 x3 : Int) (r : Int × Int) (h : f97 F x1 x2 x3 = some r) : f97_C x1 x2 x3 r := by
 unfold f97 at h
 by_cases h1 : (decide ((if x2 < x1 then x2 else x1) < 0)) = true
 ·rw [if_pos h1] at h
  obtain rfl := sI h
  exact callOK cxOK cxW Tryz.func97 (by kernel_rfl) (f97_e0 x1 x2 x3) ⟨h1, h1, h1, h1, h1, rfl, rfl, rfl, rfl, rfl, rfl, trivial⟩
 ·rw [if_neg h1] at h
  have h1 := eF h1
  by_cases h2 : (decide ((if x2 > x1 then x2 else x1) > 16)) = true
  ·rw [if_pos h2] at h
   obtain rfl := sI h
   exact callOK cxOK cxW Tryz.func97 (by kernel_rfl) (f97_e1 x1 x2 x3) ⟨h1, h1, h1, h1, h1, h2, h2, h2, h2, h2, rfl, trivial⟩
  ·rw [if_neg h2] at h
   have h2 := eF h2
   by_cases h3 : (decide ((w64 (x1 + x2)) > 16)) = true
   ·rw [if_pos h3] at h
    obtain rfl := sI h
    exact callOK cxOK cxW Tryz.func97 (by kernel_rfl) (f97_e2 x1 x2 x3) ⟨h1, h1, h1, h1, h1, h2, h2, h2, h2, h2, h3, trivial⟩
   ·rw [if_neg h3] at h
    have h3 := eF h3
    obtain ⟨x4, h4, h⟩ := bind_some h
    have ch4 := f122_ok F 0 x3 20 _ h4
    try dsimp only at h
    by_cases h5 : x4 = true
    ·rw [if_pos h5] at h
     obtain ⟨x5, h6, h⟩ := bind_some h
     have ch6 := f123_ok F x1 x2 x3 _ h6
     try dsimp only at h
     obtain rfl := sI h
     exact callOK cxOK cxW Tryz.func97 (by kernel_rfl) (f97_e3 x1 x2 x3 x4 x5) ⟨h1, h1, h1, h1, h1, h2, h2, h2, h2, h2, h3, ch4, (by rw [h5]; rfl), ch6, trivial⟩
    ·rw [if_neg h5] at h
     have h5 := eF h5
     obtain rfl := sI h
     exact callOK cxOK cxW Tryz.func97 (by kernel_rfl) (f97_e4 x1 x2 x3 x4) ⟨h1, h1, h1, h1, h1, h2, h2, h2, h2, h2, h3, ch4, (by rw [h5]; rfl), trivial⟩

theorem f62_ok (F : Nat) (x1 x2 x3 : Int) (r : Int × Int) (h : f62 F x1 x2 x3 = some r) : f62_C x1 x2 x3 r := by
 unfold f62 at h
 obtain ⟨rh1, h1, h⟩ := bind_some h
 have ch1 := f97_ok F x1 x2 x3 _ h1
 obtain ⟨x4, x5⟩ := rh1
 try dsimp only at h
 obtain rfl := sI h
 exact callOK cxOK cxW Tryz.func62 (by kernel_rfl) (f62_e0 x1 x2 x3 x4 x5) ⟨ch1, trivial⟩

theorem f203_ok (F : Nat) (x1 x2 x3 : Int) (r : Bool) (h : f203 F x1 x2 x3 = some r) : f203_C x1 x2 x3 r := by
 unfold f203 at h
 by_cases h1 : (decide (x1 ≤ x2)) = true
 ·rw [if_pos h1] at h
  obtain rfl := sI h
  exact callOK cxOK cxW Tryz.func203 (by kernel_rfl) (f203_e0 x1 x2 x3) ⟨h1, h1, h1, h1, trivial⟩
 ·rw [if_neg h1] at h
  have h1 := eF h1
  obtain rfl := sI h
  exact callOK cxOK cxW Tryz.func203 (by kernel_rfl) (f203_e1 x1 x2 x3) ⟨h1, h1, h1, h1, trivial⟩

theorem f202_ok (F : Nat) (x1 : Int) (r : Bool) (h : f202 F x1 = some r) : f202_C x1 r := by
 unfold f202 at h
 obtain ⟨x2, h1, h⟩ := bind_some h
 have ch1 := f203_ok F 0 x1 99 _ h1
 try dsimp only at h
 obtain rfl := sI h
 exact callOK cxOK cxW Tryz.func202 (by kernel_rfl) (f202_e0 x1 x2) ⟨ch1, trivial⟩

theorem f207_p1_ok (F : Nat) (x1 : LI) : ∀ (k : Nat) (x2 : Int) (r : f207_p1_R), f207_p1 F x1 k x2 = some r → f207_p1_P x1 x2 r
 | 0, _, _, h => by cases h
 | k + 1, x2, r, h => by
  unfold f207_p1 at h
  by_cases h1 : (decide (x2 < ((List.length x1 : Nat) : Int))) = true
  ·rw [if_pos h1] at h
   obtain ⟨x3, h2, h⟩ := bind_some h
   try dsimp only at h
   obtain ⟨x4, h3, h⟩ := bind_some h
   have ch3 := f202_ok F x3 _ h3
   try dsimp only at h
   by_cases h4 : x4 = true
   ·rw [if_pos h4] at h
    obtain rfl := sI h
    exact Lp.out (gRun_ok cxOK (f207_p1_e0 x1 x2 x3 x4) ⟨h1, ⟨(at?_spec h2).1, x3, (at?_spec h2).2, rfl⟩, ch3, h4, trivial⟩) (by intro hh; cases hh)
   ·rw [if_neg h4] at h
    have h4 := eF h4
    exact Lp.again (gRun_ok cxOK (f207_p1_e1 x1 x2 x3 x4) ⟨h1, ⟨(at?_spec h2).1, x3, (at?_spec h2).2, rfl⟩, ch3, h4, trivial⟩) (f207_p1_ok F x1 k (w64 (x2 + 1)) r h)
  ·rw [if_neg h1] at h
   have h1 := eF h1
   obtain rfl := sI h
   exact Lp.out (gRun_ok cxOK (f207_p1_e2 x1 x2) ⟨h1, trivial⟩) (by intro hh; cases hh)
theorem f207_ok (F : Nat) (x1 : LI) (r : Int) (h : f207 F x1 = some r) : f207_C x1 r := by
 unfold f207 at h
 obtain ⟨rh5, h5, h⟩ := bind_some h
 have ch5 := f207_p1_ok F x1 F 0 _ h5
 cases rh5 with
 | c0 x5 =>
  try dsimp only at h
  obtain rfl := sI h
  exact callOK cxOK cxW Tryz.func207 (by kernel_rfl) (f207_e0 x1 x5) ⟨ch5, trivial⟩
 | c1 =>
  try dsimp only at h
  obtain rfl := sI h
  exact callOK cxOK cxW Tryz.func207 (by kernel_rfl) (f207_e1 x1) ⟨ch5, trivial⟩

theorem f193_ok (F : Nat) (x1 : LI) (r : Bool) (h : f193 F x1 = some r) : f193_C x1 r := by
 unfold f193 at h
 obtain ⟨x2, h1, h⟩ := bind_some h
 have ch1 := f207_ok F x1 _ h1
 try dsimp only at h
 obtain rfl := sI h
 exact callOK cxOK cxW Tryz.func193 (by kernel_rfl) (f193_e0 x1 x2) ⟨ch1, trivial⟩

theorem f189_ok (F : Nat) (x1 : LI) (x2 : Int) (r : Int) (h : f189 F x1 x2 = some r) : f189_C x1 x2 r := by
 unfold f189 at h
 by_cases h1 : (((List.length x1 : Nat) : Int) != x2) = true
 ·rw [if_pos h1] at h
  obtain rfl := sI h
  exact callOK cxOK cxW Tryz.func189 (by kernel_rfl) (f189_e0 x1 x2) ⟨h1, trivial⟩
 ·rw [if_neg h1] at h
  have h1 := eF h1
  obtain ⟨x3, h2, h⟩ := bind_some h
  have ch2 := f193_ok F x1 _ h2
  try dsimp only at h
  by_cases h3 : x3 = true
  ·rw [if_pos h3] at h
   obtain rfl := sI h
   exact callOK cxOK cxW Tryz.func189 (by kernel_rfl) (f189_e1 x1 x2 x3) ⟨h1, ch2, h3, trivial⟩
  ·rw [if_neg h3] at h
   have h3 := eF h3
   obtain rfl := sI h
   exact callOK cxOK cxW Tryz.func189 (by kernel_rfl) (f189_e2 x1 x2 x3) ⟨h1, ch2, h3, trivial⟩

theorem f168_p4_ok (F : Nat) (x1 : LL) : ∀ (k : Nat) (x3 : Int) (r : f168_p4_R), f168_p4 F x1 k x3 = some r → f168_p4_P x1 x3 r
 | 0, _, _, h => by cases h
 | k + 1, x3, r, h => by
  unfold f168_p4 at h
  by_cases h5 : (decide (x3 < ((List.length x1 : Nat) : Int))) = true
  ·rw [if_pos h5] at h
   obtain ⟨x4, h6, h⟩ := bind_some h
   try dsimp only at h
   obtain ⟨x5, h7, h⟩ := bind_some h
   try dsimp only at h
   obtain ⟨x6, h8, h⟩ := bind_some h
   have ch8 := f189_ok F x4 ((List.length x5 : Nat) : Int) _ h8
   try dsimp only at h
   by_cases h9 : (x6 != 0) = true
   ·rw [if_pos h9] at h
    obtain rfl := sI h
    exact Lp.out (gRun_ok cxOK (f168_p4_e0 x1 x3 x4 x5 x6) ⟨h5, ⟨(at?_spec h6).1, x4, (at?_spec h6).2, rfl⟩, ⟨(at?_spec h7).1, x5, (at?_spec h7).2, rfl⟩, ch8, h9, trivial⟩) (by intro hh; cases hh)
   ·rw [if_neg h9] at h
    have h9 := eF h9
    exact Lp.again (gRun_ok cxOK (f168_p4_e1 x1 x3 x4 x5 x6) ⟨h5, ⟨(at?_spec h6).1, x4, (at?_spec h6).2, rfl⟩, ⟨(at?_spec h7).1, x5, (at?_spec h7).2, rfl⟩, ch8, h9, trivial⟩) (f168_p4_ok F x1 k (w64 (x3 + 1)) r h)
  ·rw [if_neg h5] at h
   have h5 := eF h5
   obtain rfl := sI h
   exact Lp.out (gRun_ok cxOK (f168_p4_e2 x1 x3) ⟨h5, trivial⟩) (by intro hh; cases hh)
theorem f168_ok (F : Nat) (x1 : LL) (r : Int) (h : f168 F x1 = some r) : f168_C x1 r := by
 unfold f168 at h
 by_cases h1 : (((List.length x1 : Nat) : Int) == 0) = true
 ·rw [if_pos h1] at h
  obtain rfl := sI h
  exact callOK cxOK cxW Tryz.func168 (by kernel_rfl) (f168_e0 x1) ⟨h1, trivial⟩
 ·rw [if_neg h1] at h
  have h1 := eF h1
  by_cases h2 : (decide (((List.length x1 : Nat) : Int) > 5)) = true
  ·rw [if_pos h2] at h
   obtain rfl := sI h
   exact callOK cxOK cxW Tryz.func168 (by kernel_rfl) (f168_e1 x1) ⟨h1, h2, h2, h2, h2, h2, h2, rfl, trivial⟩
  ·rw [if_neg h2] at h
   have h2 := eF h2
   obtain ⟨x2, h3, h⟩ := bind_some h
   try dsimp only at h
   by_cases h4 : (decide (((List.length x2 : Nat) : Int) > 5)) = true
   ·rw [if_pos h4] at h
    obtain rfl := sI h
    exact callOK cxOK cxW Tryz.func168 (by kernel_rfl) (f168_e2 x1 x2) ⟨h1, h2, h2, ⟨(at?_spec h3).1, x2, (at?_spec h3).2, rfl⟩, h2, h2, h2, h2, h4, trivial⟩
   ·rw [if_neg h4] at h
    have h4 := eF h4
    obtain ⟨rh10, h10, h⟩ := bind_some h
    have ch10 := f168_p4_ok F x1 F 0 _ h10
    cases rh10 with
    | c0 x7 =>
     try dsimp only at h
     obtain rfl := sI h
     exact callOK cxOK cxW Tryz.func168 (by kernel_rfl) (f168_e3 x1 x2 x7) ⟨h1, h2, h2, ⟨(at?_spec h3).1, x2, (at?_spec h3).2, rfl⟩, h2, h2, h2, h2, h4, ch10, trivial⟩
    | c1 =>
     try dsimp only at h
     obtain rfl := sI h
     exact callOK cxOK cxW Tryz.func168 (by kernel_rfl) (f168_e4 x1 x2) ⟨h1, h2, h2, ⟨(at?_spec h3).1, x2, (at?_spec h3).2, rfl⟩, h2, h2, h2, h2, h4, ch10, trivial⟩

theorem f146_ok (F : Nat) (x1 : LL) (r : f146_R) (h : f146 F x1 = some r) : f146_C x1 r := by
 unfold f146 at h
 obtain ⟨x2, h1, h⟩ := bind_some h
 have ch1 := f168_ok F x1 _ h1
 try dsimp only at h
 by_cases h2 : (x2 != 0) = true
 ·rw [if_pos h2] at h
  obtain rfl := sI h
  exact callOK cxOK cxW Tryz.func146 (by kernel_rfl) (f146_e0 x1 x2) ⟨ch1, h2, trivial⟩
 ·rw [if_neg h2] at h
  have h2 := eF h2
  obtain ⟨x3, h3, h⟩ := bind_some h
  try dsimp only at h
  obtain rfl := sI h
  exact callOK cxOK cxW Tryz.func146 (by kernel_rfl) (f146_e1 x1 x2 x3) ⟨ch1, h2, ⟨(at?_spec h3).1, x3, (at?_spec h3).2, rfl⟩, trivial⟩

theorem f149_ok (F : Nat) (r : f149_R) (h : f149 F = some r) : f149_C r := by
 unfold f149 at h
 cases h

theorem f147_ok (F : Nat) (r : f147_R) (h : f147 F = some r) : f147_C r := by
 unfold f147 at h
 obtain ⟨rh1, h1, h⟩ := bind_some h
 have ch1 := f149_ok F _ h1
 exact nomatch rh1

theorem f149_1_ok (F : Nat) (x1 : List ((Int × (Int × (Int × Unit))) × (Int × (Int × Unit)))) (x2 : LL) (x3 : Int) (r : Int) (h : f149_1 F x1 x2 x3 = some r) : f149_1_C x1 x2 x3 r := by
 unfold f149_1 at h
 obtain ⟨h1, h⟩ := req_some h
 obtain rfl := sI h
 exact callOK cxOK cxW Tryz.func149 (by kernel_rfl) (f149_1_e0 x1 x2 x3) ⟨h1, trivial⟩

theorem f169_ok (F : Nat) (x1 x2 : Int) (r : Int × Bool) (h : f169 F x1 x2 = some r) : f169_C x1 x2 r := by
 unfold f169 at h
 by_cases h1 : (decide (x2 < 0)) = true
 ·rw [if_pos h1] at h
  obtain rfl := sI h
  exact callOK cxOK cxW Tryz.func169 (by kernel_rfl) (f169_e0 x1 x2) ⟨h1, trivial⟩
 ·rw [if_neg h1] at h
  have h1 := eF h1
  obtain ⟨h2, h⟩ := req_some h
  obtain rfl := sI h
  exact callOK cxOK cxW Tryz.func169 (by kernel_rfl) (f169_e1 x1 x2) ⟨h1, h2, h2, trivial⟩

theorem f150_ok (F : Nat) (x1 x2 : Int) (x3 : List ((Int × (Int × (Int × Unit))) × (Int × (Int × Unit)))) (x4 : LL) (x5 : Int) (r : Int) (h : f150 F x1 x2 x3 x4 x5 = some r) : f150_C x1 x2 x3 x4 x5 r := by
 unfold f150 at h
 by_cases h1 : (decide (x2 < 0)) = true
 ·rw [if_pos h1] at h
  obtain rfl := sI h
  exact callOK cxOK cxW Tryz.func150 (by kernel_rfl) (f150_e0 x1 x2 x3 x4 x5) ⟨h1, trivial⟩
 ·rw [if_neg h1] at h
  have h1 := eF h1
  obtain ⟨x6, h2, h⟩ := bind_some h
  try dsimp only at h
  obtain ⟨x7, h3, h⟩ := bind_some h
  try dsimp only at h
  obtain rfl := sI h
  exact callOK cxOK cxW Tryz.func150 (by kernel_rfl) (f150_e1 x1 x2 x3 x4 x5 x6 x7) ⟨h1, ⟨(at?_spec h2).1, x6, (at?_spec h2).2, rfl⟩, ⟨(at?_spec h3).1, x7, (at?_spec h3).2, rfl⟩, trivial⟩

theorem f148_r11_1_ok (F : Nat) (x18 x22 : Int) (x23 : Bool) (x19 : List ((Int × (Int × (Int × Unit))) × (Int × (Int × Unit)))) (x5 : LL) (x6 x1 : Int) (x2 x3 : Int) (x20 x21 : Int) (r : Bool) (h : f148_r11_1 F x18 x22 x23 x19 x5 x6 x1 x2 x3 x20 x21 = some r) : f148_r11_1_P x18 x22 x23 x19 x5 x6 x1 x2 x3 x20 x21 r := by
 unfold f148_r11_1 at h
 by_cases h17 : x23 = true
 ·rw [if_pos h17] at h
  by_cases h18 : (decide (x18 ≥ 0)) = true
  ·rw [if_pos h18] at h
   obtain rfl := sI h
   exact gRun_ok cxOK (f148_r11_1_e0 x1 x2 x3 x5 x6 x18 x19 x20 x21 x22 x23) ⟨(by rw [h17]; rfl), (by rw [h17]; rfl), (by rw [h17]; rfl), h18, h18, h18, h18, h18, (by rw [h17]; rfl), h18, (by rw [h17]; rfl), trivial⟩
  ·rw [if_neg h18] at h
   have h18 := eF h18
   obtain rfl := sI h
   exact gRun_ok cxOK (f148_r11_1_e1 x1 x2 x3 x5 x6 x18 x19 x20 x21 x22 x23) ⟨(by rw [h17]; rfl), (by rw [h17]; rfl), (by rw [h17]; rfl), h18, h18, h18, h18, h18, (by rw [h17]; rfl), h18, (by rw [h17]; rfl), trivial⟩
 ·rw [if_neg h17] at h
  have h17 := eF h17
  obtain rfl := sI h
  exact gRun_ok cxOK (f148_r11_1_e2 x1 x2 x3 x5 x6 x18 x19 x20 x21 x22 x23) ⟨(by rw [h17]; rfl), (by rw [h17]; rfl), (by rw [h17]; rfl), (by rw [h17]; rfl), (by rw [h17]; rfl), trivial⟩
theorem f148_p9_1_ok (F : Nat) (x18 x25 : Int) (x28 x20 : Int) (x27 : List ((Int × (Int × (Int × Unit))) × (Int × (Int × Unit)))) (x5 : LL) (x6 x1 : Int) (x2 x3 : Int) (x21 x26 : Int) (r : Int) (h : f148_p9_1 F x18 x25 x28 x20 x27 x5 x6 x1 x2 x3 x21 x26 = some r) : f148_p9_1_P x18 x25 x28 x20 x27 x5 x6 x1 x2 x3 x21 x26 r := by
 unfold f148_p9_1 at h
 by_cases h24 : ((w64 (x25 + x28)) == x20) = true
 ·rw [if_pos h24] at h
  obtain rfl := sI h
  exact gRun_ok cxOK (f148_p9_1_e0 x1 x2 x3 x5 x6 x18 x20 x21 x25 x26 x27 x28) ⟨h24, trivial⟩
 ·rw [if_neg h24] at h
  have h24 := eF h24
  obtain rfl := sI h
  exact gRun_ok cxOK (f148_p9_1_e1 x1 x2 x3 x5 x6 x18 x20 x21 x25 x26 x27 x28) ⟨h24, trivial⟩
theorem f148_p8_1_ok (F : Nat) (x18 x25 : Int) (x28 x20 : Int) (x27 : List ((Int × (Int × (Int × Unit))) × (Int × (Int × Unit)))) (x5 : LL) (x6 x1 : Int) (x2 x3 : Int) (x21 x26 : Int) (r : Int × Int) (h : f148_p8_1 F x18 x25 x28 x20 x27 x5 x6 x1 x2 x3 x21 x26 = some r) : f148_p8_1_P x18 x25 x28 x20 x27 x5 x6 x1 x2 x3 x21 x26 r := by
 unfold f148_p8_1 at h
 by_cases h23 : (decide ((w64 (x25 + x28)) > x20)) = true
 ·rw [if_pos h23] at h
  obtain rfl := sI h
  exact gRun_ok cxOK (f148_p8_1_e0 x1 x2 x3 x5 x6 x18 x20 x21 x25 x26 x27 x28) ⟨h23, trivial⟩
 ·rw [if_neg h23] at h
  have h23 := eF h23
  obtain ⟨x29, h25, h⟩ := bind_some h
  have ch25 := f148_p9_1_ok F x18 x25 x28 x20 x27 x5 x6 x1 x2 x3 x21 x26 _ h25
  try dsimp only at h
  obtain rfl := sI h
  exact gRun_ok cxOK (f148_p8_1_e1 x1 x2 x3 x5 x6 x18 x20 x21 x25 x26 x27 x28 x29) ⟨h23, ch25, trivial⟩
theorem f148_p3_ok (F : Nat) (rec : Int → Int → Int → (List ((Int × (Int × (Int × Unit))) × (Int × (Int × Unit)))) → (List (List Int)) → Int → Option (Int × Int × (List ((Int × (Int × (Int × Unit))) × (Int × (Int × Unit)))))) (hrec : ∀ (x1 x2 x3 : Int) (x4 : List ((Int × (Int × (Int × Unit))) × (Int × (Int × Unit)))) (x5 : LL) (x6 : Int) (r : Int × Int × (List ((Int × (Int × (Int × Unit))) × (Int × (Int × Unit))))), rec x1 x2 x3 x4 x5 x6 = some r → f148_C x1 x2 x3 x4 x5 x6 r) (x5 : LL) (x6 x1 : Int) (x2 x3 : Int) : ∀ (k : Nat) (x18 : Int) (x19 : List ((Int × (Int × (Int × Unit))) × (Int × (Int × Unit)))) (x20 x21 : Int) (r : (List ((Int × (Int × (Int × Unit))) × (Int × (Int × Unit)))) × Int × Int), f148_p3 F rec x5 x6 x1 x2 x3 k x18 x19 x20 x21 = some r → f148_p3_P x5 x6 x1 x2 x3 x18 x19 x20 x21 r
 | 0, _, _, _, _, _, h => by cases h
 | k + 1, x18, x19, x20, x21, r, h => by
  unfold f148_p3 at h
  by_cases h15 : (decide (x18 < x6)) = true
  ·rw [if_pos h15] at h
   obtain ⟨rh16, h16, h⟩ := bind_some h
   have ch16 := f169_ok F x3 x18 _ h16
   obtain ⟨x22, x23⟩ := rh16
   try dsimp only at h
   obtain ⟨x24, h19, h⟩ := bind_some h
   have ch19 := f148_r11_1_ok F x18 x22 x23 x19 x5 x6 x1 x2 x3 x20 x21 _ h19
   try dsimp only at h
   by_cases h20 : x24 = true
   ·rw [if_pos h20] at h
    exact Lp.again (gRun_ok cxOK (f148_p3_e0 x1 x2 x3 x5 x6 x18 x19 x20 x21 x22 x23 x24) ⟨h15, ch16, ch19, h20, trivial⟩) (f148_p3_ok F rec hrec x5 x6 x1 x2 x3 k (w64 (x18 + 1)) x19 x20 x21 r h)
   ·rw [if_neg h20] at h
    have h20 := eF h20
    obtain ⟨rh21, h21, h⟩ := bind_some h
    have ch21 := hrec (w64 (x1 + 1)) x2 x22 x19 x5 x6 _ h21
    obtain ⟨x25, x26, x27⟩ := rh21
    try dsimp only at h
    obtain ⟨x28, h22, h⟩ := bind_some h
    have ch22 := f150_ok F x1 x18 x27 x5 x6 _ h22
    try dsimp only at h
    obtain ⟨rh26, h26, h⟩ := bind_some h
    have ch26 := f148_p8_1_ok F x18 x25 x28 x20 x27 x5 x6 x1 x2 x3 x21 x26 _ h26
    obtain ⟨x30, x31⟩ := rh26
    try dsimp only at h
    exact Lp.again (gRun_ok cxOK (f148_p3_e1 x1 x2 x3 x5 x6 x18 x19 x20 x21 x22 x23 x24 x25 x26 x27 x28 x30 x31) ⟨h15, ch16, ch19, h20, ch21, ch22, ch26, trivial⟩) (f148_p3_ok F rec hrec x5 x6 x1 x2 x3 k (w64 (x18 + 1)) x27 x30 x31 r h)
  ·rw [if_neg h15] at h
   have h15 := eF h15
   obtain rfl := sI h
   exact Lp.out (gRun_ok cxOK (f148_p3_e2 x1 x2 x3 x5 x6 x18 x19 x20 x21) ⟨h15, trivial⟩) (by intro hh; cases hh)
theorem f148_b_ok (F : Nat) (rec : Int → Int → Int → (List ((Int × (Int × (Int × Unit))) × (Int × (Int × Unit)))) → (List (List Int)) → Int → Option (Int × Int × (List ((Int × (Int × (Int × Unit))) × (Int × (Int × Unit)))))) (hrec : ∀ (x1 x2 x3 : Int) (x4 : List ((Int × (Int × (Int × Unit))) × (Int × (Int × Unit)))) (x5 : LL) (x6 : Int) (r : Int × Int × (List ((Int × (Int × (Int × Unit))) × (Int × (Int × Unit))))), rec x1 x2 x3 x4 x5 x6 = some r → f148_C x1 x2 x3 x4 x5 x6 r) (x1 x2 x3 : Int) (x4 : List ((Int × (Int × (Int × Unit))) × (Int × (Int × Unit)))) (x5 : LL) (x6 : Int) (r : Int × Int × (List ((Int × (Int × (Int × Unit))) × (Int × (Int × Unit))))) (h : f148_b F rec x1 x2 x3 x4 x5 x6 = some r) : f148_C x1 x2 x3 x4 x5 x6 r := by
 unfold f148_b at h
 by_cases h1 : (x1 == ((List.length x5 : Nat) : Int)) = true
 ·rw [if_pos h1] at h
  obtain rfl := sI h
  exact callOK cxOK cxW Tryz.func148 (by kernel_rfl) (f148_e0 x1 x2 x3 x4 x5 x6) ⟨h1, trivial⟩
 ·rw [if_neg h1] at h
  have h1 := eF h1
  by_cases h2 : (Option.isSome (mget x4 (x1, (x2, (x3, ()))))) = true
  ·rw [if_pos h2] at h
   obtain rfl := sI h
   exact callOK cxOK cxW Tryz.func148 (by kernel_rfl) (f148_e1 x1 x2 x3 x4 x5 x6) ⟨h1, (by kernel_rfl), h2, trivial⟩
  ·rw [if_neg h2] at h
   have h2 := eF h2
   obtain ⟨rh27, h27, h⟩ := bind_some h
   have ch27 := f148_p3_ok F rec hrec x5 x6 x1 x2 x3 F (-1) x4 (-1) 0 _ h27
   obtain ⟨x32, x33, x34⟩ := rh27
   try dsimp only at h
   obtain rfl := sI h
   exact callOK cxOK cxW Tryz.func148 (by kernel_rfl) (f148_e2 x1 x2 x3 x4 x5 x6 x32 x33 x34) ⟨h1, (by kernel_rfl), h2, ch27, (by kernel_rfl), trivial⟩
theorem f148_ok (F : Nat) : ∀ (k : Nat) (x1 x2 x3 : Int) (x4 : List ((Int × (Int × (Int × Unit))) × (Int × (Int × Unit)))) (x5 : LL) (x6 : Int) (r : Int × Int × (List ((Int × (Int × (Int × Unit))) × (Int × (Int × Unit))))), f148 F k x1 x2 x3 x4 x5 x6 = some r → f148_C x1 x2 x3 x4 x5 x6 r
 | 0, _, _, _, _, _, _, _, h => by cases h
 | k + 1, x1, x2, x3, x4, x5, x6, r, h => f148_b_ok F (f148 F k) (f148_ok F k) x1 x2 x3 x4 x5 x6 r h

theorem f147_1_p5_2_ok (F : Nat) (x64 : Int) (x2 : LL) (x3 : Int) : ∀ (k : Nat) (x79 x80 : Int) (x81 : List ((Int × (Int × (Int × Unit))) × (Int × (Int × Unit)))) (x78 : LI) (r : Int × (List ((Int × (Int × (Int × Unit))) × (Int × (Int × Unit)))) × (List Int)), f147_1_p5_2 F x64 x2 x3 k x79 x80 x81 x78 = some r → f147_1_p5_2_P x64 x2 x3 x79 x80 x81 x78 r
 | 0, _, _, _, _, _, h => by cases h
 | k + 1, x79, x80, x81, x78, r, h => by
  unfold f147_1_p5_2 at h
  by_cases h47 : (decide (x80 < x3)) = true
  ·rw [if_pos h47] at h
   obtain ⟨rh48, h48, h⟩ := bind_some h
   have ch48 := f169_ok F x79 x80 _ h48
   obtain ⟨x82, x83⟩ := rh48
   try dsimp only at h
   by_cases h49 : x83 = true
   ·rw [if_pos h49] at h
    obtain ⟨rh50, h50, h⟩ := bind_some h
    have ch50 := f148_ok F F (w64 (x64 + 1)) (-1) x82 x81 x2 x3 _ h50
    obtain ⟨x84, x85, x86⟩ := rh50
    try dsimp only at h
    obtain ⟨x87, h51, h⟩ := bind_some h
    have ch51 := f150_ok F x64 x80 x86 x2 x3 _ h51
    try dsimp only at h
    obtain ⟨rh52, h52, h⟩ := bind_some h
    have ch52 := f148_ok F F x64 (-1) x79 x86 x2 x3 _ h52
    obtain ⟨x88, x89, x90⟩ := rh52
    try dsimp only at h
    by_cases h53 : ((w64 (x84 + x87)) == x88) = true
    ·rw [if_pos h53] at h
     obtain ⟨h54, h⟩ := req_some h
     obtain rfl := sI h
     exact Lp.out (gRun_ok cxOK (f147_1_p5_2_e0 x2 x3 x64 x78 x79 x80 x81 x82 x83 x84 x85 x86 x87 x88 x89 x90) ⟨h47, ch48, h49, h49, h49, h49, h49, h49, ch50, h49, h49, h49, h49, h49, ch51, h49, h49, h49, h49, h49, h49, ch52, h49, h49, h49, h53, h54, rfl, trivial⟩) (by intro hh; cases hh)
    ·rw [if_neg h53] at h
     have h53 := eF h53
     exact Lp.again (gRun_ok cxOK (f147_1_p5_2_e1 x2 x3 x64 x78 x79 x80 x81 x82 x83 x84 x85 x86 x87 x88 x89 x90) ⟨h47, ch48, h49, h49, h49, h49, h49, h49, ch50, h49, h49, h49, h49, h49, ch51, h49, h49, h49, h49, h49, h49, ch52, h49, h49, h49, h53, trivial⟩) (f147_1_p5_2_ok F x64 x2 x3 k x79 (w64 (x80 + 1)) x90 x78 r h)
   ·rw [if_neg h49] at h
    have h49 := eF h49
    exact Lp.again (gRun_ok cxOK (f147_1_p5_2_e2 x2 x3 x64 x78 x79 x80 x81 x82 x83) ⟨h47, ch48, h49, h49, h49, h49, h49, h49, h49, h49, h49, h49, h49, h49, h49, h49, h49, h49, h49, h49, h49, h49, rfl, trivial⟩) (f147_1_p5_2_ok F x64 x2 x3 k x79 (w64 (x80 + 1)) x81 x78 r h)
  ·rw [if_neg h47] at h
   have h47 := eF h47
   obtain rfl := sI h
   exact Lp.out (gRun_ok cxOK (f147_1_p5_2_e3 x2 x3 x64 x78 x79 x80 x81) ⟨h47, trivial⟩) (by intro hh; cases hh)
theorem f147_1_p1_ok (F : Nat) (x2 : LL) (x3 : Int) : ∀ (k : Nat) (x63 x64 : Int) (x65 : List ((Int × (Int × (Int × Unit))) × (Int × (Int × Unit)))) (x62 : LI) (r : (List ((Int × (Int × (Int × Unit))) × (Int × (Int × Unit)))) × (List Int)), f147_1_p1 F x2 x3 k x63 x64 x65 x62 = some r → f147_1_p1_P x2 x3 x63 x64 x65 x62 r
 | 0, _, _, _, _, _, h => by cases h
 | k + 1, x63, x64, x65, x62, r, h => by
  unfold f147_1_p1 at h
  by_cases h38 : (decide (x64 < ((List.length x2 : Nat) : Int))) = true
  ·rw [if_pos h38] at h
   obtain ⟨rh55, h55, h⟩ := bind_some h
   have ch55 := f147_1_p5_2_ok F x64 x2 x3 F x63 (-1) x65 x62 _ h55
   obtain ⟨x91, x92, x93⟩ := rh55
   try dsimp only at h
   exact Lp.again (gRun_ok cxOK (f147_1_p1_e0 x2 x3 x62 x63 x64 x65 x91 x92 x93) ⟨h38, ch55, trivial⟩) (f147_1_p1_ok F x2 x3 k x91 (w64 (x64 + 1)) x92 x93 r h)
  ·rw [if_neg h38] at h
   have h38 := eF h38
   obtain rfl := sI h
   exact Lp.out (gRun_ok cxOK (f147_1_p1_e1 x2 x3 x62 x63 x64 x65) ⟨h38, trivial⟩) (by intro hh; cases hh)
theorem f147_1_ok (F : Nat) (x1 : List ((Int × (Int × (Int × Unit))) × (Int × (Int × Unit)))) (x2 : LL) (x3 : Int) (r : (List Int) × (List ((Int × (Int × (Int × Unit))) × (Int × (Int × Unit))))) (h : f147_1 F x1 x2 x3 = some r) : f147_1_C x1 x2 x3 r := by
 unfold f147_1 at h
 obtain ⟨x4, h1, h⟩ := bind_some h
 have ch1 := f149_1_ok F x1 x2 x3 _ h1
 try dsimp only at h
 obtain ⟨rh56, h56, h⟩ := bind_some h
 have ch56 := f147_1_p1_ok F x2 x3 F x4 0 x1 ([] : List Int) _ h56
 obtain ⟨x94, x95⟩ := rh56
 try dsimp only at h
 obtain rfl := sI h
 exact callOK cxOK cxW Tryz.func147 (by kernel_rfl) (f147_1_e0 x1 x2 x3 x4 x94 x95) ⟨ch1, ch56, (Nat.le_of_eq (Nat.zero_add _)), trivial⟩

theorem f125_ok (F : Nat) (x1 x2 : Int) (x3 : List ((Int × (Int × (Int × Unit))) × (Int × (Int × Unit)))) (x4 : LL) (x5 : Int) (r : Int × (List ((Int × (Int × (Int × Unit))) × (Int × (Int × Unit))))) (h : f125 F x1 x2 x3 x4 x5 = some r) : f125_C x1 x2 x3 x4 x5 r := by
 unfold f125 at h
 obtain ⟨x6, h1, h⟩ := bind_some h
 have ch1 := f149_1_ok F x3 x4 x5 _ h1
 try dsimp only at h
 obtain ⟨rh2, h2, h⟩ := bind_some h
 have ch2 := f148_ok F F 0 (-1) x6 x3 x4 x5 _ h2
 obtain ⟨x7, x8, x9⟩ := rh2
 try dsimp only at h
 obtain ⟨x10, h3, h⟩ := bind_some h
 have ch3 := f150_ok F x1 x2 x9 x4 x5 _ h3
 try dsimp only at h
 obtain ⟨x11, h4, h⟩ := bind_some h
 have ch4 := f149_1_ok F x9 x4 x5 _ h4
 try dsimp only at h
 obtain ⟨rh5, h5, h⟩ := bind_some h
 have ch5 := f148_ok F F 0 x1 x11 x9 x4 x5 _ h5
 obtain ⟨x12, x13, x14⟩ := rh5
 try dsimp only at h
 obtain rfl := sI h
 exact callOK cxOK cxW Tryz.func125 (by kernel_rfl) (f125_e0 x1 x2 x3 x4 x5 x6 x7 x8 x9 x10 x11 x12 x13 x14) ⟨ch1, ch2, ch3, ch4, ch5, trivial⟩

theorem f124_p2_ok (F : Nat) (x7 : LI) (x5 : LL) (x6 : Int) : ∀ (k : Nat) (x19 : Int) (x20 : List ((Int × (Int × (Int × Unit))) × (Int × (Int × Unit)))) (x18 : LI) (r : (List Int)), f124_p2 F x7 x5 x6 k x19 x20 x18 = some r → f124_p2_P x7 x5 x6 x19 x20 x18 r
 | 0, _, _, _, _, h => by cases h
 | k + 1, x19, x20, x18, r, h => by
  unfold f124_p2 at h
  by_cases h14 : (decide (x19 < ((List.length x7 : Nat) : Int))) = true
  ·rw [if_pos h14] at h
   obtain ⟨x21, h15, h⟩ := bind_some h
   try dsimp only at h
   obtain ⟨rh16, h16, h⟩ := bind_some h
   have ch16 := f125_ok F x19 x21 x20 x5 x6 _ h16
   obtain ⟨x22, x23⟩ := rh16
   try dsimp only at h
   obtain ⟨h17, h⟩ := req_some h
   exact Lp.again (gRun_ok cxOK (f124_p2_e0 x5 x6 x7 x18 x19 x20 x21 x22 x23) ⟨h14, ⟨(at?_spec h15).1, x21, (at?_spec h15).2, rfl⟩, ch16, h17, rfl, trivial⟩) (f124_p2_ok F x7 x5 x6 k (w64 (x19 + 1)) x23 (x18 ++ ([x22] : List Int)) r h)
  ·rw [if_neg h14] at h
   have h14 := eF h14
   obtain rfl := sI h
   exact Lp.out (gRun_ok cxOK (f124_p2_e1 x5 x6 x7 x18 x19 x20) ⟨h14, trivial⟩) (by intro hh; cases hh)
theorem f124_ok (F : Nat) (x1 : LL) (r : (List Int) × Int) (h : f124 F x1 = some r) : f124_C x1 r := by
 unfold f124 at h
 obtain ⟨rh1, h1, h⟩ := bind_some h
 have ch1 := f146_ok F x1 _ h1
 cases rh1 with
 | c0 x2 =>
  try dsimp only at h
  by_cases h2 : (x2 != 0) = true
  ·rw [if_pos h2] at h
   obtain rfl := sI h
   exact callOK cxOK cxW Tryz.func124 (by kernel_rfl) (f124_e0 x1 x2) ⟨ch1, h2, trivial⟩
  ·rw [if_neg h2] at h
   have h2 := eF h2
   obtain ⟨rh3, h3, h⟩ := bind_some h
   have ch3 := f147_ok F _ h3
   exact nomatch rh3
 | c1 x3 x4 x5 x6 =>
  try dsimp only at h
  by_cases h4 : (x3 != 0) = true
  ·rw [if_pos h4] at h
   obtain rfl := sI h
   exact callOK cxOK cxW Tryz.func124 (by kernel_rfl) (f124_e1 x1 x3 x4 x5 x6) ⟨ch1, h4, trivial⟩
  ·rw [if_neg h4] at h
   have h4 := eF h4
   obtain ⟨rh5, h5, h⟩ := bind_some h
   have ch5 := f147_1_ok F x4 x5 x6 _ h5
   obtain ⟨x7, x8⟩ := rh5
   try dsimp only at h
   obtain ⟨x24, h18, h⟩ := bind_some h
   have ch18 := f124_p2_ok F x7 x5 x6 F 0 x8 ([] : List Int) _ h18
   try dsimp only at h
   obtain rfl := sI h
   exact callOK cxOK cxW Tryz.func124 (by kernel_rfl) (f124_e2 x1 x3 x4 x5 x6 x7 x8 x24) ⟨ch1, h4, ch5, ch18, (Nat.le_of_eq (Nat.zero_add _)), trivial⟩

theorem f98_ok (F : Nat) (x1 : LL) (r : (List Int) × Int) (h : f98 F x1 = some r) : f98_C x1 r := by
 unfold f98 at h
 obtain ⟨rh1, h1, h⟩ := bind_some h
 have ch1 := f124_ok F x1 _ h1
 obtain ⟨x2, x3⟩ := rh1
 try dsimp only at h
 obtain rfl := sI h
 exact callOK cxOK cxW Tryz.func98 (by kernel_rfl) (f98_e0 x1 x2 x3) ⟨ch1, trivial⟩

theorem f153_ok (F : Nat) (x1 x2 x3 : Int) (r : Bool) (h : f153 F x1 x2 x3 = some r) : f153_C x1 x2 x3 r := by
 unfold f153 at h
 by_cases h1 : (decide (x1 ≤ x2)) = true
 ·rw [if_pos h1] at h
  obtain rfl := sI h
  exact callOK cxOK cxW Tryz.func153 (by kernel_rfl) (f153_e0 x1 x2 x3) ⟨h1, h1, h1, h1, trivial⟩
 ·rw [if_neg h1] at h
  have h1 := eF h1
  obtain rfl := sI h
  exact callOK cxOK cxW Tryz.func153 (by kernel_rfl) (f153_e1 x1 x2 x3) ⟨h1, h1, h1, h1, trivial⟩

theorem f171_p0_ok (F : Nat) (x1 : Int) (x2 : Bool) (r : Int) (h : f171_p0 F x1 x2 = some r) : f171_p0_P x1 x2 r := by
 unfold f171_p0 at h
 by_cases h1 : x2 = true
 ·rw [if_pos h1] at h
  obtain rfl := sI h
  exact gRun_ok cxOK (f171_p0_e0 x1 x2) ⟨h1, trivial⟩
 ·rw [if_neg h1] at h
  have h1 := eF h1
  obtain rfl := sI h
  exact gRun_ok cxOK (f171_p0_e1 x1 x2) ⟨h1, trivial⟩
theorem f171_ok (F : Nat) (x1 : Int) (x2 : Bool) (r : Int) (h : f171 F x1 x2 = some r) : f171_C x1 x2 r := by
 unfold f171 at h
 obtain ⟨x3, h2, h⟩ := bind_some h
 have ch2 := f171_p0_ok F x1 x2 _ h2
 try dsimp only at h
 obtain rfl := sI h
 exact callOK cxOK cxW Tryz.func171 (by kernel_rfl) (f171_e0 x1 x2 x3) ⟨ch2, trivial⟩

theorem f152_ok (F : Nat) (x1 x2 : Int) (x3 : Bool) (x4 x5 : LI) (r : Int) (h : f152 F x1 x2 x3 x4 x5 = some r) : f152_C x1 x2 x3 x4 x5 r := by
 unfold f152 at h
 obtain ⟨h1, h⟩ := req_some h
 obtain ⟨x6, h2, h⟩ := bind_some h
 try dsimp only at h
 obtain ⟨x7, h3, h⟩ := bind_some h
 have ch3 := f171_ok F x1 x3 _ h3
 try dsimp only at h
 obtain rfl := sI h
 exact callOK cxOK cxW Tryz.func152 (by kernel_rfl) (f152_e0 x1 x2 x3 x4 x5 x6 x7) ⟨h1, ⟨x6, h2, rfl⟩, ch3, trivial⟩

theorem f170_p4_ok (F : Nat) (x1 : Int) (x2 : Bool) (x3 : LI) : ∀ (k : Nat) (x6 x7 : Int) (x8 : Bool) (x9 x10 : LI) (r : Int × Bool × (List Int) × (List Int)), f170_p4 F x1 x2 x3 k x6 x7 x8 x9 x10 = some r → f170_p4_P x1 x2 x3 x6 x7 x8 x9 x10 r
 | 0, _, _, _, _, _, _, h => by cases h
 | k + 1, x6, x7, x8, x9, x10, r, h => by
  unfold f170_p4 at h
  by_cases h7 : (decide (x6 < 9)) = true
  ·rw [if_pos h7] at h
   obtain ⟨h8, h⟩ := req_some h
   obtain ⟨h9, h⟩ := req_some h
   exact Lp.again (gRun_ok cxOK (f170_p4_e0 x1 x2 x3 x6 x7 x8 x9 x10) ⟨h7, h8, h9, trivial⟩) (f170_p4_ok F x1 x2 x3 k (w64 (x6 + 1)) x7 x8 x9 (List.set x10 (0 + ((Int.toNat x6) * 1)) (-1)) r h)
  ·rw [if_neg h7] at h
   have h7 := eF h7
   obtain rfl := sI h
   exact Lp.out (gRun_ok cxOK (f170_p4_e1 x1 x2 x3 x6 x7 x8 x9 x10) ⟨h7, trivial⟩) (by intro hh; cases hh)
theorem f170_p12_1_ok (F : Nat) (x21 x28 : Int) (x3 : LI) (x31 x1 : Int) (x2 : Bool) (x22 : Int) (x23 : Bool) (x24 x25 x26 : LI) (x30 : Int) (x27 : LI) (r : (List Int)) (h : f170_p12_1 F x21 x28 x3 x31 x1 x2 x22 x23 x24 x25 x26 x30 x27 = some r) : f170_p12_1_P x21 x28 x3 x31 x1 x2 x22 x23 x24 x25 x26 x30 x27 r := by
 unfold f170_p12_1 at h
 by_cases h33 : (x31 == 1) = true
 ·rw [if_pos h33] at h
  obtain ⟨h34, h⟩ := req_some h
  obtain ⟨h35, h⟩ := req_some h
  obtain rfl := sI h
  exact gRun_ok cxOK (f170_p12_1_e0 x1 x2 x3 x21 x22 x23 x24 x25 x26 x27 x28 x30 x31) ⟨h33, h34, h35, trivial⟩
 ·rw [if_neg h33] at h
  have h33 := eF h33
  obtain rfl := sI h
  exact gRun_ok cxOK (f170_p12_1_e1 x1 x2 x3 x21 x22 x23 x24 x25 x26 x27 x28 x30 x31) ⟨h33, trivial⟩
theorem f170_p8_ok (F : Nat) (x3 : LI) (x1 : Int) (x2 : Bool) : ∀ (k : Nat) (x21 x22 : Int) (x23 : Bool) (x24 x25 : LI) (x26 x27 : LI) (r : f170_p8_R), f170_p8 F x3 x1 x2 k x21 x22 x23 x24 x25 x26 x27 = some r → f170_p8_P x3 x1 x2 x21 x22 x23 x24 x25 x26 x27 r
 | 0, _, _, _, _, _, _, _, _, h => by cases h
 | k + 1, x21, x22, x23, x24, x25, x26, x27, r, h => by
  unfold f170_p8 at h
  by_cases h25 : (decide (x21 < ((List.length x3 : Nat) : Int))) = true
  ·rw [if_pos h25] at h
   obtain ⟨x28, h26, h⟩ := bind_some h
   try dsimp only at h
   obtain ⟨x29, h27, h⟩ := bind_some h
   have ch27 := f153_ok F 0 x28 x1 _ h27
   try dsimp only at h
   by_cases h28 : x29 = true
   ·rw [if_pos h28] at h
    obtain ⟨h29, h⟩ := req_some h
    obtain ⟨x30, h30, h⟩ := bind_some h
    try dsimp only at h
    obtain ⟨h31, h⟩ := req_some h
    obtain ⟨x31, h32, h⟩ := bind_some h
    try dsimp only at h
    obtain ⟨x32, h36, h⟩ := bind_some h
    have ch36 := f170_p12_1_ok F x21 x28 x3 x31 x1 x2 x22 x23 x24 x25 x26 x30 x27 _ h36
    try dsimp only at h
    obtain ⟨h37, h⟩ := req_some h
    obtain ⟨h38, h⟩ := req_some h
    exact Lp.again (gRun_ok cxOK (f170_p8_e0 x1 x2 x3 x21 x22 x23 x24 x25 x26 x27 x28 x29 x30 x31 x32) ⟨h25, ⟨(at?_spec h26).1, x28, (at?_spec h26).2, rfl⟩, ch27, (by rw [h28]; rfl), h29, ⟨x30, h30, rfl⟩, h29, h31, h29, ⟨x31, h32, rfl⟩, ch36, h29, h31, h37, h38, trivial⟩) (f170_p8_ok F x3 x1 x2 k (w64 (x21 + 1)) x22 x23 (List.set x24 (0 + ((Int.toNat x21) * 1)) x28) x32 (List.set x26 (0 + ((Int.toNat x28) * 1)) (w64 (x30 + 1))) (List.set x27 (0 + ((Int.toNat x28) * 1)) x21) r h)
   ·rw [if_neg h28] at h
    have h28 := eF h28
    obtain rfl := sI h
    exact Lp.out (gRun_ok cxOK (f170_p8_e1 x1 x2 x3 x21 x22 x23 x24 x25 x26 x27 x28 x29) ⟨h25, ⟨(at?_spec h26).1, x28, (at?_spec h26).2, rfl⟩, ch27, (by rw [h28]; rfl), trivial⟩) (by intro hh; cases hh)
  ·rw [if_neg h25] at h
   have h25 := eF h25
   obtain rfl := sI h
   exact Lp.out (gRun_ok cxOK (f170_p8_e2 x1 x2 x3 x21 x22 x23 x24 x25 x26 x27) ⟨h25, trivial⟩) (by intro hh; cases hh)
theorem f170_p14_ok (F : Nat) (x1 : Int) (x2 : Bool) (x3 : LI) (x33 : Int) (x34 : Bool) (x35 x36 : LI) (x37 x38 : LI) : ∀ (k : Nat) (x39 : Int) (r : f170_p14_R), f170_p14 F x1 x2 x3 x33 x34 x35 x36 x37 x38 k x39 = some r → f170_p14_P x1 x2 x3 x33 x34 x35 x36 x37 x38 x39 r
 | 0, _, _, h => by cases h
 | k + 1, x39, r, h => by
  unfold f170_p14 at h
  by_cases h40 : (decide (x39 ≤ x1)) = true
  ·rw [if_pos h40] at h
   obtain ⟨h41, h⟩ := req_some h
   obtain ⟨x40, h42, h⟩ := bind_some h
   try dsimp only at h
   by_cases h43 : (decide (x40 > 2)) = true
   ·rw [if_pos h43] at h
    obtain rfl := sI h
    exact Lp.out (gRun_ok cxOK (f170_p14_e0 x1 x2 x3 x33 x34 x35 x36 x37 x38 x39 x40) ⟨h40, h41, ⟨x40, h42, rfl⟩, h43, trivial⟩) (by intro hh; cases hh)
   ·rw [if_neg h43] at h
    have h43 := eF h43
    by_cases h44 : (x40 == 1) = true
    ·rw [if_pos h44] at h
     obtain rfl := sI h
     exact Lp.out (gRun_ok cxOK (f170_p14_e1 x1 x2 x3 x33 x34 x35 x36 x37 x38 x39 x40) ⟨h40, h41, ⟨x40, h42, rfl⟩, h43, h41, ⟨x40, h42, rfl⟩, h44, trivial⟩) (by intro hh; cases hh)
    ·rw [if_neg h44] at h
     have h44 := eF h44
     by_cases h45 : (x40 == 2) = true
     ·rw [if_pos h45] at h
      obtain ⟨x41, h46, h⟩ := bind_some h
      try dsimp only at h
      obtain ⟨x42, h47, h⟩ := bind_some h
      have ch47 := f152_ok F x39 x33 x34 x35 x36 _ h47
      try dsimp only at h
      by_cases h48 : (x41 != x42) = true
      ·rw [if_pos h48] at h
       obtain rfl := sI h
       exact Lp.out (gRun_ok cxOK (f170_p14_e2 x1 x2 x3 x33 x34 x35 x36 x37 x38 x39 x40 x41 x42) ⟨h40, h41, ⟨x40, h42, rfl⟩, h43, h41, ⟨x40, h42, rfl⟩, h44, h41, ⟨x40, h42, rfl⟩, h45, h45, h41, h45, ⟨x41, h46, rfl⟩, h45, h45, h45, ch47, h45, h45, h48, trivial⟩) (by intro hh; cases hh)
      ·rw [if_neg h48] at h
       have h48 := eF h48
       exact Lp.again (gRun_ok cxOK (f170_p14_e3 x1 x2 x3 x33 x34 x35 x36 x37 x38 x39 x40 x41 x42) ⟨h40, h41, ⟨x40, h42, rfl⟩, h43, h41, ⟨x40, h42, rfl⟩, h44, h41, ⟨x40, h42, rfl⟩, h45, h45, h41, h45, ⟨x41, h46, rfl⟩, h45, h45, h45, ch47, h45, h45, h48, trivial⟩) (f170_p14_ok F x1 x2 x3 x33 x34 x35 x36 x37 x38 k (w64 (x39 + 1)) r h)
     ·rw [if_neg h45] at h
      have h45 := eF h45
      exact Lp.again (gRun_ok cxOK (f170_p14_e4 x1 x2 x3 x33 x34 x35 x36 x37 x38 x39 x40) ⟨h40, h41, ⟨x40, h42, rfl⟩, h43, h41, ⟨x40, h42, rfl⟩, h44, h41, ⟨x40, h42, rfl⟩, h45, h45, h45, h45, h45, h45, h45, h45, rfl, trivial⟩) (f170_p14_ok F x1 x2 x3 x33 x34 x35 x36 x37 x38 k (w64 (x39 + 1)) r h)
  ·rw [if_neg h40] at h
   have h40 := eF h40
   obtain rfl := sI h
   exact Lp.out (gRun_ok cxOK (f170_p14_e5 x1 x2 x3 x33 x34 x35 x36 x37 x38 x39) ⟨h40, trivial⟩) (by intro hh; cases hh)
theorem f170_ok (F : Nat) (x1 : Int) (x2 : Bool) (x3 : LI) (r : f170_R) (h : f170 F x1 x2 x3 = some r) : f170_C x1 x2 x3 r := by
 unfold f170 at h
 obtain ⟨x4, h1, h⟩ := bind_some h
 have ch1 := f153_ok F 1 x1 8 _ h1
 try dsimp only at h
 by_cases h2 : x4 = true
 ·rw [if_pos h2] at h
  by_cases h3 : (((List.length x3 : Nat) : Int) != (w64 (2 * x1))) = true
  ·rw [if_pos h3] at h
   obtain rfl := sI h
   exact callOK cxOK cxW Tryz.func170 (by kernel_rfl) (f170_e0 x1 x2 x3 x4) ⟨ch1, (by rw [h2]; rfl), h3, trivial⟩
  ·rw [if_neg h3] at h
   have h3 := eF h3
   obtain ⟨rh10, h10, h⟩ := bind_some h
   have ch10 := f170_p4_ok F x1 x2 x3 F 0 x1 x2 (List.replicate 16 0) (List.replicate 9 0) _ h10
   obtain ⟨x11, x12, x13, x14⟩ := rh10
   try dsimp only at h
   obtain ⟨rh39, h39, h⟩ := bind_some h
   have ch39 := f170_p8_ok F x3 x1 x2 F 0 x11 x12 x13 x14 (List.replicate 9 0) (List.replicate 9 0) _ h39
   cases rh39 with
   | c0 =>
    try dsimp only at h
    obtain rfl := sI h
    exact callOK cxOK cxW Tryz.func170 (by kernel_rfl) (f170_e1 x1 x2 x3 x4 x11 x12 x13 x14) ⟨ch1, (by rw [h2]; rfl), h3, ch10, ch39, trivial⟩
   | c1 x33 x34 x35 x36 x37 x38 =>
    try dsimp only at h
    obtain ⟨rh49, h49, h⟩ := bind_some h
    have ch49 := f170_p14_ok F x1 x2 x3 x33 x34 x35 x36 x37 x38 F 1 _ h49
    cases rh49 with
    | c0 x43 =>
     try dsimp only at h
     obtain rfl := sI h
     exact callOK cxOK cxW Tryz.func170 (by kernel_rfl) (f170_e2 x1 x2 x3 x4 x11 x12 x13 x14 x33 x34 x35 x36 x37 x38 x43) ⟨ch1, (by rw [h2]; rfl), h3, ch10, ch39, ch49, trivial⟩
    | c1 =>
     try dsimp only at h
     obtain rfl := sI h
     exact callOK cxOK cxW Tryz.func170 (by kernel_rfl) (f170_e3 x1 x2 x3 x4 x11 x12 x13 x14 x33 x34 x35 x36 x37 x38) ⟨ch1, (by rw [h2]; rfl), h3, ch10, ch39, ch49, trivial⟩
 ·rw [if_neg h2] at h
  have h2 := eF h2
  obtain rfl := sI h
  exact callOK cxOK cxW Tryz.func170 (by kernel_rfl) (f170_e4 x1 x2 x3 x4) ⟨ch1, (by rw [h2]; rfl), trivial⟩

theorem f151_ok (F : Nat) (x1 : Int) (x2 : Bool) (x3 : LI) (x4 : Int) (r : f151_R) (h : f151 F x1 x2 x3 x4 = some r) : f151_C x1 x2 x3 x4 r := by
 unfold f151 at h
 obtain ⟨rh1, h1, h⟩ := bind_some h
 have ch1 := f170_ok F x1 x2 x3 _ h1
 cases rh1 with
 | c0 x5 =>
  try dsimp only at h
  by_cases h2 : (x5 != 0) = true
  ·rw [if_pos h2] at h
   obtain rfl := sI h
   exact callOK cxOK cxW Tryz.func151 (by kernel_rfl) (f151_e0 x1 x2 x3 x4 x5) ⟨ch1, h2, trivial⟩
  ·rw [if_neg h2] at h
   have h2 := eF h2
   cases h
 | c1 x6 x7 x8 x9 x10 =>
  try dsimp only at h
  by_cases h3 : (x6 != 0) = true
  ·rw [if_pos h3] at h
   obtain rfl := sI h
   exact callOK cxOK cxW Tryz.func151 (by kernel_rfl) (f151_e1 x1 x2 x3 x4 x6 x7 x8 x9 x10) ⟨ch1, h3, trivial⟩
  ·rw [if_neg h3] at h
   have h3 := eF h3
   obtain ⟨x11, h4, h⟩ := bind_some h
   have ch4 := f153_ok F 1 x4 x7 _ h4
   try dsimp only at h
   by_cases h5 : x11 = true
   ·rw [if_pos h5] at h
    obtain ⟨h6, h⟩ := req_some h
    obtain ⟨x12, h7, h⟩ := bind_some h
    try dsimp only at h
    by_cases h8 : (decide (x12 < 0)) = true
    ·rw [if_pos h8] at h
     obtain rfl := sI h
     exact callOK cxOK cxW Tryz.func151 (by kernel_rfl) (f151_e2 x1 x2 x3 x4 x6 x7 x8 x9 x10 x11 x12) ⟨ch1, h3, ch4, (by rw [h5]; rfl), h6, ⟨x12, h7, rfl⟩, h8, trivial⟩
    ·rw [if_neg h8] at h
     have h8 := eF h8
     obtain rfl := sI h
     exact callOK cxOK cxW Tryz.func151 (by kernel_rfl) (f151_e3 x1 x2 x3 x4 x6 x7 x8 x9 x10 x11 x12) ⟨ch1, h3, ch4, (by rw [h5]; rfl), h6, ⟨x12, h7, rfl⟩, h8, trivial⟩
   ·rw [if_neg h5] at h
    have h5 := eF h5
    obtain rfl := sI h
    exact callOK cxOK cxW Tryz.func151 (by kernel_rfl) (f151_e4 x1 x2 x3 x4 x6 x7 x8 x9 x10 x11) ⟨ch1, h3, ch4, (by rw [h5]; rfl), trivial⟩

theorem f126_p6_1_ok (F : Nat) (x4 x11 x12 : Int) (x18 : LI) (x19 : Int) (x22 x23 : Bool) (x7 : Int) (x8 : Bool) (x9 x10 : LI) (r : (List Int)) (h : f126_p6_1 F x4 x11 x12 x18 x19 x22 x23 x7 x8 x9 x10 = some r) : f126_p6_1_P x4 x11 x12 x18 x19 x22 x23 x7 x8 x9 x10 r := by
 unfold f126_p6_1 at h
 by_cases h26 : (x22 == x23) = true
 ·rw [if_pos h26] at h
  obtain rfl := sI h
  exact gRun_ok cxOK (f126_p6_1_e0 x4 x7 x8 x9 x10 x11 x12 x18 x19 x22 x23) ⟨(by rw [h26]; rfl), trivial⟩
 ·rw [if_neg h26] at h
  have h26 := eF h26
  obtain ⟨h27, h⟩ := req_some h
  obtain rfl := sI h
  exact gRun_ok cxOK (f126_p6_1_e1 x4 x7 x8 x9 x10 x11 x12 x18 x19 x22 x23) ⟨(by rw [h26]; rfl), h27, rfl, trivial⟩
theorem f126_p2_ok (F : Nat) (x4 x11 : Int) (x12 x7 : Int) (x8 : Bool) (x9 x10 : LI) : ∀ (k : Nat) (x19 : Int) (x18 : LI) (r : (List Int)), f126_p2 F x4 x11 x12 x7 x8 x9 x10 k x19 x18 = some r → f126_p2_P x4 x11 x12 x7 x8 x9 x10 x19 x18 r
 | 0, _, _, _, h => by cases h
 | k + 1, x19, x18, r, h => by
  unfold f126_p2 at h
  by_cases h18 : (decide (x19 ≤ x7)) = true
  ·rw [if_pos h18] at h
   obtain ⟨h19, h⟩ := req_some h
   obtain ⟨x20, h20, h⟩ := bind_some h
   try dsimp only at h
   by_cases h21 : (decide (x20 < 0)) = true
   ·rw [if_pos h21] at h
    exact Lp.again (gRun_ok cxOK (f126_p2_e0 x4 x7 x8 x9 x10 x11 x12 x18 x19 x20) ⟨h18, h19, ⟨x20, h20, rfl⟩, h21, h21, h21, h21, rfl, trivial⟩) (f126_p2_ok F x4 x11 x12 x7 x8 x9 x10 k (w64 (x19 + 1)) x18 r h)
   ·rw [if_neg h21] at h
    have h21 := eF h21
    by_cases h22 : (x19 == x4) = true
    ·rw [if_pos h22] at h
     exact Lp.again (gRun_ok cxOK (f126_p2_e1 x4 x7 x8 x9 x10 x11 x12 x18 x19 x20) ⟨h18, h19, ⟨x20, h20, rfl⟩, h21, h21, h21, h21, h22, trivial⟩) (f126_p2_ok F x4 x11 x12 x7 x8 x9 x10 k (w64 (x19 + 1)) x18 r h)
    ·rw [if_neg h22] at h
     have h22 := eF h22
     obtain ⟨x21, h23, h⟩ := bind_some h
     have ch23 := f152_ok F x19 x7 x8 x9 x10 _ h23
     try dsimp only at h
     obtain ⟨x22, h24, h⟩ := bind_some h
     have ch24 := f153_ok F x11 x20 x12 _ h24
     try dsimp only at h
     obtain ⟨x23, h25, h⟩ := bind_some h
     have ch25 := f153_ok F x11 x21 x12 _ h25
     try dsimp only at h
     obtain ⟨x24, h28, h⟩ := bind_some h
     have ch28 := f126_p6_1_ok F x4 x11 x12 x18 x19 x22 x23 x7 x8 x9 x10 _ h28
     try dsimp only at h
     exact Lp.again (gRun_ok cxOK (f126_p2_e2 x4 x7 x8 x9 x10 x11 x12 x18 x19 x20 x21 x22 x23 x24) ⟨h18, h19, ⟨x20, h20, rfl⟩, h21, h21, h21, h21, h22, h19, ⟨x20, h20, rfl⟩, ch23, ch24, ch25, ch28, trivial⟩) (f126_p2_ok F x4 x11 x12 x7 x8 x9 x10 k (w64 (x19 + 1)) x24 r h)
  ·rw [if_neg h18] at h
   have h18 := eF h18
   obtain rfl := sI h
   exact Lp.out (gRun_ok cxOK (f126_p2_e3 x4 x7 x8 x9 x10 x11 x12 x18 x19) ⟨h18, trivial⟩) (by intro hh; cases hh)
theorem f126_ok (F : Nat) (x1 : Int) (x2 : Bool) (x3 : LI) (x4 : Int) (r : (List Int) × Int) (h : f126 F x1 x2 x3 x4 = some r) : f126_C x1 x2 x3 x4 r := by
 unfold f126 at h
 obtain ⟨rh1, h1, h⟩ := bind_some h
 have ch1 := f151_ok F x1 x2 x3 x4 _ h1
 cases rh1 with
 | c0 x5 =>
  try dsimp only at h
  by_cases h2 : (x5 != 0) = true
  ·rw [if_pos h2] at h
   obtain rfl := sI h
   exact callOK cxOK cxW Tryz.func126 (by kernel_rfl) (f126_e0 x1 x2 x3 x4 x5) ⟨ch1, h2, trivial⟩
  ·rw [if_neg h2] at h
   have h2 := eF h2
   cases h
 | c1 x6 x7 x8 x9 x10 =>
  try dsimp only at h
  by_cases h3 : (x6 != 0) = true
  ·rw [if_pos h3] at h
   obtain rfl := sI h
   exact callOK cxOK cxW Tryz.func126 (by kernel_rfl) (f126_e1 x1 x2 x3 x4 x6 x7 x8 x9 x10) ⟨ch1, h3, trivial⟩
  ·rw [if_neg h3] at h
   have h3 := eF h3
   obtain ⟨h4, h⟩ := req_some h
   obtain ⟨x11, h5, h⟩ := bind_some h
   try dsimp only at h
   obtain ⟨x12, h6, h⟩ := bind_some h
   have ch6 := f152_ok F x4 x7 x8 x9 x10 _ h6
   try dsimp only at h
   obtain ⟨x25, h29, h⟩ := bind_some h
   have ch29 := f126_p2_ok F x4 x11 x12 x7 x8 x9 x10 F 1 ([] : List Int) _ h29
   try dsimp only at h
   obtain rfl := sI h
   exact callOK cxOK cxW Tryz.func126 (by kernel_rfl) (f126_e2 x1 x2 x3 x4 x6 x7 x8 x9 x10 x11 x12 x25) ⟨ch1, h3, h4, ⟨x11, h5, rfl⟩, ch6, ch29, (Nat.le_of_eq (Nat.zero_add _)), trivial⟩

theorem f191_ok (F : Nat) (x1 x2 x3 : Int) (r : Bool) (h : f191 F x1 x2 x3 = some r) : f191_C x1 x2 x3 r := by
 unfold f191 at h
 by_cases h1 : (decide (x1 ≥ x2)) = true
 ·rw [if_pos h1] at h
  obtain rfl := sI h
  exact callOK cxOK cxW Tryz.func191 (by kernel_rfl) (f191_e0 x1 x2 x3) ⟨h1, h1, h1, h1, trivial⟩
 ·rw [if_neg h1] at h
  have h1 := eF h1
  obtain rfl := sI h
  exact callOK cxOK cxW Tryz.func191 (by kernel_rfl) (f191_e1 x1 x2 x3) ⟨h1, h1, h1, h1, trivial⟩

theorem f204_p4_ok (F : Nat) (x1 : LI) : ∀ (k : Nat) (x2 x3 : Int) (r : f204_p4_R), f204_p4 F x1 k x2 x3 = some r → f204_p4_P x1 x2 x3 r
 | 0, _, _, _, h => by cases h
 | k + 1, x2, x3, r, h => by
  unfold f204_p4 at h
  by_cases h3 : (decide (x3 < ((List.length x1 : Nat) : Int))) = true
  ·rw [if_pos h3] at h
   obtain ⟨x4, h4, h⟩ := bind_some h
   try dsimp only at h
   obtain ⟨x5, h5, h⟩ := bind_some h
   have ch5 := f191_ok F x4 1 30 _ h5
   try dsimp only at h
   by_cases h6 : x5 = true
   ·rw [if_pos h6] at h
    by_cases h7 : (decide (x4 ≤ x2)) = true
    ·rw [if_pos h7] at h
     obtain rfl := sI h
     exact Lp.out (gRun_ok cxOK (f204_p4_e0 x1 x2 x3 x4 x5) ⟨h3, ⟨(at?_spec h4).1, x4, (at?_spec h4).2, rfl⟩, ch5, (by rw [h6]; rfl), h7, trivial⟩) (by intro hh; cases hh)
    ·rw [if_neg h7] at h
     have h7 := eF h7
     exact Lp.again (gRun_ok cxOK (f204_p4_e1 x1 x2 x3 x4 x5) ⟨h3, ⟨(at?_spec h4).1, x4, (at?_spec h4).2, rfl⟩, ch5, (by rw [h6]; rfl), h7, trivial⟩) (f204_p4_ok F x1 k x4 (w64 (x3 + 1)) r h)
   ·rw [if_neg h6] at h
    have h6 := eF h6
    obtain rfl := sI h
    exact Lp.out (gRun_ok cxOK (f204_p4_e2 x1 x2 x3 x4 x5) ⟨h3, ⟨(at?_spec h4).1, x4, (at?_spec h4).2, rfl⟩, ch5, (by rw [h6]; rfl), trivial⟩) (by intro hh; cases hh)
  ·rw [if_neg h3] at h
   have h3 := eF h3
   obtain rfl := sI h
   exact Lp.out (gRun_ok cxOK (f204_p4_e3 x1 x2 x3) ⟨h3, trivial⟩) (by intro hh; cases hh)
theorem f204_ok (F : Nat) (x1 : LI) (r : Int) (h : f204 F x1 = some r) : f204_C x1 r := by
 unfold f204 at h
 by_cases h1 : (((List.length x1 : Nat) : Int) == 0) = true
 ·rw [if_pos h1] at h
  obtain rfl := sI h
  exact callOK cxOK cxW Tryz.func204 (by kernel_rfl) (f204_e0 x1) ⟨h1, trivial⟩
 ·rw [if_neg h1] at h
  have h1 := eF h1
  by_cases h2 : (decide (((List.length x1 : Nat) : Int) > 5)) = true
  ·rw [if_pos h2] at h
   obtain rfl := sI h
   exact callOK cxOK cxW Tryz.func204 (by kernel_rfl) (f204_e1 x1) ⟨h1, h2, trivial⟩
  ·rw [if_neg h2] at h
   have h2 := eF h2
   obtain ⟨rh8, h8, h⟩ := bind_some h
   have ch8 := f204_p4_ok F x1 F 0 0 _ h8
   cases rh8 with
   | c0 x6 =>
    try dsimp only at h
    obtain rfl := sI h
    exact callOK cxOK cxW Tryz.func204 (by kernel_rfl) (f204_e2 x1 x6) ⟨h1, h2, ch8, trivial⟩
   | c1 =>
    try dsimp only at h
    obtain rfl := sI h
    exact callOK cxOK cxW Tryz.func204 (by kernel_rfl) (f204_e3 x1) ⟨h1, h2, ch8, trivial⟩

theorem f205_p0_ok (F : Nat) (x1 : LI) (r : Unit) (h : f205_p0 F x1 = some r) : f205_p0_P x1 r := by
 unfold f205_p0 at h
 by_cases h1 : (decide (((List.length x1 : Nat) : Int) < 1)) = true
 ·rw [if_pos h1] at h
  cases h
 ·rw [if_neg h1] at h
  have h1 := eF h1
  obtain rfl := sI h
  exact gRun_ok cxOK (f205_p0_e0 x1) ⟨h1, trivial⟩
theorem f205_p2_ok (F : Nat) (x1 : LI) : ∀ (k : Nat) (x3 x4 : Int) (r : Int), f205_p2 F x1 k x3 x4 = some r → f205_p2_P x1 x3 x4 r
 | 0, _, _, _, h => by cases h
 | k + 1, x3, x4, r, h => by
  unfold f205_p2 at h
  by_cases h4 : (decide (x4 < ((List.length x1 : Nat) : Int))) = true
  ·rw [if_pos h4] at h
   obtain ⟨x5, h5, h⟩ := bind_some h
   try dsimp only at h
   exact Lp.again (gRun_ok cxOK (f205_p2_e0 x1 x3 x4 x5) ⟨h4, ⟨(at?_spec h5).1, x5, (at?_spec h5).2, rfl⟩, trivial⟩) (f205_p2_ok F x1 k (if x5 < x3 then x5 else x3) (w64 (x4 + 1)) r h)
  ·rw [if_neg h4] at h
   have h4 := eF h4
   obtain rfl := sI h
   exact Lp.out (gRun_ok cxOK (f205_p2_e1 x1 x3 x4) ⟨h4, trivial⟩) (by intro hh; cases hh)
theorem f205_ok (F : Nat) (x1 : LI) (r : Int) (h : f205 F x1 = some r) : f205_C x1 r := by
 unfold f205 at h
 obtain ⟨rh2, h2, h⟩ := bind_some h
 have ch2 := f205_p0_ok F x1 _ h2
 try dsimp only at h
 obtain ⟨x2, h3, h⟩ := bind_some h
 try dsimp only at h
 obtain ⟨x6, h6, h⟩ := bind_some h
 have ch6 := f205_p2_ok F x1 F x2 1 _ h6
 try dsimp only at h
 obtain rfl := sI h
 exact callOK cxOK cxW Tryz.func205 (by kernel_rfl) (f205_e0 x1 x2 x6) ⟨ch2, ⟨(at?_spec h3).1, x2, (at?_spec h3).2, rfl⟩, ch6, trivial⟩

theorem f206_p0_ok (F : Nat) (x1 : LI) (r : Unit) (h : f206_p0 F x1 = some r) : f206_p0_P x1 r := by
 unfold f206_p0 at h
 by_cases h1 : (decide (((List.length x1 : Nat) : Int) < 1)) = true
 ·rw [if_pos h1] at h
  cases h
 ·rw [if_neg h1] at h
  have h1 := eF h1
  obtain rfl := sI h
  exact gRun_ok cxOK (f206_p0_e0 x1) ⟨h1, trivial⟩
theorem f206_p2_ok (F : Nat) (x1 : LI) : ∀ (k : Nat) (x3 x4 : Int) (r : Int), f206_p2 F x1 k x3 x4 = some r → f206_p2_P x1 x3 x4 r
 | 0, _, _, _, h => by cases h
 | k + 1, x3, x4, r, h => by
  unfold f206_p2 at h
  by_cases h4 : (decide (x4 < ((List.length x1 : Nat) : Int))) = true
  ·rw [if_pos h4] at h
   obtain ⟨x5, h5, h⟩ := bind_some h
   try dsimp only at h
   exact Lp.again (gRun_ok cxOK (f206_p2_e0 x1 x3 x4 x5) ⟨h4, ⟨(at?_spec h5).1, x5, (at?_spec h5).2, rfl⟩, trivial⟩) (f206_p2_ok F x1 k (if x5 > x3 then x5 else x3) (w64 (x4 + 1)) r h)
  ·rw [if_neg h4] at h
   have h4 := eF h4
   obtain rfl := sI h
   exact Lp.out (gRun_ok cxOK (f206_p2_e1 x1 x3 x4) ⟨h4, trivial⟩) (by intro hh; cases hh)
theorem f206_ok (F : Nat) (x1 : LI) (r : Int) (h : f206 F x1 = some r) : f206_C x1 r := by
 unfold f206 at h
 obtain ⟨rh2, h2, h⟩ := bind_some h
 have ch2 := f206_p0_ok F x1 _ h2
 try dsimp only at h
 obtain ⟨x2, h3, h⟩ := bind_some h
 try dsimp only at h
 obtain ⟨x6, h6, h⟩ := bind_some h
 have ch6 := f206_p2_ok F x1 F x2 1 _ h6
 try dsimp only at h
 obtain rfl := sI h
 exact callOK cxOK cxW Tryz.func206 (by kernel_rfl) (f206_e0 x1 x2 x6) ⟨ch2, ⟨(at?_spec h3).1, x2, (at?_spec h3).2, rfl⟩, ch6, trivial⟩

theorem f190_ok (F : Nat) (x1 x2 : LI) (r : (List Int) × (List Int) × Int) (h : f190 F x1 x2 = some r) : f190_C x1 x2 r := by
 unfold f190 at h
 obtain ⟨x3, h1, h⟩ := bind_some h
 have ch1 := f204_ok F x1 _ h1
 try dsimp only at h
 by_cases h2 : (x3 != 0) = true
 ·rw [if_pos h2] at h
  obtain rfl := sI h
  exact callOK cxOK cxW Tryz.func190 (by kernel_rfl) (f190_e0 x1 x2 x3) ⟨ch1, h2, trivial⟩
 ·rw [if_neg h2] at h
  have h2 := eF h2
  by_cases h3 : (((List.length x2 : Nat) : Int) != ((List.length x1 : Nat) : Int)) = true
  ·rw [if_pos h3] at h
   obtain rfl := sI h
   exact callOK cxOK cxW Tryz.func190 (by kernel_rfl) (f190_e1 x1 x2 x3) ⟨ch1, h2, h3, trivial⟩
  ·rw [if_neg h3] at h
   have h3 := eF h3
   obtain ⟨x4, h4, h⟩ := bind_some h
   have ch4 := f205_ok F x2 _ h4
   try dsimp only at h
   by_cases h5 : (decide (x4 < 0)) = true
   ·rw [if_pos h5] at h
    obtain rfl := sI h
    exact callOK cxOK cxW Tryz.func190 (by kernel_rfl) (f190_e2 x1 x2 x3 x4) ⟨ch1, h2, h3, ch4, h5, h5, h5, h5, rfl, trivial⟩
   ·rw [if_neg h5] at h
    have h5 := eF h5
    obtain ⟨x5, h6, h⟩ := bind_some h
    have ch6 := f206_ok F x2 _ h6
    try dsimp only at h
    by_cases h7 : (decide (x5 > 40)) = true
    ·rw [if_pos h7] at h
     obtain rfl := sI h
     exact callOK cxOK cxW Tryz.func190 (by kernel_rfl) (f190_e3 x1 x2 x3 x4 x5) ⟨ch1, h2, h3, ch4, h5, h5, ch6, h5, h5, h7, trivial⟩
    ·rw [if_neg h7] at h
     have h7 := eF h7
     obtain rfl := sI h
     exact callOK cxOK cxW Tryz.func190 (by kernel_rfl) (f190_e4 x1 x2 x3 x4 x5) ⟨ch1, h2, h3, ch4, h5, h5, ch6, h5, h5, h7, trivial⟩

theorem f172_p0_ok (F : Nat) (x6 : Int) (x7 : Bool) (x4 x5 : LI) (r : Int) (h : f172_p0 F x6 x7 x4 x5 = some r) : f172_p0_P x6 x7 x4 x5 r := by
 unfold f172_p0 at h
 by_cases h4 : x7 = true
 ·rw [if_pos h4] at h
  obtain rfl := sI h
  exact gRun_ok cxOK (f172_p0_e0 x4 x5 x6 x7) ⟨(by rw [h4]; rfl), trivial⟩
 ·rw [if_neg h4] at h
  have h4 := eF h4
  obtain rfl := sI h
  exact gRun_ok cxOK (f172_p0_e1 x4 x5 x6 x7) ⟨(by rw [h4]; rfl), trivial⟩
theorem f172_ok (F : Nat) (x1 x2 : LI) (x3 : Int) (r : (List Int) × (List Int) × Int) (h : f172 F x1 x2 x3 = some r) : f172_C x1 x2 x3 r := by
 unfold f172 at h
 obtain ⟨rh1, h1, h⟩ := bind_some h
 have ch1 := f190_ok F x1 x2 _ h1
 obtain ⟨x4, x5, x6⟩ := rh1
 try dsimp only at h
 by_cases h2 : (x6 == 0) = true
 ·rw [if_pos h2] at h
  obtain ⟨x7, h3, h⟩ := bind_some h
  have ch3 := f191_ok F x3 0 1000 _ h3
  try dsimp only at h
  obtain ⟨x8, h5, h⟩ := bind_some h
  have ch5 := f172_p0_ok F x6 x7 x4 x5 _ h5
  try dsimp only at h
  obtain rfl := sI h
  exact callOK cxOK cxW Tryz.func172 (by kernel_rfl) (f172_e0 x1 x2 x3 x4 x5 x6 x7 x8) ⟨ch1, h2, h2, ch3, h2, h2, ch5, trivial⟩
 ·rw [if_neg h2] at h
  have h2 := eF h2
  obtain rfl := sI h
  exact callOK cxOK cxW Tryz.func172 (by kernel_rfl) (f172_e1 x1 x2 x3 x4 x5 x6) ⟨ch1, h2, h2, h2, h2, rfl, trivial⟩

theorem f192_1_ok (F : Nat) (x1 : Int) (x2 : LI) (x3 x4 x5 : Int) (r : Int) (h : f192_1 F x1 x2 x3 x4 x5 = some r) : f192_1_C x1 x2 x3 x4 x5 r := by
 unfold f192_1 at h
 obtain ⟨x6, h1, h⟩ := bind_some h
 try dsimp only at h
 obtain rfl := sI h
 exact callOK cxOK cxW Tryz.func192 (by kernel_rfl) (f192_1_e0 x1 x2 x3 x4 x5 x6) ⟨⟨(at?_spec h1).1, x6, (at?_spec h1).2, rfl⟩, trivial⟩

theorem f173_p1_ok (F : Nat) (x3 : Int) (x1 x2 : LI) : ∀ (k : Nat) (x6 : Int) (x5 : LI) (r : (List Int)), f173_p1 F x3 x1 x2 k x6 x5 = some r → f173_p1_P x3 x1 x2 x6 x5 r
 | 0, _, _, _, h => by cases h
 | k + 1, x6, x5, r, h => by
  unfold f173_p1 at h
  by_cases h5 : (decide (x6 < (((Int.toNat (w64 (x3 + 1))) : Nat) : Int))) = true
  ·rw [if_pos h5] at h
   obtain ⟨h6, h⟩ := req_some h
   obtain ⟨h7, h⟩ := req_some h
   exact Lp.again (gRun_ok cxOK (f173_p1_e0 x1 x2 x3 x5 x6) ⟨h5, h6, h7, trivial⟩) (f173_p1_ok F x3 x1 x2 k (w64 (x6 + 1)) (List.set x5 (0 + (Int.toNat x6)) 1001) r h)
  ·rw [if_neg h5] at h
   have h5 := eF h5
   obtain rfl := sI h
   exact Lp.out (gRun_ok cxOK (f173_p1_e1 x1 x2 x3 x5 x6) ⟨h5, trivial⟩) (by intro hh; cases hh)
theorem f173_p17_17_ok (F : Nat) (x3 : Int) (x1 : LI) (x134 x137 : Int) (x136 x167 : Int) (x2 x135 : LI) (x133 : LL) (x179 x180 : LI) (x182 : Int) : ∀ (k : Nat) (x183 : LI) (r : (List Int)), f173_p17_17 F x3 x1 x134 x137 x136 x167 x2 x135 x133 x179 x180 x182 k x183 = some r → f173_p17_17_P x3 x1 x134 x137 x136 x167 x2 x135 x133 x179 x180 x182 x183 r
 | 0, _, _, h => by cases h
 | k + 1, x183, r, h => by
  unfold f173_p17_17 at h
  by_cases h343 : (decide ((((List.length x183) : Nat) : Int) > 0)) = true
  ·rw [if_pos h343] at h
   obtain ⟨h344, h⟩ := req_some h
   obtain ⟨x184, h345, h⟩ := bind_some h
   try dsimp only at h
   obtain ⟨x185, h346, h⟩ := bind_some h
   have ch346 := f192_1_ok F x184 x135 x136 x167 x182 _ h346
   try dsimp only at h
   obtain ⟨x186, h347, h⟩ := bind_some h
   have ch347 := f192_1_ok F x182 x135 x136 x167 x182 _ h347
   try dsimp only at h
   by_cases h348 : (decide (x185 ≥ x186)) = true
   ·rw [if_pos h348] at h
    obtain ⟨h349, h⟩ := req_some h
    obtain ⟨h350, h⟩ := req_some h
    exact Lp.again (gRun_ok cxOK (f173_p17_17_e0 x1 x2 x3 x133 x134 x135 x136 x137 x167 x179 x180 x182 x183 x184 x185 x186) ⟨h343, h343, h343, h343, h343, h343, h344, h343, ⟨x184, h345, rfl⟩, h343, ch346, h343, h343, h343, ch347, h343, h343, h348, h349, (Nat.le_refl _), h350, trivial⟩) (f173_p17_17_ok F x3 x1 x134 x137 x136 x167 x2 x135 x133 x179 x180 x182 k (List.drop 0 (List.take (Int.toNat (w64 ((((List.length x183) : Nat) : Int) - 1))) x183)) r h)
   ·rw [if_neg h348] at h
    have h348 := eF h348
    obtain rfl := sI h
    exact Lp.out (gRun_ok cxOK (f173_p17_17_e1 x1 x2 x3 x133 x134 x135 x136 x137 x167 x179 x180 x182 x183 x184 x185 x186) ⟨h343, h343, h343, h343, h343, h343, h344, h343, ⟨x184, h345, rfl⟩, h343, ch346, h343, h343, h343, ch347, h343, h343, h348, trivial⟩) (by intro hh; cases hh)
  ·rw [if_neg h343] at h
   have h343 := eF h343
   obtain rfl := sI h
   exact Lp.out (gRun_ok cxOK (f173_p17_17_e2 x1 x2 x3 x133 x134 x135 x136 x137 x167 x179 x180 x182 x183) ⟨h343, h343, h343, h343, h343, h343, h343, h343, h343, h343, h343, h343, h343, rfl, trivial⟩) (by intro hh; cases hh)
theorem f173_p20_17_ok (F : Nat) (x3 : Int) (x1 : LI) (x134 x137 : Int) (x187 : LI) (x182 x136 : Int) (x167 x188 : Int) (x2 x135 : LI) (x133 : LL) (x179 x180 : LI) (r : (List Int)) (h : f173_p20_17 F x3 x1 x134 x137 x187 x182 x136 x167 x188 x2 x135 x133 x179 x180 = some r) : f173_p20_17_P x3 x1 x134 x137 x187 x182 x136 x167 x188 x2 x135 x133 x179 x180 r := by
 unfold f173_p20_17 at h
 by_cases h355 : (decide (x188 < (w64 (x182 - x137)))) = true
 ·rw [if_pos h355] at h
  obtain ⟨h356, h⟩ := req_some h
  obtain ⟨h357, h⟩ := req_some h
  obtain rfl := sI h
  exact gRun_ok cxOK (f173_p20_17_e0 x1 x2 x3 x133 x134 x135 x136 x137 x167 x179 x180 x182 x187 x188) ⟨h355, h356, (Nat.le_refl _), h357, trivial⟩
 ·rw [if_neg h355] at h
  have h355 := eF h355
  obtain rfl := sI h
  exact gRun_ok cxOK (f173_p20_17_e1 x1 x2 x3 x133 x134 x135 x136 x137 x167 x179 x180 x182 x187 x188) ⟨h355, trivial⟩
theorem f173_p13_5_ok (F : Nat) (x3 : Int) (x1 : LI) (x134 x137 : Int) (x136 x167 : Int) (x2 x135 : LI) (x133 : LL) : ∀ (k : Nat) (x179 x180 : LI) (x182 : Int) (x181 : LI) (r : (List Int) × (List Int)), f173_p13_5 F x3 x1 x134 x137 x136 x167 x2 x135 x133 k x179 x180 x182 x181 = some r → f173_p13_5_P x3 x1 x134 x137 x136 x167 x2 x135 x133 x179 x180 x182 x181 r
 | 0, _, _, _, _, _, h => by cases h
 | k + 1, x179, x180, x182, x181, r, h => by
  unfold f173_p13_5 at h
  by_cases h342 : (decide ((w64 (x167 + (w64 (x182 * x136)))) ≤ x3)) = true
  ·rw [if_pos h342] at h
   obtain ⟨x187, h351, h⟩ := bind_some h
   have ch351 := f173_p17_17_ok F x3 x1 x134 x137 x136 x167 x2 x135 x133 x179 x180 x182 F x181 _ h351
   try dsimp only at h
   obtain ⟨h352, h⟩ := req_some h
   obtain ⟨h353, h⟩ := req_some h
   obtain ⟨x188, h354, h⟩ := bind_some h
   try dsimp only at h
   obtain ⟨x189, h358, h⟩ := bind_some h
   have ch358 := f173_p20_17_ok F x3 x1 x134 x137 x187 x182 x136 x167 x188 x2 x135 x133 x179 x180 _ h358
   try dsimp only at h
   obtain ⟨h359, h⟩ := req_some h
   obtain ⟨x190, h360, h⟩ := bind_some h
   try dsimp only at h
   obtain ⟨x191, h361, h⟩ := bind_some h
   have ch361 := f192_1_ok F x190 x135 x136 x167 x182 _ h361
   try dsimp only at h
   obtain ⟨h362, h⟩ := req_some h
   obtain ⟨h363, h⟩ := req_some h
   obtain ⟨h364, h⟩ := req_some h
   exact Lp.again (gRun_ok cxOK (f173_p13_5_e0 x1 x2 x3 x133 x134 x135 x136 x137 x167 x179 x180 x181 x182 x187 x188 x189 x190 x191) ⟨h342, ch351, h352, rfl, h353, ⟨x188, h354, rfl⟩, ch358, h359, ⟨x190, h360, rfl⟩, ch361, h359, ⟨x190, h360, rfl⟩, h362, h363, h362, h364, trivial⟩) (f173_p13_5_ok F x3 x1 x134 x137 x136 x167 x2 x135 x133 k (List.set x179 (0 + (Int.toNat (w64 (x167 + (w64 (x182 * x136)))))) (if x191 < 1001 then x191 else 1001)) (List.set x180 (0 + (Int.toNat (w64 (x167 + (w64 (x182 * x136)))))) (w64 (x182 - x190))) (w64 (x182 + 1)) x189 r h)
  ·rw [if_neg h342] at h
   have h342 := eF h342
   obtain rfl := sI h
   exact Lp.out (gRun_ok cxOK (f173_p13_5_e1 x1 x2 x3 x133 x134 x135 x136 x137 x167 x179 x180 x181 x182) ⟨h342, trivial⟩) (by intro hh; cases hh)
theorem f173_p9_2_ok (F : Nat) (x3 : Int) (x1 : LI) (x134 x137 x136 : Int) (x2 x135 : LI) (x133 : LL) : ∀ (k : Nat) (x167 : Int) (x165 x166 : LI) (r : (List Int) × (List Int)), f173_p9_2 F x3 x1 x134 x137 x136 x2 x135 x133 k x167 x165 x166 = some r → f173_p9_2_P x3 x1 x134 x137 x136 x2 x135 x133 x167 x165 x166 r
 | 0, _, _, _, _, h => by cases h
 | k + 1, x167, x165, x166, r, h => by
  unfold f173_p9_2 at h
  by_cases h311 : (decide (x167 < (if (w64 (x3 + 1)) < x136 then (w64 (x3 + 1)) else x136))) = true
  ·rw [if_pos h311] at h
   obtain ⟨rh365, h365, h⟩ := bind_some h
   have ch365 := f173_p13_5_ok F x3 x1 x134 x137 x136 x167 x2 x135 x133 F x165 x166 0 ([] : List Int) _ h365
   obtain ⟨x192, x193⟩ := rh365
   try dsimp only at h
   exact Lp.again (gRun_ok cxOK (f173_p9_2_e0 x1 x2 x3 x133 x134 x135 x136 x137 x165 x166 x167 x192 x193) ⟨h311, ch365, trivial⟩) (f173_p9_2_ok F x3 x1 x134 x137 x136 x2 x135 x133 k (w64 (x167 + 1)) x192 x193 r h)
  ·rw [if_neg h311] at h
   have h311 := eF h311
   obtain rfl := sI h
   exact Lp.out (gRun_ok cxOK (f173_p9_2_e1 x1 x2 x3 x133 x134 x135 x136 x137 x165 x166 x167) ⟨h311, trivial⟩) (by intro hh; cases hh)
theorem f173_p5_ok (F : Nat) (x3 : Int) (x1 x2 : LI) : ∀ (k : Nat) (x134 : Int) (x135 : LI) (x133 : LL) (r : (List Int) × (List (List Int))), f173_p5 F x3 x1 x2 k x134 x135 x133 = some r → f173_p5_P x3 x1 x2 x134 x135 x133 r
 | 0, _, _, _, _, h => by cases h
 | k + 1, x134, x135, x133, r, h => by
  unfold f173_p5 at h
  by_cases h253 : (decide (x134 ≥ 0)) = true
  ·rw [if_pos h253] at h
   obtain ⟨x136, h254, h⟩ := bind_some h
   try dsimp only at h
   obtain ⟨x137, h255, h⟩ := bind_some h
   try dsimp only at h
   obtain ⟨h256, h⟩ := req_some h
   obtain ⟨rh366, h366, h⟩ := bind_some h
   have ch366 := f173_p9_2_ok F x3 x1 x134 x137 x136 x2 x135 x133 F 0 (List.replicate (Int.toNat (w64 (x3 + 1))) (0 : Int)) (List.replicate (Int.toNat (w64 (x3 + 1))) (0 : Int)) _ h366
   obtain ⟨x194, x195⟩ := rh366
   try dsimp only at h
   obtain ⟨h369, h⟩ := req_some h
   obtain ⟨h370, h⟩ := req_some h
   obtain ⟨h371, h⟩ := req_some h
   obtain ⟨h372, h⟩ := req_some h
   exact Lp.again (gRun_ok cxOK (f173_p5_e0 x1 x2 x3 x133 x134 x135 x136 x137 x194 x195) ⟨h253, ⟨(at?_spec h254).1, x136, (at?_spec h254).2, rfl⟩, ⟨(at?_spec h255).1, x137, (at?_spec h255).2, rfl⟩, h256, h256, ch366, h369, h370, h371, h372, trivial⟩) (f173_p5_ok F x3 x1 x2 k (w64 (x134 - 1)) (List.drop 0 (List.take (0 + (Int.toNat (w64 (x3 + 1)))) x194)) (List.set x133 (0 + (Int.toNat x134)) (List.drop 0 (List.take (0 + (Int.toNat (w64 (x3 + 1)))) x195))) r h)
  ·rw [if_neg h253] at h
   have h253 := eF h253
   obtain rfl := sI h
   exact Lp.out (gRun_ok cxOK (f173_p5_e1 x1 x2 x3 x133 x134 x135) ⟨h253, trivial⟩) (by intro hh; cases hh)
theorem f173_p23_ok (F : Nat) (x1 x2 : LI) (x197 : LL) : ∀ (k : Nat) (x205 x206 : Int) (x204 : LI) (r : (List Int)), f173_p23 F x1 x2 x197 k x205 x206 x204 = some r → f173_p23_P x1 x2 x197 x205 x206 x204 r
 | 0, _, _, _, _, h => by cases h
 | k + 1, x205, x206, x204, r, h => by
  unfold f173_p23 at h
  by_cases h382 : (decide (x206 < (((Int.toNat ((List.length x1 : Nat) : Int)) : Nat) : Int))) = true
  ·rw [if_pos h382] at h
   obtain ⟨h383, h⟩ := req_some h
   obtain ⟨x207, h384, h⟩ := bind_some h
   try dsimp only at h
   obtain ⟨x208, h385, h⟩ := bind_some h
   try dsimp only at h
   obtain ⟨h386, h⟩ := req_some h
   obtain ⟨x209, h387, h⟩ := bind_some h
   try dsimp only at h
   exact Lp.again (gRun_ok cxOK (f173_p23_e0 x1 x2 x197 x204 x205 x206 x207 x208 x209) ⟨h382, h383, ⟨x207, h384, rfl⟩, ⟨(at?_spec h385).1, x208, (at?_spec h385).2, rfl⟩, h386, rfl, ⟨(at?_spec h385).1, x208, (at?_spec h385).2, rfl⟩, ⟨(at?_spec h387).1, x209, (at?_spec h387).2, rfl⟩, trivial⟩) (f173_p23_ok F x1 x2 x197 k (w64 (x205 - (w64 (x208 * x209)))) (w64 (x206 + 1)) (x204 ++ ([x208] : List Int)) r h)
  ·rw [if_neg h382] at h
   have h382 := eF h382
   obtain rfl := sI h
   exact Lp.out (gRun_ok cxOK (f173_p23_e1 x1 x2 x197 x204 x205 x206) ⟨h382, trivial⟩) (by intro hh; cases hh)
theorem f173_ok (F : Nat) (x1 x2 : LI) (x3 : Int) (r : (List Int) × Int) (h : f173 F x1 x2 x3 = some r) : f173_C x1 x2 x3 r := by
 unfold f173 at h
 obtain ⟨h1, h⟩ := req_some h
 obtain ⟨x7, h8, h⟩ := bind_some h
 have ch8 := f173_p1_ok F x3 x1 x2 F 0 (List.replicate (Int.toNat (w64 (x3 + 1))) (0 : Int)) _ h8
 try dsimp only at h
 obtain ⟨h9, h⟩ := req_some h
 obtain ⟨h10, h⟩ := req_some h
 obtain ⟨h11, h⟩ := req_some h
 obtain ⟨h252, h⟩ := req_some h
 obtain ⟨rh373, h373, h⟩ := bind_some h
 have ch373 := f173_p5_ok F x3 x1 x2 F (w64 (((List.length x1 : Nat) : Int) - 1)) (List.drop 0 (List.take (0 + (Int.toNat (w64 (x3 + 1)))) (List.set x7 0 0))) (List.replicate (Int.toNat ((List.length x1 : Nat) : Int)) ([] : (List Int))) _ h373
 obtain ⟨x196, x197⟩ := rh373
 try dsimp only at h
 obtain ⟨x198, h374, h⟩ := bind_some h
 try dsimp only at h
 by_cases h375 : (x198 == 1001) = true
 ·rw [if_pos h375] at h
  obtain rfl := sI h
  exact callOK cxOK cxW Tryz.func173 (by kernel_rfl) (f173_e0 x1 x2 x3 x7 x196 x197 x198) ⟨h1, ch8, h9, h10, h11, h252, h252, ch373, ⟨(at?_spec h374).1, x198, (at?_spec h374).2, rfl⟩, h375, trivial⟩
 ·rw [if_neg h375] at h
  have h375 := eF h375
  obtain ⟨x210, h388, h⟩ := bind_some h
  have ch388 := f173_p23_ok F x1 x2 x197 F x3 0 ([] : List Int) _ h388
  try dsimp only at h
  obtain rfl := sI h
  exact callOK cxOK cxW Tryz.func173 (by kernel_rfl) (f173_e1 x1 x2 x3 x7 x196 x197 x198 x210) ⟨h1, ch8, h9, h10, h11, h252, h252, ch373, ⟨(at?_spec h374).1, x198, (at?_spec h374).2, rfl⟩, h375, ch388, (Nat.le_of_eq (Nat.zero_add _)), trivial⟩

theorem f154_ok (F : Nat) (x1 x2 : LI) (x3 : Int) (r : (List Int) × Int) (h : f154 F x1 x2 x3 = some r) : f154_C x1 x2 x3 r := by
 unfold f154 at h
 obtain ⟨rh1, h1, h⟩ := bind_some h
 have ch1 := f172_ok F x1 x2 x3 _ h1
 obtain ⟨x4, x5, x6⟩ := rh1
 try dsimp only at h
 by_cases h2 : (x6 != 0) = true
 ·rw [if_pos h2] at h
  obtain rfl := sI h
  exact callOK cxOK cxW Tryz.func154 (by kernel_rfl) (f154_e0 x1 x2 x3 x4 x5 x6) ⟨ch1, h2, trivial⟩
 ·rw [if_neg h2] at h
  have h2 := eF h2
  obtain ⟨rh3, h3, h⟩ := bind_some h
  have ch3 := f173_ok F x4 x5 x3 _ h3
  obtain ⟨x7, x8⟩ := rh3
  try dsimp only at h
  obtain rfl := sI h
  exact callOK cxOK cxW Tryz.func154 (by kernel_rfl) (f154_e1 x1 x2 x3 x4 x5 x6 x7 x8) ⟨ch1, h2, ch3, trivial⟩

theorem f195_ok (F : Nat) (x1 x2 x3 : Int) (r : Bool) (h : f195 F x1 x2 x3 = some r) : f195_C x1 x2 x3 r := by
 unfold f195 at h
 by_cases h1 : (decide (x1 ≤ x2)) = true
 ·rw [if_pos h1] at h
  obtain rfl := sI h
  exact callOK cxOK cxW Tryz.func195 (by kernel_rfl) (f195_e0 x1 x2 x3) ⟨h1, h1, h1, h1, trivial⟩
 ·rw [if_neg h1] at h
  have h1 := eF h1
  obtain rfl := sI h
  exact callOK cxOK cxW Tryz.func195 (by kernel_rfl) (f195_e1 x1 x2 x3) ⟨h1, h1, h1, h1, trivial⟩

theorem f194_ok (F : Nat) (x1 x2 : Int) (r : Bool) (h : f194 F x1 x2 = some r) : f194_C x1 x2 r := by
 unfold f194 at h
 obtain ⟨x3, h1, h⟩ := bind_some h
 have ch1 := f195_ok F 0 x1 (w64 (x2 - 1)) _ h1
 try dsimp only at h
 obtain rfl := sI h
 exact callOK cxOK cxW Tryz.func194 (by kernel_rfl) (f194_e0 x1 x2 x3) ⟨ch1, trivial⟩

theorem f207_1_p1_ok (F : Nat) (x1 : LI) (x2 : Int) : ∀ (k : Nat) (x3 : Int) (r : f207_1_p1_R), f207_1_p1 F x1 x2 k x3 = some r → f207_1_p1_P x1 x2 x3 r
 | 0, _, _, h => by cases h
 | k + 1, x3, r, h => by
  unfold f207_1_p1 at h
  by_cases h1 : (decide (x3 < ((List.length x1 : Nat) : Int))) = true
  ·rw [if_pos h1] at h
   obtain ⟨x4, h2, h⟩ := bind_some h
   try dsimp only at h
   obtain ⟨x5, h3, h⟩ := bind_some h
   have ch3 := f194_ok F x4 x2 _ h3
   try dsimp only at h
   by_cases h4 : x5 = true
   ·rw [if_pos h4] at h
    obtain rfl := sI h
    exact Lp.out (gRun_ok cxOK (f207_1_p1_e0 x1 x2 x3 x4 x5) ⟨h1, ⟨(at?_spec h2).1, x4, (at?_spec h2).2, rfl⟩, ch3, h4, trivial⟩) (by intro hh; cases hh)
   ·rw [if_neg h4] at h
    have h4 := eF h4
    exact Lp.again (gRun_ok cxOK (f207_1_p1_e1 x1 x2 x3 x4 x5) ⟨h1, ⟨(at?_spec h2).1, x4, (at?_spec h2).2, rfl⟩, ch3, h4, trivial⟩) (f207_1_p1_ok F x1 x2 k (w64 (x3 + 1)) r h)
  ·rw [if_neg h1] at h
   have h1 := eF h1
   obtain rfl := sI h
   exact Lp.out (gRun_ok cxOK (f207_1_p1_e2 x1 x2 x3) ⟨h1, trivial⟩) (by intro hh; cases hh)
theorem f207_1_ok (F : Nat) (x1 : LI) (x2 : Int) (r : Int) (h : f207_1 F x1 x2 = some r) : f207_1_C x1 x2 r := by
 unfold f207_1 at h
 obtain ⟨rh5, h5, h⟩ := bind_some h
 have ch5 := f207_1_p1_ok F x1 x2 F 0 _ h5
 cases rh5 with
 | c0 x6 =>
  try dsimp only at h
  obtain rfl := sI h
  exact callOK cxOK cxW Tryz.func207 (by kernel_rfl) (f207_1_e0 x1 x2 x6) ⟨ch5, trivial⟩
 | c1 =>
  try dsimp only at h
  obtain rfl := sI h
  exact callOK cxOK cxW Tryz.func207 (by kernel_rfl) (f207_1_e1 x1 x2) ⟨ch5, trivial⟩

theorem f193_1_ok (F : Nat) (x1 : LI) (x2 : Int) (r : Bool) (h : f193_1 F x1 x2 = some r) : f193_1_C x1 x2 r := by
 unfold f193_1 at h
 obtain ⟨x3, h1, h⟩ := bind_some h
 have ch1 := f207_1_ok F x1 x2 _ h1
 try dsimp only at h
 obtain rfl := sI h
 exact callOK cxOK cxW Tryz.func193 (by kernel_rfl) (f193_1_e0 x1 x2 x3) ⟨ch1, trivial⟩

theorem f174_p5_ok (F : Nat) (x1 : LI) : ∀ (k : Nat) (x5 x6 : Int) (r : Int), f174_p5 F x1 k x5 x6 = some r → f174_p5_P x1 x5 x6 r
 | 0, _, _, _, h => by cases h
 | k + 1, x5, x6, r, h => by
  unfold f174_p5 at h
  by_cases h7 : (decide (x5 < ((List.length x1 : Nat) : Int))) = true
  ·rw [if_pos h7] at h
   obtain ⟨x7, h8, h⟩ := bind_some h
   try dsimp only at h
   exact Lp.again (gRun_ok cxOK (f174_p5_e0 x1 x5 x6 x7) ⟨h7, ⟨(at?_spec h8).1, x7, (at?_spec h8).2, rfl⟩, trivial⟩) (f174_p5_ok F x1 k (w64 (x5 + 1)) (w64 (x6 - x7)) r h)
  ·rw [if_neg h7] at h
   have h7 := eF h7
   obtain rfl := sI h
   exact Lp.out (gRun_ok cxOK (f174_p5_e1 x1 x5 x6) ⟨h7, trivial⟩) (by intro hh; cases hh)
theorem f174_ok (F : Nat) (x1 : LI) (r : Int) (h : f174 F x1 = some r) : f174_C x1 r := by
 unfold f174 at h
 by_cases h1 : (((List.length x1 : Nat) : Int) == 0) = true
 ·rw [if_pos h1] at h
  obtain rfl := sI h
  exact callOK cxOK cxW Tryz.func174 (by kernel_rfl) (f174_e0 x1) ⟨h1, trivial⟩
 ·rw [if_neg h1] at h
  have h1 := eF h1
  by_cases h2 : (decide (((List.length x1 : Nat) : Int) > 7)) = true
  ·rw [if_pos h2] at h
   obtain rfl := sI h
   exact callOK cxOK cxW Tryz.func174 (by kernel_rfl) (f174_e1 x1) ⟨h1, h2, trivial⟩
  ·rw [if_neg h2] at h
   have h2 := eF h2
   obtain ⟨x2, h3, h⟩ := bind_some h
   have ch3 := f193_1_ok F x1 ((List.length x1 : Nat) : Int) _ h3
   try dsimp only at h
   by_cases h4 : x2 = true
   ·rw [if_pos h4] at h
    obtain rfl := sI h
    exact callOK cxOK cxW Tryz.func174 (by kernel_rfl) (f174_e2 x1 x2) ⟨h1, h2, ch3, h4, trivial⟩
   ·rw [if_neg h4] at h
    have h4 := eF h4
    obtain ⟨x8, h9, h⟩ := bind_some h
    have ch9 := f174_p5_ok F x1 F 0 ((List.length x1 : Nat) : Int) _ h9
    try dsimp only at h
    by_cases h10 : ((w64 (((List.length x1 : Nat) : Int) - x8)) != (w64 (Int.tdiv (w64 (((List.length x1 : Nat) : Int) * (w64 (((List.length x1 : Nat) : Int) - 1)))) 2))) = true
    ·rw [if_pos h10] at h
     obtain rfl := sI h
     exact callOK cxOK cxW Tryz.func174 (by kernel_rfl) (f174_e3 x1 x2 x8) ⟨h1, h2, ch3, h4, ch9, (by decide), h10, trivial⟩
    ·rw [if_neg h10] at h
     have h10 := eF h10
     obtain rfl := sI h
     exact callOK cxOK cxW Tryz.func174 (by kernel_rfl) (f174_e4 x1 x2 x8) ⟨h1, h2, ch3, h4, ch9, (by decide), h10, trivial⟩

theorem f196_ok (F : Nat) (x1 : Int) (r : Int) (h : f196 F x1 = some r) : f196_C x1 r := by
 unfold f196 at h
 obtain ⟨h1, h⟩ := req_some h
 obtain rfl := sI h
 exact callOK cxOK cxW Tryz.func196 (by kernel_rfl) (f196_e0 x1) ⟨h1, trivial⟩

theorem f176_p1_ok (F : Nat) : ∀ (k : Nat) (x5 : Int) (x4 : LI) (r : (List Int)), f176_p1 F k x5 x4 = some r → f176_p1_P x5 x4 r
 | 0, _, _, _, h => by cases h
 | k + 1, x5, x4, r, h => by
  unfold f176_p1 at h
  by_cases h4 : (x5 != 0) = true
  ·rw [if_pos h4] at h
   obtain ⟨x6, h5, h⟩ := bind_some h
   have ch5 := f196_ok F x5 _ h5
   try dsimp only at h
   obtain ⟨h6, h⟩ := req_some h
   exact Lp.again (gRun_ok cxOK (f176_p1_e0 x4 x5 x6) ⟨h4, ch5, h6, rfl, trivial⟩) (f176_p1_ok F k (iAnd .u8 x5 (IntKind.wrap .u8 (x5 - 1))) (x4 ++ ([x6] : List Int)) r h)
  ·rw [if_neg h4] at h
   have h4 := eF h4
   obtain rfl := sI h
   exact Lp.out (gRun_ok cxOK (f176_p1_e1 x4 x5) ⟨h4, trivial⟩) (by intro hh; cases hh)
theorem f176_ok (F : Nat) (x1 : Int) (r : (List Int)) (h : f176 F x1 = some r) : f176_C x1 r := by
 unfold f176 at h
 obtain ⟨x7, h7, h⟩ := bind_some h
 have ch7 := f176_p1_ok F F x1 ([] : List Int) _ h7
 try dsimp only at h
 obtain rfl := sI h
 exact callOK cxOK cxW Tryz.func176 (by kernel_rfl) (f176_e0 x1 x7) ⟨ch7, (Nat.le_of_eq (Nat.zero_add _)), trivial⟩

theorem f175_p1_ok (F : Nat) (x1 x3 : LI) : ∀ (k : Nat) (x4 x5 : Int) (r : Int), f175_p1 F x1 x3 k x4 x5 = some r → f175_p1_P x1 x3 x4 x5 r
 | 0, _, _, _, h => by cases h
 | k + 1, x4, x5, r, h => by
  unfold f175_p1 at h
  by_cases h2 : (decide (x5 < ((List.length x3 : Nat) : Int))) = true
  ·rw [if_pos h2] at h
   obtain ⟨x6, h3, h⟩ := bind_some h
   try dsimp only at h
   obtain ⟨x7, h4, h⟩ := bind_some h
   try dsimp only at h
   exact Lp.again (gRun_ok cxOK (f175_p1_e0 x1 x3 x4 x5 x6 x7) ⟨h2, ⟨(at?_spec h3).1, x6, (at?_spec h3).2, rfl⟩, ⟨(at?_spec h4).1, x7, (at?_spec h4).2, rfl⟩, trivial⟩) (f175_p1_ok F x1 x3 k (w64 (x4 - x7)) (w64 (x5 + 1)) r h)
  ·rw [if_neg h2] at h
   have h2 := eF h2
   obtain rfl := sI h
   exact Lp.out (gRun_ok cxOK (f175_p1_e1 x1 x3 x4 x5) ⟨h2, trivial⟩) (by intro hh; cases hh)
theorem f175_ok (F : Nat) (x1 : LI) (x2 : Int) (r : Int) (h : f175 F x1 x2 = some r) : f175_C x1 x2 r := by
 unfold f175 at h
 obtain ⟨x3, h1, h⟩ := bind_some h
 have ch1 := f176_ok F x2 _ h1
 try dsimp only at h
 obtain ⟨x8, h5, h⟩ := bind_some h
 have ch5 := f175_p1_ok F x1 x3 F (w64 (Int.tdiv (w64 (((List.length x3 : Nat) : Int) * (w64 (((List.length x3 : Nat) : Int) - 1)))) 2)) 0 _ h5
 try dsimp only at h
 obtain rfl := sI h
 exact callOK cxOK cxW Tryz.func175 (by kernel_rfl) (f175_e0 x1 x2 x3 x8) ⟨ch1, (by decide), ch5, trivial⟩

end Go.Gh.Tz
