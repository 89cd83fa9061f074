/- Tz3F1: printed by wip/tool/gx.py -/
import Derived.Test.YtcaphjiiaclndaaGreatDoorTz3F0
namespace Go.Gh.Tz
set_option linter.unusedVariables false
set_option linter.unusedSimpArgs false
open Go.Proofs

theorem f60_1_p1_ok (F : Nat) (x1 : LI) (x2 : Option (List Int)) : ∀ (k : Nat) (x3 : Int) (r : f60_1_p1_R), f60_1_p1 F x1 x2 k x3 = some r → f60_1_p1_P x1 x2 x3 r
 | 0, _, _, h => by cases h
 | k + 1, x3, r, h => by
  unfold f60_1_p1 at h
  by_cases h1 : (decide (x3 < ((List.length x1 : Nat) : Int))) = true
  ·rw [if_pos h1] at h
   obtain ⟨x4, h2, h⟩ := bind_some h
   try dsimp only at h
   by_cases h3 : (decide (x3 ≥ ((List.length ((x2).getD []) : Nat) : Int))) = true
   ·rw [if_pos h3] at h
    obtain rfl := sI h
    exact Lp.out (gRun_ok cxOK (f60_1_p1_e0 x1 x2 x3 x4) ⟨h1, ⟨(at?_spec h2).1, x4, (at?_spec h2).2, rfl⟩, h3, trivial⟩) (by intro hh; cases hh)
   ·rw [if_neg h3] at h
    have h3 := eF h3
    obtain ⟨x5, h4, h⟩ := bind_some h
    try dsimp only at h
    obtain ⟨x6, h5, h⟩ := bind_some h
    have ch5 := f94_ok F x4 x5 _ h5
    try dsimp only at h
    by_cases h6 : (x6 != 0) = true
    ·rw [if_pos h6] at h
     obtain rfl := sI h
     exact Lp.out (gRun_ok cxOK (f60_1_p1_e1 x1 x2 x3 x4 x5 x6) ⟨h1, ⟨(at?_spec h2).1, x4, (at?_spec h2).2, rfl⟩, h3, ⟨(at?_spec h4).1, x5, (at?_spec h4).2, rfl⟩, ch5, h6, trivial⟩) (by intro hh; cases hh)
    ·rw [if_neg h6] at h
     have h6 := eF h6
     exact Lp.again (gRun_ok cxOK (f60_1_p1_e2 x1 x2 x3 x4 x5 x6) ⟨h1, ⟨(at?_spec h2).1, x4, (at?_spec h2).2, rfl⟩, h3, ⟨(at?_spec h4).1, x5, (at?_spec h4).2, rfl⟩, ch5, h6, trivial⟩) (f60_1_p1_ok F x1 x2 k (w64 (x3 + 1)) r h)
  ·rw [if_neg h1] at h
   have h1 := eF h1
   obtain rfl := sI h
   exact Lp.out (gRun_ok cxOK (f60_1_p1_e3 x1 x2 x3) ⟨h1, trivial⟩) (by intro hh; cases hh)
theorem f60_1_ok (F : Nat) (x1 : LI) (x2 : Option (List Int)) (r : Int) (h : f60_1 F x1 x2 = some r) : f60_1_C x1 x2 r := by
 unfold f60_1 at h
 obtain ⟨rh7, h7, h⟩ := bind_some h
 have ch7 := f60_1_p1_ok F x1 x2 F 0 _ h7
 cases rh7 with
 | c0 x7 =>
  try dsimp only at h
  obtain rfl := sI h
  exact callOK cxOK cxW Tryz.func60 (by kernel_rfl) (f60_1_e0 x1 x2 x7) ⟨ch7, trivial⟩
 | c1 =>
  try dsimp only at h
  by_cases h8 : (decide (((List.length x1 : Nat) : Int) < ((List.length ((x2).getD []) : Nat) : Int))) = true
  ·rw [if_pos h8] at h
   obtain rfl := sI h
   exact callOK cxOK cxW Tryz.func60 (by kernel_rfl) (f60_1_e1 x1 x2) ⟨ch7, h8, trivial⟩
  ·rw [if_neg h8] at h
   have h8 := eF h8
   obtain rfl := sI h
   exact callOK cxOK cxW Tryz.func60 (by kernel_rfl) (f60_1_e2 x1 x2) ⟨ch7, h8, trivial⟩

theorem f155_p6_ok (F : Nat) (x1 : LI) (x3 : Option (List Int)) (x4 : Int) (x6 : LI) (x7 : Int) (r : (Option (List Int))) (h : f155_p6 F x1 x3 x4 x6 x7 = some r) : f155_p6_P x1 x3 x4 x6 x7 r := by
 unfold f155_p6 at h
 by_cases h14 : (decide (x7 < 0)) = true
 ·rw [if_pos h14] at h
  obtain ⟨h15, h⟩ := req_some h
  obtain rfl := sI h
  exact gRun_ok cxOK (f155_p6_e0 x1 x3 x4 x6 x7) ⟨h14, h15, trivial⟩
 ·rw [if_neg h14] at h
  have h14 := eF h14
  obtain rfl := sI h
  exact gRun_ok cxOK (f155_p6_e1 x1 x3 x4 x6 x7) ⟨h14, trivial⟩
theorem f155_p2_ok (F : Nat) (x1 : LI) : ∀ (k : Nat) (x3 : Option (List Int)) (x4 : Int) (r : (Option (List Int))), f155_p2 F x1 k x3 x4 = some r → f155_p2_P x1 x3 x4 r
 | 0, _, _, _, h => by cases h
 | k + 1, x3, x4, r, h => by
  unfold f155_p2 at h
  obtain ⟨h3, h⟩ := req_some h
  by_cases h4 : (decide (x4 < (iShl .u8 1 ((List.length x1 : Nat) : Int)))) = true
  ·rw [if_pos h4] at h
   obtain ⟨x5, h5, h⟩ := bind_some h
   have ch5 := f175_ok F x1 x4 _ h5
   try dsimp only at h
   by_cases h6 : (decide (x5 ≤ 0)) = true
   ·rw [if_pos h6] at h
    exact Lp.again (gRun_ok cxOK (f155_p2_e0 x1 x3 x4 x5) ⟨h3, h4, ch5, h6, trivial⟩) (f155_p2_ok F x1 k x3 (IntKind.wrap .u8 (x4 + 1)) r h)
   ·rw [if_neg h6] at h
    have h6 := eF h6
    obtain ⟨x6, h7, h⟩ := bind_some h
    have ch7 := f176_ok F x4 _ h7
    try dsimp only at h
    by_cases h8 : (Option.isNone x3) = true
    ·rw [if_pos h8] at h
     obtain ⟨h9, h⟩ := req_some h
     exact Lp.again (gRun_ok cxOK (f155_p2_e1 x1 x3 x4 x5 x6) ⟨h3, h4, ch5, h6, ch7, h8, h8, h8, h8, h8, h8, rfl, rfl, rfl, rfl, rfl, rfl, rfl, rfl, rfl, h9, trivial⟩) (f155_p2_ok F x1 k (some x6) (IntKind.wrap .u8 (x4 + 1)) r h)
    ·rw [if_neg h8] at h
     have h8 := eF h8
     by_cases h10 : (decide (((List.length x6 : Nat) : Int) < ((List.length ((x3).getD []) : Nat) : Int))) = true
     ·rw [if_pos h10] at h
      obtain ⟨h11, h⟩ := req_some h
      exact Lp.again (gRun_ok cxOK (f155_p2_e2 x1 x3 x4 x5 x6) ⟨h3, h4, ch5, h6, ch7, h8, h8, h8, h8, h8, h8, h10, h10, h10, h10, h10, h10, h10, h10, rfl, h11, trivial⟩) (f155_p2_ok F x1 k (some x6) (IntKind.wrap .u8 (x4 + 1)) r h)
     ·rw [if_neg h10] at h
      have h10 := eF h10
      by_cases h12 : (((List.length x6 : Nat) : Int) == ((List.length ((x3).getD []) : Nat) : Int)) = true
      ·rw [if_pos h12] at h
       obtain ⟨x7, h13, h⟩ := bind_some h
       have ch13 := f60_1_ok F x6 x3 _ h13
       try dsimp only at h
       obtain ⟨x8, h16, h⟩ := bind_some h
       have ch16 := f155_p6_ok F x1 x3 x4 x6 x7 _ h16
       try dsimp only at h
       exact Lp.again (gRun_ok cxOK (f155_p2_e3 x1 x3 x4 x5 x6 x7 x8) ⟨h3, h4, ch5, h6, ch7, h8, h8, h8, h8, h8, h8, h10, h10, h10, h10, h10, h10, h12, h12, h12, ch13, h12, h10, h12, h10, ch16, trivial⟩) (f155_p2_ok F x1 k x8 (IntKind.wrap .u8 (x4 + 1)) r h)
      ·rw [if_neg h12] at h
       have h12 := eF h12
       exact Lp.again (gRun_ok cxOK (f155_p2_e4 x1 x3 x4 x5 x6) ⟨h3, h4, ch5, h6, ch7, h8, h8, h8, h8, h8, h8, h10, h10, h10, h10, h10, h10, h12, h12, h12, h12, h10, h12, h10, rfl, trivial⟩) (f155_p2_ok F x1 k x3 (IntKind.wrap .u8 (x4 + 1)) r h)
  ·rw [if_neg h4] at h
   have h4 := eF h4
   obtain rfl := sI h
   exact Lp.out (gRun_ok cxOK (f155_p2_e5 x1 x3 x4) ⟨h3, h4, trivial⟩) (by intro hh; cases hh)
theorem f155_ok (F : Nat) (x1 : LI) (r : (List Int) × Int) (h : f155 F x1 = some r) : f155_C x1 r := by
 unfold f155 at h
 obtain ⟨x2, h1, h⟩ := bind_some h
 have ch1 := f174_ok F x1 _ h1
 try dsimp only at h
 by_cases h2 : (x2 != 0) = true
 ·rw [if_pos h2] at h
  obtain rfl := sI h
  exact callOK cxOK cxW Tryz.func155 (by kernel_rfl) (f155_e0 x1 x2) ⟨ch1, h2, trivial⟩
 ·rw [if_neg h2] at h
  have h2 := eF h2
  obtain ⟨x9, h17, h⟩ := bind_some h
  have ch17 := f155_p2_ok F x1 F (none : Option (List Int)) 1 _ h17
  try dsimp only at h
  by_cases h18 : (Option.isNone x9) = true
  ·rw [if_pos h18] at h
   obtain rfl := sI h
   exact callOK cxOK cxW Tryz.func155 (by kernel_rfl) (f155_e1 x1 x2 x9) ⟨ch1, h2, ch17, h18, trivial⟩
  ·rw [if_neg h18] at h
   have h18 := eF h18
   obtain rfl := sI h
   exact callOK cxOK cxW Tryz.func155 (by kernel_rfl) (f155_e2 x1 x2 x9) ⟨ch1, h2, ch17, h18, trivial⟩

theorem f127_ok (F : Nat) (r : Bool) (h : f127 F = some r) : f127_C r := by
 unfold f127 at h
 obtain ⟨x1, h1, h⟩ := bind_some h
 have ch1 := f36_ok F ([2, 5] : List Int) _ h1
 try dsimp only at h
 obtain ⟨x2, h2, h⟩ := bind_some h
 have ch2 := f36_ok F ([3, 2] : List Int) _ h2
 try dsimp only at h
 obtain ⟨rh3, h3, h⟩ := bind_some h
 have ch3 := f154_ok F x1 x2 11 _ h3
 obtain ⟨x3, x4⟩ := rh3
 try dsimp only at h
 obtain ⟨x5, h4, h⟩ := bind_some h
 have ch4 := f36_ok F ([0, 0, 3, 3] : List Int) _ h4
 try dsimp only at h
 obtain ⟨rh5, h5, h⟩ := bind_some h
 have ch5 := f155_ok F x5 _ h5
 obtain ⟨x6, x7⟩ := rh5
 try dsimp only at h
 by_cases h6 : (x4 == 0) = true
 ·rw [if_pos h6] at h
  by_cases h7 : (x7 == 0) = true
  ·rw [if_pos h7] at h
   obtain ⟨x8, h8, h⟩ := bind_some h
   have ch8 := f36_ok F ([3, 1] : List Int) _ h8
   try dsimp only at h
   obtain ⟨x9, h9, h⟩ := bind_some h
   have ch9 := f12_ok F x3 x8 _ h9
   try dsimp only at h
   by_cases h10 : x9 = true
   ·rw [if_pos h10] at h
    obtain ⟨x10, h11, h⟩ := bind_some h
    have ch11 := f36_ok F ([0, 1] : List Int) _ h11
    try dsimp only at h
    obtain ⟨x11, h12, h⟩ := bind_some h
    have ch12 := f12_ok F x6 x10 _ h12
    try dsimp only at h
    obtain rfl := sI h
    exact callOK cxOK cxW Tryz.func127 (by kernel_rfl) (f127_e0 x1 x2 x3 x4 x5 x6 x7 x8 x9 x10 x11) ⟨ch1, ch2, ch3, ch4, ch5, h6, h6, h6, h7, h7, h7, ch8, h7, ch9, h7, h10, h10, h10, ch11, h10, ch12, h10, trivial⟩
   ·rw [if_neg h10] at h
    have h10 := eF h10
    obtain rfl := sI h
    exact callOK cxOK cxW Tryz.func127 (by kernel_rfl) (f127_e1 x1 x2 x3 x4 x5 x6 x7 x8 x9) ⟨ch1, ch2, ch3, ch4, ch5, h6, h6, h6, h7, h7, h7, ch8, h7, ch9, h7, h10, h10, h10, h10, h10, trivial⟩
  ·rw [if_neg h7] at h
   have h7 := eF h7
   obtain rfl := sI h
   exact callOK cxOK cxW Tryz.func127 (by kernel_rfl) (f127_e2 x1 x2 x3 x4 x5 x6 x7) ⟨ch1, ch2, ch3, ch4, ch5, h6, h6, h6, h7, h7, h7, h7, h7, rfl, rfl, rfl, rfl, rfl, trivial⟩
 ·rw [if_neg h6] at h
  have h6 := eF h6
  obtain rfl := sI h
  exact callOK cxOK cxW Tryz.func127 (by kernel_rfl) (f127_e3 x1 x2 x3 x4 x5 x6 x7) ⟨ch1, ch2, ch3, ch4, ch5, h6, h6, h6, rfl, rfl, rfl, rfl, rfl, rfl, rfl, rfl, rfl, rfl, trivial⟩

theorem f99_ok (F : Nat) (r : Bool) (h : f99 F = some r) : f99_C r := by
 unfold f99 at h
 obtain ⟨x1, h1, h⟩ := bind_some h
 have ch1 := f36_ok F ([2, 3, 1, 2, 1, 3] : List Int) _ h1
 try dsimp only at h
 obtain ⟨rh2, h2, h⟩ := bind_some h
 have ch2 := f126_ok F 3 true x1 2 _ h2
 obtain ⟨x2, x3⟩ := rh2
 try dsimp only at h
 by_cases h3 : (x3 == 0) = true
 ·rw [if_pos h3] at h
  obtain ⟨x4, h4, h⟩ := bind_some h
  have ch4 := f36_ok F ([1, 3] : List Int) _ h4
  try dsimp only at h
  obtain ⟨x5, h5, h⟩ := bind_some h
  have ch5 := f12_ok F x2 x4 _ h5
  try dsimp only at h
  by_cases h6 : x5 = true
  ·rw [if_pos h6] at h
   obtain ⟨x6, h7, h⟩ := bind_some h
   have ch7 := f127_ok F _ h7
   try dsimp only at h
   obtain rfl := sI h
   exact callOK cxOK cxW Tryz.func99 (by kernel_rfl) (f99_e0 x1 x2 x3 x4 x5 x6) ⟨ch1, ch2, h3, h3, h3, ch4, h3, ch5, h3, h6, ch7, h6, trivial⟩
  ·rw [if_neg h6] at h
   have h6 := eF h6
   obtain rfl := sI h
   exact callOK cxOK cxW Tryz.func99 (by kernel_rfl) (f99_e1 x1 x2 x3 x4 x5) ⟨ch1, ch2, h3, h3, h3, ch4, h3, ch5, h3, h6, h6, trivial⟩
 ·rw [if_neg h3] at h
  have h3 := eF h3
  obtain rfl := sI h
  exact callOK cxOK cxW Tryz.func99 (by kernel_rfl) (f99_e2 x1 x2 x3) ⟨ch1, ch2, h3, h3, h3, h3, h3, rfl, rfl, trivial⟩

theorem f63_ok (F : Nat) (r : Bool) (h : f63 F = some r) : f63_C r := by
 unfold f63 at h
 obtain ⟨rh1, h1, h⟩ := bind_some h
 have ch1 := f98_ok F ([([9, 5] : List Int), ([8, 3] : List Int), ([4, 4] : List Int)] : List (List Int)) _ h1
 obtain ⟨x1, x2⟩ := rh1
 try dsimp only at h
 by_cases h2 : (x2 == 0) = true
 ·rw [if_pos h2] at h
  obtain ⟨x3, h3, h⟩ := bind_some h
  have ch3 := f36_ok F ([8, 0, 4] : List Int) _ h3
  try dsimp only at h
  obtain ⟨x4, h4, h⟩ := bind_some h
  have ch4 := f12_ok F x1 x3 _ h4
  try dsimp only at h
  by_cases h5 : x4 = true
  ·rw [if_pos h5] at h
   obtain ⟨x5, h6, h⟩ := bind_some h
   have ch6 := f99_ok F _ h6
   try dsimp only at h
   obtain rfl := sI h
   exact callOK cxOK cxW Tryz.func63 (by kernel_rfl) (f63_e0 x1 x2 x3 x4 x5) ⟨ch1, h2, h2, h2, ch3, h2, ch4, h2, h5, ch6, h5, trivial⟩
  ·rw [if_neg h5] at h
   have h5 := eF h5
   obtain rfl := sI h
   exact callOK cxOK cxW Tryz.func63 (by kernel_rfl) (f63_e1 x1 x2 x3 x4) ⟨ch1, h2, h2, h2, ch3, h2, ch4, h2, h5, h5, trivial⟩
 ·rw [if_neg h2] at h
  have h2 := eF h2
  obtain rfl := sI h
  exact callOK cxOK cxW Tryz.func63 (by kernel_rfl) (f63_e2 x1 x2) ⟨ch1, h2, h2, h2, h2, h2, rfl, rfl, trivial⟩

theorem f37_ok (F : Nat) (r : Bool) (h : f37 F = some r) : f37_C r := by
 unfold f37 at h
 obtain ⟨rh1, h1, h⟩ := bind_some h
 have ch1 := f61_ok F 3 ([1] : List Int) _ h1
 obtain ⟨x1, x2⟩ := rh1
 try dsimp only at h
 obtain ⟨rh2, h2, h⟩ := bind_some h
 have ch2 := f62_ok F 3 3 0 _ h2
 obtain ⟨x3, x4⟩ := rh2
 try dsimp only at h
 by_cases h3 : (x2 == 0) = true
 ·rw [if_pos h3] at h
  by_cases h4 : (x4 == 0) = true
  ·rw [if_pos h4] at h
   obtain ⟨x5, h5, h⟩ := bind_some h
   have ch5 := f36_ok F ([2] : List Int) _ h5
   try dsimp only at h
   obtain ⟨x6, h6, h⟩ := bind_some h
   have ch6 := f12_ok F x1 x5 _ h6
   try dsimp only at h
   by_cases h7 : x6 = true
   ·rw [if_pos h7] at h
    by_cases h8 : (x3 == 5) = true
    ·rw [if_pos h8] at h
     obtain ⟨x7, h9, h⟩ := bind_some h
     have ch9 := f63_ok F _ h9
     try dsimp only at h
     obtain rfl := sI h
     exact callOK cxOK cxW Tryz.func37 (by kernel_rfl) (f37_e0 x1 x2 x3 x4 x5 x6 x7) ⟨ch1, ch2, h3, h3, h3, h4, h4, h4, ch5, h4, ch6, h4, h7, h7, h7, h8, ch9, h8, trivial⟩
    ·rw [if_neg h8] at h
     have h8 := eF h8
     obtain rfl := sI h
     exact callOK cxOK cxW Tryz.func37 (by kernel_rfl) (f37_e1 x1 x2 x3 x4 x5 x6) ⟨ch1, ch2, h3, h3, h3, h4, h4, h4, ch5, h4, ch6, h4, h7, h7, h7, h8, h8, trivial⟩
   ·rw [if_neg h7] at h
    have h7 := eF h7
    obtain rfl := sI h
    exact callOK cxOK cxW Tryz.func37 (by kernel_rfl) (f37_e2 x1 x2 x3 x4 x5 x6) ⟨ch1, ch2, h3, h3, h3, h4, h4, h4, ch5, h4, ch6, h4, h7, h7, h7, rfl, rfl, trivial⟩
  ·rw [if_neg h4] at h
   have h4 := eF h4
   obtain rfl := sI h
   exact callOK cxOK cxW Tryz.func37 (by kernel_rfl) (f37_e3 x1 x2 x3 x4) ⟨ch1, ch2, h3, h3, h3, h4, h4, h4, h4, h4, rfl, rfl, rfl, rfl, rfl, trivial⟩
 ·rw [if_neg h3] at h
  have h3 := eF h3
  obtain rfl := sI h
  exact callOK cxOK cxW Tryz.func37 (by kernel_rfl) (f37_e4 x1 x2 x3 x4) ⟨ch1, ch2, h3, h3, h3, rfl, rfl, rfl, rfl, rfl, rfl, rfl, rfl, rfl, rfl, trivial⟩

theorem f15_ok (F : Nat) (r : Bool) (h : f15 F = some r) : f15_C r := by
 unfold f15 at h
 obtain ⟨rh1, h1, h⟩ := bind_some h
 have ch1 := f6_ok F 4 _ h1
 obtain ⟨x1, x2⟩ := rh1
 try dsimp only at h
 by_cases h2 : (x2 == 0) = true
 ·rw [if_pos h2] at h
  obtain ⟨x3, h3, h⟩ := bind_some h
  have ch3 := f36_ok F ([0, 1, 14, 15] : List Int) _ h3
  try dsimp only at h
  obtain ⟨x4, h4, h⟩ := bind_some h
  have ch4 := f12_ok F x1 x3 _ h4
  try dsimp only at h
  by_cases h5 : x4 = true
  ·rw [if_pos h5] at h
   obtain ⟨x5, h6, h⟩ := bind_some h
   have ch6 := f37_ok F _ h6
   try dsimp only at h
   obtain rfl := sI h
   exact callOK cxOK cxW Tryz.func15 (by kernel_rfl) (f15_e0 x1 x2 x3 x4 x5) ⟨ch1, h2, h2, h2, ch3, h2, ch4, h2, h5, ch6, h5, trivial⟩
  ·rw [if_neg h5] at h
   have h5 := eF h5
   obtain rfl := sI h
   exact callOK cxOK cxW Tryz.func15 (by kernel_rfl) (f15_e1 x1 x2 x3 x4) ⟨ch1, h2, h2, h2, ch3, h2, ch4, h2, h5, h5, trivial⟩
 ·rw [if_neg h2] at h
  have h2 := eF h2
  obtain rfl := sI h
  exact callOK cxOK cxW Tryz.func15 (by kernel_rfl) (f15_e2 x1 x2) ⟨ch1, h2, h2, h2, h2, h2, rfl, rfl, trivial⟩

theorem f3_p6_ok (F : Nat) (x1 : Int) (x4 : LI) (x7 : LI) (x3 : LI) (x6 : Int) : ∀ (k : Nat) (x16 x17 : Int) (x15 : LL) (r : f3_p6_R), f3_p6 F x1 x4 x7 x3 x6 k x16 x17 x15 = some r → f3_p6_P x1 x4 x7 x3 x6 x16 x17 x15 r
 | 0, _, _, _, _, h => by cases h
 | k + 1, x16, x17, x15, r, h => by
  unfold f3_p6 at h
  by_cases h23 : (decide (x16 < ((List.length x7 : Nat) : Int))) = true
  ·rw [if_pos h23] at h
   obtain ⟨x18, h24, h⟩ := bind_some h
   try dsimp only at h
   by_cases h25 : (decide (x18 < 0)) = true
   ·rw [if_pos h25] at h
    obtain rfl := sI h
    exact Lp.out (gRun_ok cxOK (f3_p6_e0 x1 x3 x4 x6 x7 x15 x16 x17 x18) ⟨h23, ⟨(at?_spec h24).1, x18, (at?_spec h24).2, rfl⟩, h25, h25, h25, h25, h25, rfl, trivial⟩) (by intro hh; cases hh)
   ·rw [if_neg h25] at h
    have h25 := eF h25
    obtain ⟨h26, h⟩ := req_some h
    by_cases h27 : (decide (x18 ≥ (iShl .i64 1 (w64 (1 + (Int.tmod (w64 (x1)) 4)))))) = true
    ·rw [if_pos h27] at h
     obtain rfl := sI h
     exact Lp.out (gRun_ok cxOK (f3_p6_e1 x1 x3 x4 x6 x7 x15 x16 x17 x18) ⟨h23, ⟨(at?_spec h24).1, x18, (at?_spec h24).2, rfl⟩, h25, h25, h25, h26, h25, h25, h27, trivial⟩) (by intro hh; cases hh)
    ·rw [if_neg h27] at h
     have h27 := eF h27
     obtain ⟨x19, h28, h⟩ := bind_some h
     have ch28 := f5_ok F x18 (w64 (1 + (Int.tmod (w64 (x1)) 4))) _ h28
     try dsimp only at h
     obtain ⟨h29, h⟩ := req_some h
     exact Lp.again (gRun_ok cxOK (f3_p6_e2 x1 x3 x4 x6 x7 x15 x16 x17 x18 x19) ⟨h23, ⟨(at?_spec h24).1, x18, (at?_spec h24).2, rfl⟩, h25, h25, h25, h26, h25, h25, h27, ch28, h29, rfl, trivial⟩) (f3_p6_ok F x1 x4 x7 x3 x6 k (w64 (x16 + 1)) x17 (x15 ++ ([x19] : List (List Int))) r h)
  ·rw [if_neg h23] at h
   have h23 := eF h23
   obtain rfl := sI h
   exact Lp.out (gRun_ok cxOK (f3_p6_e3 x1 x3 x4 x6 x7 x15 x16 x17) ⟨h23, trivial⟩) (by intro hh; cases hh)
theorem f3_r28_ok (F : Nat) (x1 : Int) (x4 : LI) (x7 : LI) (x22 x24 : LL) (x26 x28 : LI) (x30 : Int) (x3 : LI) (x6 x20 : Int) (x21 : LL) (x31 : LI) (r : Bool) (h : f3_r28 F x1 x4 x7 x22 x24 x26 x28 x30 x3 x6 x20 x21 x31 = some r) : f3_r28_P x1 x4 x7 x22 x24 x26 x28 x30 x3 x6 x20 x21 x31 r := by
 unfold f3_r28 at h
 obtain ⟨x32, h43, h⟩ := bind_some h
 have ch43 := f13_ok F (List.drop 0 (List.take (0 + (List.length x21)) x21)) x31 _ h43
 try dsimp only at h
 by_cases h44 : x32 = true
 ·rw [if_pos h44] at h
  obtain rfl := sI h
  exact gRun_ok cxOK (f3_r28_e0 x1 x3 x4 x6 x7 x20 x21 x22 x24 x26 x28 x30 x31 x32) ⟨ch43, h44, h44, h44, h44, rfl, rfl, rfl, rfl, trivial⟩
 ·rw [if_neg h44] at h
  have h44 := eF h44
  obtain ⟨x33, h45, h⟩ := bind_some h
  have ch45 := f13_ok F x22 x31 _ h45
  try dsimp only at h
  by_cases h46 : x33 = true
  ·rw [if_pos h46] at h
   obtain rfl := sI h
   exact gRun_ok cxOK (f3_r28_e1 x1 x3 x4 x6 x7 x20 x21 x22 x24 x26 x28 x30 x31 x32 x33) ⟨ch43, h44, h44, h44, ch45, h44, h46, h46, h46, h46, trivial⟩
  ·rw [if_neg h46] at h
   have h46 := eF h46
   obtain ⟨x34, h47, h⟩ := bind_some h
   have ch47 := f13_ok F x24 x31 _ h47
   try dsimp only at h
   obtain rfl := sI h
   exact gRun_ok cxOK (f3_r28_e2 x1 x3 x4 x6 x7 x20 x21 x22 x24 x26 x28 x30 x31 x32 x33 x34) ⟨ch43, h44, h44, h44, ch45, h44, h46, h46, h46, ch47, h46, trivial⟩
theorem f3_p19_ok (F : Nat) (x1 : Int) (x4 : LI) (x7 : LI) (x22 x24 : LL) (x26 x28 : LI) (x30 : Int) (x35 : Bool) (x36 : Int) (x3 : LI) (x6 x37 : Int) (x38 x20 : Int) (x21 : LL) (r : Int) (h : f3_p19 F x1 x4 x7 x22 x24 x26 x28 x30 x35 x36 x3 x6 x37 x38 x20 x21 = some r) : f3_p19_P x1 x4 x7 x22 x24 x26 x28 x30 x35 x36 x3 x6 x37 x38 x20 x21 r := by
 unfold f3_p19 at h
 by_cases h51 : ((iAnd .i64 (iXor .i64 x30 x38) (w64 ((iXor .i64 x30 x38) - 1))) == 0) = true
 ·rw [if_pos h51] at h
  obtain rfl := sI h
  exact gRun_ok cxOK (f3_p19_e0 x1 x3 x4 x6 x7 x20 x21 x22 x24 x26 x28 x30 x35 x36 x37 x38) ⟨h51, trivial⟩
 ·rw [if_neg h51] at h
  have h51 := eF h51
  obtain rfl := sI h
  exact gRun_ok cxOK (f3_p19_e1 x1 x3 x4 x6 x7 x20 x21 x22 x24 x26 x28 x30 x35 x36 x37 x38) ⟨h51, trivial⟩
theorem f3_p16_ok (F : Nat) (x1 : Int) (x4 : LI) (x7 : LI) (x22 x24 : LL) (x26 x28 : LI) (x30 : Int) (x35 : Bool) (x3 : LI) (x6 x20 : Int) (x21 : LL) : ∀ (k : Nat) (x36 x37 : Int) (r : Int), f3_p16 F x1 x4 x7 x22 x24 x26 x28 x30 x35 x3 x6 x20 x21 k x36 x37 = some r → f3_p16_P x1 x4 x7 x22 x24 x26 x28 x30 x35 x3 x6 x20 x21 x36 x37 r
 | 0, _, _, _, h => by cases h
 | k + 1, x36, x37, r, h => by
  unfold f3_p16 at h
  by_cases h49 : (decide (x37 < ((List.length x7 : Nat) : Int))) = true
  ·rw [if_pos h49] at h
   obtain ⟨x38, h50, h⟩ := bind_some h
   try dsimp only at h
   obtain ⟨x39, h52, h⟩ := bind_some h
   have ch52 := f3_p19_ok F x1 x4 x7 x22 x24 x26 x28 x30 x35 x36 x3 x6 x37 x38 x20 x21 _ h52
   try dsimp only at h
   exact Lp.again (gRun_ok cxOK (f3_p16_e0 x1 x3 x4 x6 x7 x20 x21 x22 x24 x26 x28 x30 x35 x36 x37 x38 x39) ⟨h49, ⟨(at?_spec h50).1, x38, (at?_spec h50).2, rfl⟩, ch52, trivial⟩) (f3_p16_ok F x1 x4 x7 x22 x24 x26 x28 x30 x35 x3 x6 x20 x21 k x39 (w64 (x37 + 1)) r h)
  ·rw [if_neg h49] at h
   have h49 := eF h49
   obtain rfl := sI h
   exact Lp.out (gRun_ok cxOK (f3_p16_e1 x1 x3 x4 x6 x7 x20 x21 x22 x24 x26 x28 x30 x35 x36 x37) ⟨h49, trivial⟩) (by intro hh; cases hh)
theorem f3_p12_ok (F : Nat) (x1 : Int) (x4 : LI) (x7 : LI) (x22 x24 : LL) (x26 x28 x3 : LI) (x6 x20 : Int) (x21 : LL) : ∀ (k : Nat) (x30 : Int) (r : f3_p12_R), f3_p12 F x1 x4 x7 x22 x24 x26 x28 x3 x6 x20 x21 k x30 = some r → f3_p12_P x1 x4 x7 x22 x24 x26 x28 x3 x6 x20 x21 x30 r
 | 0, _, _, h => by cases h
 | k + 1, x30, r, h => by
  unfold f3_p12 at h
  by_cases h41 : (decide (x30 < (iShl .i64 1 (w64 (1 + (Int.tmod (w64 (x1)) 4)))))) = true
  ·rw [if_pos h41] at h
   obtain ⟨x31, h42, h⟩ := bind_some h
   have ch42 := f5_ok F x30 (w64 (1 + (Int.tmod (w64 (x1)) 4))) _ h42
   try dsimp only at h
   obtain ⟨x35, h48, h⟩ := bind_some h
   have ch48 := f3_r28_ok F x1 x4 x7 x22 x24 x26 x28 x30 x3 x6 x20 x21 x31 _ h48
   try dsimp only at h
   obtain ⟨x40, h53, h⟩ := bind_some h
   have ch53 := f3_p16_ok F x1 x4 x7 x22 x24 x26 x28 x30 x35 x3 x6 x20 x21 F 0 0 _ h53
   try dsimp only at h
   obtain ⟨x41, h54, h⟩ := bind_some h
   try dsimp only at h
   by_cases h55 : (x35 == (decide (x41 > 0))) = true
   ·rw [if_pos h55] at h
    by_cases h56 : (x41 != x40) = true
    ·rw [if_pos h56] at h
     obtain rfl := sI h
     exact Lp.out (gRun_ok cxOK (f3_p12_e0 x1 x3 x4 x6 x7 x20 x21 x22 x24 x26 x28 x30 x31 x35 x40 x41) ⟨h41, ch42, ch48, ch53, ⟨(at?_spec h54).1, x41, (at?_spec h54).2, rfl⟩, (by rw [h55]; rfl), (by rw [h55]; rfl), (by rw [h55]; rfl), ⟨(at?_spec h54).1, x41, (at?_spec h54).2, rfl⟩, (by rw [h55]; rfl), (by rw [h55]; rfl), (by rw [h55]; rfl), (by rw [h55]; rfl), h56, h56, h56, h56, h56, h56, rfl, trivial⟩) (by intro hh; cases hh)
    ·rw [if_neg h56] at h
     have h56 := eF h56
     obtain ⟨x42, h57, h⟩ := bind_some h
     have ch57 := f14_ok F x28 x30 _ h57
     try dsimp only at h
     by_cases h58 : (x42 == x35) = true
     ·rw [if_pos h58] at h
      obtain rfl := sI h
      exact Lp.out (gRun_ok cxOK (f3_p12_e1 x1 x3 x4 x6 x7 x20 x21 x22 x24 x26 x28 x30 x31 x35 x40 x41 x42) ⟨h41, ch42, ch48, ch53, ⟨(at?_spec h54).1, x41, (at?_spec h54).2, rfl⟩, (by rw [h55]; rfl), (by rw [h55]; rfl), (by rw [h55]; rfl), ⟨(at?_spec h54).1, x41, (at?_spec h54).2, rfl⟩, (by rw [h55]; rfl), (by rw [h55]; rfl), (by rw [h55]; rfl), (by rw [h55]; rfl), h56, h56, h56, ch57, h56, h56, h56, h58, trivial⟩) (by intro hh; cases hh)
     ·rw [if_neg h58] at h
      have h58 := eF h58
      exact Lp.again (gRun_ok cxOK (f3_p12_e2 x1 x3 x4 x6 x7 x20 x21 x22 x24 x26 x28 x30 x31 x35 x40 x41 x42) ⟨h41, ch42, ch48, ch53, ⟨(at?_spec h54).1, x41, (at?_spec h54).2, rfl⟩, (by rw [h55]; rfl), (by rw [h55]; rfl), (by rw [h55]; rfl), ⟨(at?_spec h54).1, x41, (at?_spec h54).2, rfl⟩, (by rw [h55]; rfl), (by rw [h55]; rfl), (by rw [h55]; rfl), (by rw [h55]; rfl), h56, h56, h56, ch57, h56, h56, h56, h58, trivial⟩) (f3_p12_ok F x1 x4 x7 x22 x24 x26 x28 x3 x6 x20 x21 k (w64 (x30 + 1)) r h)
   ·rw [if_neg h55] at h
    have h55 := eF h55
    obtain rfl := sI h
    exact Lp.out (gRun_ok cxOK (f3_p12_e3 x1 x3 x4 x6 x7 x20 x21 x22 x24 x26 x28 x30 x31 x35 x40 x41) ⟨h41, ch42, ch48, ch53, ⟨(at?_spec h54).1, x41, (at?_spec h54).2, rfl⟩, (by rw [h55]; rfl), (by rw [h55]; rfl), (by rw [h55]; rfl), (by rw [h55]; rfl), (by rw [h55]; rfl), (by rw [h55]; rfl), (by rw [h55]; rfl), rfl, rfl, rfl, rfl, rfl, rfl, rfl, trivial⟩) (by intro hh; cases hh)
  ·rw [if_neg h41] at h
   have h41 := eF h41
   obtain rfl := sI h
   exact Lp.out (gRun_ok cxOK (f3_p12_e4 x1 x3 x4 x6 x7 x20 x21 x22 x24 x26 x28 x30) ⟨h41, trivial⟩) (by intro hh; cases hh)
theorem f3_p2_ok (F : Nat) (x1 : Int) (x4 x3 : LI) : ∀ (k : Nat) (x6 : Int) (r : f3_p2_R), f3_p2 F x1 x4 x3 k x6 = some r → f3_p2_P x1 x4 x3 x6 r
 | 0, _, _, h => by cases h
 | k + 1, x6, r, h => by
  unfold f3_p2 at h
  by_cases h7 : (decide (x6 < ((List.length ([x3, x4] : List (List Int)) : Nat) : Int))) = true
  ·rw [if_pos h7] at h
   obtain ⟨x7, h8, h⟩ := bind_some h
   try dsimp only at h
   obtain ⟨rh30, h30, h⟩ := bind_some h
   have ch30 := f3_p6_ok F x1 x4 x7 x3 x6 F 0 (w64 (1 + (Int.tmod (w64 (x1)) 4))) ([] : List (List Int)) _ h30
   cases rh30 with
   | c0 =>
    try dsimp only at h
    obtain rfl := sI h
    exact Lp.out (gRun_ok cxOK (f3_p2_e0 x1 x3 x4 x6 x7) ⟨h7, ⟨(at?_spec h8).1, x7, (at?_spec h8).2, rfl⟩, ch30, trivial⟩) (by intro hh; cases hh)
   | c1 x20 x21 =>
    try dsimp only at h
    obtain ⟨rh31, h31, h⟩ := bind_some h
    have ch31 := f7_ok F x20 (List.drop 0 (List.take (0 + (List.length x21)) x21)) _ h31
    obtain ⟨x22, x23⟩ := rh31
    try dsimp only at h
    obtain ⟨rh32, h32, h⟩ := bind_some h
    have ch32 := f8_ok F x20 (List.drop 0 (List.take (0 + (List.length x21)) x21)) _ h32
    obtain ⟨x24, x25⟩ := rh32
    try dsimp only at h
    obtain ⟨rh33, h33, h⟩ := bind_some h
    have ch33 := f9_ok F (w64 (1 + (Int.tmod (w64 (x1)) 4))) x7 _ h33
    obtain ⟨x26, x27⟩ := rh33
    try dsimp only at h
    obtain ⟨rh34, h34, h⟩ := bind_some h
    have ch34 := f10_ok F (w64 (1 + (Int.tmod (w64 (x1)) 4))) x7 _ h34
    obtain ⟨x28, x29⟩ := rh34
    try dsimp only at h
    by_cases h35 : (x23 != 0) = true
    ·rw [if_pos h35] at h
     obtain rfl := sI h
     exact Lp.out (gRun_ok cxOK (f3_p2_e1 x1 x3 x4 x6 x7 x20 x21 x22 x23 x24 x25 x26 x27 x28 x29) ⟨h7, ⟨(at?_spec h8).1, x7, (at?_spec h8).2, rfl⟩, ch30, (Nat.le_of_eq (Nat.zero_add _)), ch31, ch32, ch33, ch34, h35, h35, h35, rfl, rfl, rfl, rfl, rfl, rfl, rfl, rfl, rfl, rfl, rfl, rfl, rfl, trivial⟩) (by intro hh; cases hh)
    ·rw [if_neg h35] at h
     have h35 := eF h35
     by_cases h36 : (x25 != 0) = true
     ·rw [if_pos h36] at h
      obtain rfl := sI h
      exact Lp.out (gRun_ok cxOK (f3_p2_e2 x1 x3 x4 x6 x7 x20 x21 x22 x23 x24 x25 x26 x27 x28 x29) ⟨h7, ⟨(at?_spec h8).1, x7, (at?_spec h8).2, rfl⟩, ch30, (Nat.le_of_eq (Nat.zero_add _)), ch31, ch32, ch33, ch34, h35, h35, h35, h36, h36, h36, rfl, rfl, rfl, rfl, rfl, rfl, rfl, rfl, rfl, rfl, trivial⟩) (by intro hh; cases hh)
     ·rw [if_neg h36] at h
      have h36 := eF h36
      by_cases h37 : (x27 != 0) = true
      ·rw [if_pos h37] at h
       obtain rfl := sI h
       exact Lp.out (gRun_ok cxOK (f3_p2_e3 x1 x3 x4 x6 x7 x20 x21 x22 x23 x24 x25 x26 x27 x28 x29) ⟨h7, ⟨(at?_spec h8).1, x7, (at?_spec h8).2, rfl⟩, ch30, (Nat.le_of_eq (Nat.zero_add _)), ch31, ch32, ch33, ch34, h35, h35, h35, h36, h36, h36, h37, h37, h37, rfl, rfl, rfl, rfl, rfl, rfl, rfl, trivial⟩) (by intro hh; cases hh)
      ·rw [if_neg h37] at h
       have h37 := eF h37
       by_cases h38 : (x29 != 0) = true
       ·rw [if_pos h38] at h
        obtain rfl := sI h
        exact Lp.out (gRun_ok cxOK (f3_p2_e4 x1 x3 x4 x6 x7 x20 x21 x22 x23 x24 x25 x26 x27 x28 x29) ⟨h7, ⟨(at?_spec h8).1, x7, (at?_spec h8).2, rfl⟩, ch30, (Nat.le_of_eq (Nat.zero_add _)), ch31, ch32, ch33, ch34, h35, h35, h35, h36, h36, h36, h37, h37, h37, h38, h38, h38, h38, h38, h38, rfl, trivial⟩) (by intro hh; cases hh)
       ·rw [if_neg h38] at h
        have h38 := eF h38
        obtain ⟨h39, h⟩ := req_some h
        by_cases h40 : (((List.length x26 : Nat) : Int) != (iShl .i64 1 (w64 (1 + (Int.tmod (w64 (x1)) 4))))) = true
        ·rw [if_pos h40] at h
         obtain rfl := sI h
         exact Lp.out (gRun_ok cxOK (f3_p2_e5 x1 x3 x4 x6 x7 x20 x21 x22 x23 x24 x25 x26 x27 x28 x29) ⟨h7, ⟨(at?_spec h8).1, x7, (at?_spec h8).2, rfl⟩, ch30, (Nat.le_of_eq (Nat.zero_add _)), ch31, ch32, ch33, ch34, h35, h35, h35, h36, h36, h36, h37, h37, h37, h38, h38, h38, h38, h39, h38, h38, h40, trivial⟩) (by intro hh; cases hh)
        ·rw [if_neg h40] at h
         have h40 := eF h40
         obtain ⟨rh59, h59, h⟩ := bind_some h
         have ch59 := f3_p12_ok F x1 x4 x7 x22 x24 x26 x28 x3 x6 x20 x21 F 0 _ h59
         cases rh59 with
         | c0 =>
          try dsimp only at h
          obtain rfl := sI h
          exact Lp.out (gRun_ok cxOK (f3_p2_e6 x1 x3 x4 x6 x7 x20 x21 x22 x23 x24 x25 x26 x27 x28 x29) ⟨h7, ⟨(at?_spec h8).1, x7, (at?_spec h8).2, rfl⟩, ch30, (Nat.le_of_eq (Nat.zero_add _)), ch31, ch32, ch33, ch34, h35, h35, h35, h36, h36, h36, h37, h37, h37, h38, h38, h38, h38, h39, h38, h38, h40, h39, ch59, trivial⟩) (by intro hh; cases hh)
         | c1 =>
          try dsimp only at h
          exact Lp.again (gRun_ok cxOK (f3_p2_e7 x1 x3 x4 x6 x7 x20 x21 x22 x23 x24 x25 x26 x27 x28 x29) ⟨h7, ⟨(at?_spec h8).1, x7, (at?_spec h8).2, rfl⟩, ch30, (Nat.le_of_eq (Nat.zero_add _)), ch31, ch32, ch33, ch34, h35, h35, h35, h36, h36, h36, h37, h37, h37, h38, h38, h38, h38, h39, h38, h38, h40, h39, ch59, trivial⟩) (f3_p2_ok F x1 x4 x3 k (w64 (x6 + 1)) r h)
  ·rw [if_neg h7] at h
   have h7 := eF h7
   obtain rfl := sI h
   exact Lp.out (gRun_ok cxOK (f3_p2_e8 x1 x3 x4 x6) ⟨h7, trivial⟩) (by intro hh; cases hh)
theorem f3_ok (F : Nat) (x1 x2 : Int) (r : Bool) (h : f3 F x1 x2 = some r) : f3_C x1 x2 r := by
 unfold f3 at h
 obtain ⟨h1, h⟩ := req_some h
 obtain ⟨h2, h⟩ := req_some h
 obtain ⟨h3, h⟩ := req_some h
 obtain ⟨x3, h4, h⟩ := bind_some h
 have ch4 := f5_ok F (Int.tmod (w64 (x2)) (iShl .i64 1 (iShl .u64 1 (w64 (1 + (Int.tmod (w64 (x1)) 4)))))) 16 _ h4
 try dsimp only at h
 obtain ⟨rh5, h5, h⟩ := bind_some h
 have ch5 := f6_ok F (w64 (1 + (Int.tmod (w64 (x1)) 4))) _ h5
 obtain ⟨x4, x5⟩ := rh5
 try dsimp only at h
 by_cases h6 : (x5 != 0) = true
 ·rw [if_pos h6] at h
  cases h
 ·rw [if_neg h6] at h
  have h6 := eF h6
  obtain ⟨rh60, h60, h⟩ := bind_some h
  have ch60 := f3_p2_ok F x1 x4 x3 F 0 _ h60
  cases rh60 with
  | c0 =>
   try dsimp only at h
   cases h
  | c1 =>
   try dsimp only at h
   obtain ⟨rh61, h61, h⟩ := bind_some h
   have ch61 := f10_ok F (w64 (1 + (Int.tmod (w64 (x1)) 4))) x4 _ h61
   obtain ⟨x43, x44⟩ := rh61
   try dsimp only at h
   by_cases h62 : (x44 == 0) = true
   ·rw [if_pos h62] at h
    by_cases h63 : (((List.length x43 : Nat) : Int) == 0) = true
    ·rw [if_pos h63] at h
     obtain ⟨x45, h64, h⟩ := bind_some h
     have ch64 := f15_ok F _ h64
     try dsimp only at h
     obtain rfl := sI h
     exact callOK cxOK cxW Tryz.func3 (by kernel_rfl) (f3_e0 x1 x2 x3 x4 x5 x43 x44 x45) ⟨(by decide), h1, h2, h3, ch4, ch5, h6, ch60, ch61, h62, h62, h62, h62, h63, ch64, h63, trivial⟩
    ·rw [if_neg h63] at h
     have h63 := eF h63
     cases h
   ·rw [if_neg h62] at h
    have h62 := eF h62
    cases h

end Go.Gh.Tz
