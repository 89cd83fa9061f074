/- Pack13F1: printed by wip/tool/gx.py -/
import Derived.Test.YtkjlgbnbpeijbaaPack13F0
namespace Go.Gh.Pack
set_option linter.unusedVariables false
set_option linter.unusedSimpArgs false
open Go.Proofs

theorem f88_p5_ok (F : Nat) (x1 x2 : LI) (x3 : Int) : ∀ (k : Nat) (x6 : Int) (x5 : LI) (r : (List Int)), f88_p5 F x1 x2 x3 k x6 x5 = some r → f88_p5_P x1 x2 x3 x6 x5 r
 | 0, _, _, _, h => by cases h
 | k + 1, x6, x5, r, h => by
  unfold f88_p5 at h
  by_cases h7 : (decide (x6 ≤ x3)) = true
  ·rw [if_pos h7] at h
   obtain ⟨h8, h⟩ := req_some h
   obtain ⟨h9, h⟩ := req_some h
   obtain ⟨h10, h⟩ := req_some h
   exact Lp.again (gRun_ok cxOK (f88_p5_e0 x1 x2 x3 x5 x6) ⟨h7, h8, h9, h10, trivial⟩) (f88_p5_ok F x1 x2 x3 k (w64 (x6 + 1)) (List.set x5 (0 + (Int.toNat x6)) 1048576) r h)
  ·rw [if_neg h7] at h
   have h7 := eF h7
   obtain rfl := sI h
   exact Lp.out (gRun_ok cxOK (f88_p5_e1 x1 x2 x3 x5 x6) ⟨h7, trivial⟩) (by intro hh; cases hh)
theorem f88_p17_1_ok (F : Nat) (x1 x2 : LI) (x3 x16 : Int) (x15 x7 : LI) : ∀ (k : Nat) (x17 x18 : Int) (r : Int), f88_p17_1 F x1 x2 x3 x16 x15 x7 k x17 x18 = some r → f88_p17_1_P x1 x2 x3 x16 x15 x7 x17 x18 r
 | 0, _, _, _, h => by cases h
 | k + 1, x17, x18, r, h => by
  unfold f88_p17_1 at h
  obtain ⟨x19, h25, h⟩ := bind_some h
  try dsimp only at h
  by_cases h26 : (decide (x18 ≤ x19)) = true
  ·rw [if_pos h26] at h
   obtain ⟨x20, h27, h⟩ := bind_some h
   try dsimp only at h
   by_cases h28 : (decide ((w64 (x18 * x20)) ≤ x16)) = true
   ·rw [if_pos h28] at h
    obtain ⟨h29, h⟩ := req_some h
    obtain ⟨h30, h⟩ := req_some h
    obtain ⟨x21, h31, h⟩ := bind_some h
    try dsimp only at h
    exact Lp.again (gRun_ok cxOK (f88_p17_1_e0 x1 x2 x3 x7 x15 x16 x17 x18 x19 x20 x21) ⟨⟨(at?_spec h25).1, x19, (at?_spec h25).2, rfl⟩, h26, h26, h26, h26, ⟨(at?_spec h27).1, x20, (at?_spec h27).2, rfl⟩, h26, h26, h26, h26, h26, h28, h29, ⟨(at?_spec h27).1, x20, (at?_spec h27).2, rfl⟩, h30, ⟨x21, h31, rfl⟩, trivial⟩) (f88_p17_1_ok F x1 x2 x3 x16 x15 x7 k (if (w64 (x18 + x21)) < x17 then (w64 (x18 + x21)) else x17) (w64 (x18 + 1)) r h)
   ·rw [if_neg h28] at h
    have h28 := eF h28
    obtain rfl := sI h
    exact Lp.out (gRun_ok cxOK (f88_p17_1_e1 x1 x2 x3 x7 x15 x16 x17 x18 x19 x20) ⟨⟨(at?_spec h25).1, x19, (at?_spec h25).2, rfl⟩, h26, h26, h26, h26, ⟨(at?_spec h27).1, x20, (at?_spec h27).2, rfl⟩, h26, h26, h26, h26, h26, h28, trivial⟩) (by intro hh; cases hh)
  ·rw [if_neg h26] at h
   have h26 := eF h26
   obtain rfl := sI h
   exact Lp.out (gRun_ok cxOK (f88_p17_1_e2 x1 x2 x3 x7 x15 x16 x17 x18 x19) ⟨⟨(at?_spec h25).1, x19, (at?_spec h25).2, rfl⟩, h26, h26, h26, h26, h26, h26, h26, h26, h26, rfl, trivial⟩) (by intro hh; cases hh)
theorem f88_p13_ok (F : Nat) (x1 x2 : LI) (x3 : Int) (x7 : LI) : ∀ (k : Nat) (x16 : Int) (x15 : LI) (r : (List Int)), f88_p13 F x1 x2 x3 x7 k x16 x15 = some r → f88_p13_P x1 x2 x3 x7 x16 x15 r
 | 0, _, _, _, h => by cases h
 | k + 1, x16, x15, r, h => by
  unfold f88_p13 at h
  by_cases h24 : (decide (x16 ≤ x3)) = true
  ·rw [if_pos h24] at h
   obtain ⟨x22, h32, h⟩ := bind_some h
   have ch32 := f88_p17_1_ok F x1 x2 x3 x16 x15 x7 F 1048576 0 _ h32
   try dsimp only at h
   obtain ⟨h33, h⟩ := req_some h
   obtain ⟨h34, h⟩ := req_some h
   obtain ⟨h35, h⟩ := req_some h
   exact Lp.again (gRun_ok cxOK (f88_p13_e0 x1 x2 x3 x7 x15 x16 x22) ⟨h24, ch32, h33, h34, h35, trivial⟩) (f88_p13_ok F x1 x2 x3 x7 k (w64 (x16 + 1)) (List.set x15 (0 + (Int.toNat x16)) x22) r h)
  ·rw [if_neg h24] at h
   have h24 := eF h24
   obtain rfl := sI h
   exact Lp.out (gRun_ok cxOK (f88_p13_e1 x1 x2 x3 x7 x15 x16) ⟨h24, trivial⟩) (by intro hh; cases hh)
theorem f88_p5_1_ok (F : Nat) (x1 x2 : LI) (x3 : Int) : ∀ (k : Nat) (x26 : Int) (x25 : LI) (r : (List Int)), f88_p5_1 F x1 x2 x3 k x26 x25 = some r → f88_p5_1_P x1 x2 x3 x26 x25 r
 | 0, _, _, _, h => by cases h
 | k + 1, x26, x25, r, h => by
  unfold f88_p5_1 at h
  by_cases h45 : (decide (x26 ≤ x3)) = true
  ·rw [if_pos h45] at h
   obtain ⟨h46, h⟩ := req_some h
   obtain ⟨h47, h⟩ := req_some h
   obtain ⟨h48, h⟩ := req_some h
   exact Lp.again (gRun_ok cxOK (f88_p5_1_e0 x1 x2 x3 x25 x26) ⟨h45, h46, h47, h48, trivial⟩) (f88_p5_1_ok F x1 x2 x3 k (w64 (x26 + 1)) (List.set x25 (0 + (Int.toNat x26)) 1048576) r h)
  ·rw [if_neg h45] at h
   have h45 := eF h45
   obtain rfl := sI h
   exact Lp.out (gRun_ok cxOK (f88_p5_1_e1 x1 x2 x3 x25 x26) ⟨h45, trivial⟩) (by intro hh; cases hh)
theorem f88_p17_3_ok (F : Nat) (x1 x2 : LI) (x3 x36 : Int) (x35 x27 : LI) : ∀ (k : Nat) (x37 x38 : Int) (r : Int), f88_p17_3 F x1 x2 x3 x36 x35 x27 k x37 x38 = some r → f88_p17_3_P x1 x2 x3 x36 x35 x27 x37 x38 r
 | 0, _, _, _, h => by cases h
 | k + 1, x37, x38, r, h => by
  unfold f88_p17_3 at h
  obtain ⟨x39, h63, h⟩ := bind_some h
  try dsimp only at h
  by_cases h64 : (decide (x38 ≤ x39)) = true
  ·rw [if_pos h64] at h
   obtain ⟨x40, h65, h⟩ := bind_some h
   try dsimp only at h
   by_cases h66 : (decide ((w64 (x38 * x40)) ≤ x36)) = true
   ·rw [if_pos h66] at h
    obtain ⟨h67, h⟩ := req_some h
    obtain ⟨h68, h⟩ := req_some h
    obtain ⟨x41, h69, h⟩ := bind_some h
    try dsimp only at h
    exact Lp.again (gRun_ok cxOK (f88_p17_3_e0 x1 x2 x3 x27 x35 x36 x37 x38 x39 x40 x41) ⟨⟨(at?_spec h63).1, x39, (at?_spec h63).2, rfl⟩, h64, h64, h64, h64, ⟨(at?_spec h65).1, x40, (at?_spec h65).2, rfl⟩, h64, h64, h64, h64, h64, h66, h67, ⟨(at?_spec h65).1, x40, (at?_spec h65).2, rfl⟩, h68, ⟨x41, h69, rfl⟩, trivial⟩) (f88_p17_3_ok F x1 x2 x3 x36 x35 x27 k (if (w64 (x38 + x41)) < x37 then (w64 (x38 + x41)) else x37) (w64 (x38 + 1)) r h)
   ·rw [if_neg h66] at h
    have h66 := eF h66
    obtain rfl := sI h
    exact Lp.out (gRun_ok cxOK (f88_p17_3_e1 x1 x2 x3 x27 x35 x36 x37 x38 x39 x40) ⟨⟨(at?_spec h63).1, x39, (at?_spec h63).2, rfl⟩, h64, h64, h64, h64, ⟨(at?_spec h65).1, x40, (at?_spec h65).2, rfl⟩, h64, h64, h64, h64, h64, h66, trivial⟩) (by intro hh; cases hh)
  ·rw [if_neg h64] at h
   have h64 := eF h64
   obtain rfl := sI h
   exact Lp.out (gRun_ok cxOK (f88_p17_3_e2 x1 x2 x3 x27 x35 x36 x37 x38 x39) ⟨⟨(at?_spec h63).1, x39, (at?_spec h63).2, rfl⟩, h64, h64, h64, h64, h64, h64, h64, h64, h64, rfl, trivial⟩) (by intro hh; cases hh)
theorem f88_p13_1_ok (F : Nat) (x1 x2 : LI) (x3 : Int) (x27 : LI) : ∀ (k : Nat) (x36 : Int) (x35 : LI) (r : (List Int)), f88_p13_1 F x1 x2 x3 x27 k x36 x35 = some r → f88_p13_1_P x1 x2 x3 x27 x36 x35 r
 | 0, _, _, _, h => by cases h
 | k + 1, x36, x35, r, h => by
  unfold f88_p13_1 at h
  by_cases h62 : (decide (x36 ≤ x3)) = true
  ·rw [if_pos h62] at h
   obtain ⟨x42, h70, h⟩ := bind_some h
   have ch70 := f88_p17_3_ok F x1 x2 x3 x36 x35 x27 F 1048576 0 _ h70
   try dsimp only at h
   obtain ⟨h71, h⟩ := req_some h
   obtain ⟨h72, h⟩ := req_some h
   obtain ⟨h73, h⟩ := req_some h
   exact Lp.again (gRun_ok cxOK (f88_p13_1_e0 x1 x2 x3 x27 x35 x36 x42) ⟨h62, ch70, h71, h72, h73, trivial⟩) (f88_p13_1_ok F x1 x2 x3 x27 k (w64 (x36 + 1)) (List.set x35 (0 + (Int.toNat x36)) x42) r h)
  ·rw [if_neg h62] at h
   have h62 := eF h62
   obtain rfl := sI h
   exact Lp.out (gRun_ok cxOK (f88_p13_1_e1 x1 x2 x3 x27 x35 x36) ⟨h62, trivial⟩) (by intro hh; cases hh)
theorem f88_p17_5_ok (F : Nat) (x1 x2 : LI) (x3 x52 : Int) (x51 x43 x27 : LI) : ∀ (k : Nat) (x53 x54 : Int) (r : Int), f88_p17_5 F x1 x2 x3 x52 x51 x43 x27 k x53 x54 = some r → f88_p17_5_P x1 x2 x3 x52 x51 x43 x27 x53 x54 r
 | 0, _, _, _, h => by cases h
 | k + 1, x53, x54, r, h => by
  unfold f88_p17_5 at h
  obtain ⟨x55, h88, h⟩ := bind_some h
  try dsimp only at h
  by_cases h89 : (decide (x54 ≤ x55)) = true
  ·rw [if_pos h89] at h
   obtain ⟨x56, h90, h⟩ := bind_some h
   try dsimp only at h
   by_cases h91 : (decide ((w64 (x54 * x56)) ≤ x52)) = true
   ·rw [if_pos h91] at h
    obtain ⟨h92, h⟩ := req_some h
    obtain ⟨h93, h⟩ := req_some h
    obtain ⟨x57, h94, h⟩ := bind_some h
    try dsimp only at h
    exact Lp.again (gRun_ok cxOK (f88_p17_5_e0 x1 x2 x3 x27 x43 x51 x52 x53 x54 x55 x56 x57) ⟨⟨(at?_spec h88).1, x55, (at?_spec h88).2, rfl⟩, h89, h89, h89, h89, ⟨(at?_spec h90).1, x56, (at?_spec h90).2, rfl⟩, h89, h89, h89, h89, h89, h91, h92, ⟨(at?_spec h90).1, x56, (at?_spec h90).2, rfl⟩, h93, ⟨x57, h94, rfl⟩, trivial⟩) (f88_p17_5_ok F x1 x2 x3 x52 x51 x43 x27 k (if (w64 (x54 + x57)) < x53 then (w64 (x54 + x57)) else x53) (w64 (x54 + 1)) r h)
   ·rw [if_neg h91] at h
    have h91 := eF h91
    obtain rfl := sI h
    exact Lp.out (gRun_ok cxOK (f88_p17_5_e1 x1 x2 x3 x27 x43 x51 x52 x53 x54 x55 x56) ⟨⟨(at?_spec h88).1, x55, (at?_spec h88).2, rfl⟩, h89, h89, h89, h89, ⟨(at?_spec h90).1, x56, (at?_spec h90).2, rfl⟩, h89, h89, h89, h89, h89, h91, trivial⟩) (by intro hh; cases hh)
  ·rw [if_neg h89] at h
   have h89 := eF h89
   obtain rfl := sI h
   exact Lp.out (gRun_ok cxOK (f88_p17_5_e2 x1 x2 x3 x27 x43 x51 x52 x53 x54 x55) ⟨⟨(at?_spec h88).1, x55, (at?_spec h88).2, rfl⟩, h89, h89, h89, h89, h89, h89, h89, h89, h89, rfl, trivial⟩) (by intro hh; cases hh)
theorem f88_p13_2_ok (F : Nat) (x1 x2 : LI) (x3 : Int) (x43 x27 : LI) : ∀ (k : Nat) (x52 : Int) (x51 : LI) (r : (List Int)), f88_p13_2 F x1 x2 x3 x43 x27 k x52 x51 = some r → f88_p13_2_P x1 x2 x3 x43 x27 x52 x51 r
 | 0, _, _, _, h => by cases h
 | k + 1, x52, x51, r, h => by
  unfold f88_p13_2 at h
  by_cases h87 : (decide (x52 ≤ x3)) = true
  ·rw [if_pos h87] at h
   obtain ⟨x58, h95, h⟩ := bind_some h
   have ch95 := f88_p17_5_ok F x1 x2 x3 x52 x51 x43 x27 F 1048576 0 _ h95
   try dsimp only at h
   obtain ⟨h96, h⟩ := req_some h
   obtain ⟨h97, h⟩ := req_some h
   obtain ⟨h98, h⟩ := req_some h
   exact Lp.again (gRun_ok cxOK (f88_p13_2_e0 x1 x2 x3 x27 x43 x51 x52 x58) ⟨h87, ch95, h96, h97, h98, trivial⟩) (f88_p13_2_ok F x1 x2 x3 x43 x27 k (w64 (x52 + 1)) (List.set x51 (0 + (Int.toNat x52)) x58) r h)
  ·rw [if_neg h87] at h
   have h87 := eF h87
   obtain rfl := sI h
   exact Lp.out (gRun_ok cxOK (f88_p13_2_e1 x1 x2 x3 x27 x43 x51 x52) ⟨h87, trivial⟩) (by intro hh; cases hh)
theorem f88_p5_2_ok (F : Nat) (x1 x2 : LI) (x3 : Int) : ∀ (k : Nat) (x62 : Int) (x61 : LI) (r : (List Int)), f88_p5_2 F x1 x2 x3 k x62 x61 = some r → f88_p5_2_P x1 x2 x3 x62 x61 r
 | 0, _, _, _, h => by cases h
 | k + 1, x62, x61, r, h => by
  unfold f88_p5_2 at h
  by_cases h109 : (decide (x62 ≤ x3)) = true
  ·rw [if_pos h109] at h
   obtain ⟨h110, h⟩ := req_some h
   obtain ⟨h111, h⟩ := req_some h
   obtain ⟨h112, h⟩ := req_some h
   exact Lp.again (gRun_ok cxOK (f88_p5_2_e0 x1 x2 x3 x61 x62) ⟨h109, h110, h111, h112, trivial⟩) (f88_p5_2_ok F x1 x2 x3 k (w64 (x62 + 1)) (List.set x61 (0 + (Int.toNat x62)) 1048576) r h)
  ·rw [if_neg h109] at h
   have h109 := eF h109
   obtain rfl := sI h
   exact Lp.out (gRun_ok cxOK (f88_p5_2_e1 x1 x2 x3 x61 x62) ⟨h109, trivial⟩) (by intro hh; cases hh)
theorem f88_p17_7_ok (F : Nat) (x1 x2 : LI) (x3 x72 : Int) (x71 x63 : LI) : ∀ (k : Nat) (x73 x74 : Int) (r : Int), f88_p17_7 F x1 x2 x3 x72 x71 x63 k x73 x74 = some r → f88_p17_7_P x1 x2 x3 x72 x71 x63 x73 x74 r
 | 0, _, _, _, h => by cases h
 | k + 1, x73, x74, r, h => by
  unfold f88_p17_7 at h
  obtain ⟨x75, h127, h⟩ := bind_some h
  try dsimp only at h
  by_cases h128 : (decide (x74 ≤ x75)) = true
  ·rw [if_pos h128] at h
   obtain ⟨x76, h129, h⟩ := bind_some h
   try dsimp only at h
   by_cases h130 : (decide ((w64 (x74 * x76)) ≤ x72)) = true
   ·rw [if_pos h130] at h
    obtain ⟨h131, h⟩ := req_some h
    obtain ⟨h132, h⟩ := req_some h
    obtain ⟨x77, h133, h⟩ := bind_some h
    try dsimp only at h
    exact Lp.again (gRun_ok cxOK (f88_p17_7_e0 x1 x2 x3 x63 x71 x72 x73 x74 x75 x76 x77) ⟨⟨(at?_spec h127).1, x75, (at?_spec h127).2, rfl⟩, h128, h128, h128, h128, ⟨(at?_spec h129).1, x76, (at?_spec h129).2, rfl⟩, h128, h128, h128, h128, h128, h130, h131, ⟨(at?_spec h129).1, x76, (at?_spec h129).2, rfl⟩, h132, ⟨x77, h133, rfl⟩, trivial⟩) (f88_p17_7_ok F x1 x2 x3 x72 x71 x63 k (if (w64 (x74 + x77)) < x73 then (w64 (x74 + x77)) else x73) (w64 (x74 + 1)) r h)
   ·rw [if_neg h130] at h
    have h130 := eF h130
    obtain rfl := sI h
    exact Lp.out (gRun_ok cxOK (f88_p17_7_e1 x1 x2 x3 x63 x71 x72 x73 x74 x75 x76) ⟨⟨(at?_spec h127).1, x75, (at?_spec h127).2, rfl⟩, h128, h128, h128, h128, ⟨(at?_spec h129).1, x76, (at?_spec h129).2, rfl⟩, h128, h128, h128, h128, h128, h130, trivial⟩) (by intro hh; cases hh)
  ·rw [if_neg h128] at h
   have h128 := eF h128
   obtain rfl := sI h
   exact Lp.out (gRun_ok cxOK (f88_p17_7_e2 x1 x2 x3 x63 x71 x72 x73 x74 x75) ⟨⟨(at?_spec h127).1, x75, (at?_spec h127).2, rfl⟩, h128, h128, h128, h128, h128, h128, h128, h128, h128, rfl, trivial⟩) (by intro hh; cases hh)
theorem f88_p13_3_ok (F : Nat) (x1 x2 : LI) (x3 : Int) (x63 : LI) : ∀ (k : Nat) (x72 : Int) (x71 : LI) (r : (List Int)), f88_p13_3 F x1 x2 x3 x63 k x72 x71 = some r → f88_p13_3_P x1 x2 x3 x63 x72 x71 r
 | 0, _, _, _, h => by cases h
 | k + 1, x72, x71, r, h => by
  unfold f88_p13_3 at h
  by_cases h126 : (decide (x72 ≤ x3)) = true
  ·rw [if_pos h126] at h
   obtain ⟨x78, h134, h⟩ := bind_some h
   have ch134 := f88_p17_7_ok F x1 x2 x3 x72 x71 x63 F 1048576 0 _ h134
   try dsimp only at h
   obtain ⟨h135, h⟩ := req_some h
   obtain ⟨h136, h⟩ := req_some h
   obtain ⟨h137, h⟩ := req_some h
   exact Lp.again (gRun_ok cxOK (f88_p13_3_e0 x1 x2 x3 x63 x71 x72 x78) ⟨h126, ch134, h135, h136, h137, trivial⟩) (f88_p13_3_ok F x1 x2 x3 x63 k (w64 (x72 + 1)) (List.set x71 (0 + (Int.toNat x72)) x78) r h)
  ·rw [if_neg h126] at h
   have h126 := eF h126
   obtain rfl := sI h
   exact Lp.out (gRun_ok cxOK (f88_p13_3_e1 x1 x2 x3 x63 x71 x72) ⟨h126, trivial⟩) (by intro hh; cases hh)
theorem f88_p17_9_ok (F : Nat) (x1 x2 : LI) (x3 x88 : Int) (x87 x79 x63 : LI) : ∀ (k : Nat) (x89 x90 : Int) (r : Int), f88_p17_9 F x1 x2 x3 x88 x87 x79 x63 k x89 x90 = some r → f88_p17_9_P x1 x2 x3 x88 x87 x79 x63 x89 x90 r
 | 0, _, _, _, h => by cases h
 | k + 1, x89, x90, r, h => by
  unfold f88_p17_9 at h
  obtain ⟨x91, h152, h⟩ := bind_some h
  try dsimp only at h
  by_cases h153 : (decide (x90 ≤ x91)) = true
  ·rw [if_pos h153] at h
   obtain ⟨x92, h154, h⟩ := bind_some h
   try dsimp only at h
   by_cases h155 : (decide ((w64 (x90 * x92)) ≤ x88)) = true
   ·rw [if_pos h155] at h
    obtain ⟨h156, h⟩ := req_some h
    obtain ⟨h157, h⟩ := req_some h
    obtain ⟨x93, h158, h⟩ := bind_some h
    try dsimp only at h
    exact Lp.again (gRun_ok cxOK (f88_p17_9_e0 x1 x2 x3 x63 x79 x87 x88 x89 x90 x91 x92 x93) ⟨⟨(at?_spec h152).1, x91, (at?_spec h152).2, rfl⟩, h153, h153, h153, h153, ⟨(at?_spec h154).1, x92, (at?_spec h154).2, rfl⟩, h153, h153, h153, h153, h153, h155, h156, ⟨(at?_spec h154).1, x92, (at?_spec h154).2, rfl⟩, h157, ⟨x93, h158, rfl⟩, trivial⟩) (f88_p17_9_ok F x1 x2 x3 x88 x87 x79 x63 k (if (w64 (x90 + x93)) < x89 then (w64 (x90 + x93)) else x89) (w64 (x90 + 1)) r h)
   ·rw [if_neg h155] at h
    have h155 := eF h155
    obtain rfl := sI h
    exact Lp.out (gRun_ok cxOK (f88_p17_9_e1 x1 x2 x3 x63 x79 x87 x88 x89 x90 x91 x92) ⟨⟨(at?_spec h152).1, x91, (at?_spec h152).2, rfl⟩, h153, h153, h153, h153, ⟨(at?_spec h154).1, x92, (at?_spec h154).2, rfl⟩, h153, h153, h153, h153, h153, h155, trivial⟩) (by intro hh; cases hh)
  ·rw [if_neg h153] at h
   have h153 := eF h153
   obtain rfl := sI h
   exact Lp.out (gRun_ok cxOK (f88_p17_9_e2 x1 x2 x3 x63 x79 x87 x88 x89 x90 x91) ⟨⟨(at?_spec h152).1, x91, (at?_spec h152).2, rfl⟩, h153, h153, h153, h153, h153, h153, h153, h153, h153, rfl, trivial⟩) (by intro hh; cases hh)
theorem f88_p13_4_ok (F : Nat) (x1 x2 : LI) (x3 : Int) (x79 x63 : LI) : ∀ (k : Nat) (x88 : Int) (x87 : LI) (r : (List Int)), f88_p13_4 F x1 x2 x3 x79 x63 k x88 x87 = some r → f88_p13_4_P x1 x2 x3 x79 x63 x88 x87 r
 | 0, _, _, _, h => by cases h
 | k + 1, x88, x87, r, h => by
  unfold f88_p13_4 at h
  by_cases h151 : (decide (x88 ≤ x3)) = true
  ·rw [if_pos h151] at h
   obtain ⟨x94, h159, h⟩ := bind_some h
   have ch159 := f88_p17_9_ok F x1 x2 x3 x88 x87 x79 x63 F 1048576 0 _ h159
   try dsimp only at h
   obtain ⟨h160, h⟩ := req_some h
   obtain ⟨h161, h⟩ := req_some h
   obtain ⟨h162, h⟩ := req_some h
   exact Lp.again (gRun_ok cxOK (f88_p13_4_e0 x1 x2 x3 x63 x79 x87 x88 x94) ⟨h151, ch159, h160, h161, h162, trivial⟩) (f88_p13_4_ok F x1 x2 x3 x79 x63 k (w64 (x88 + 1)) (List.set x87 (0 + (Int.toNat x88)) x94) r h)
  ·rw [if_neg h151] at h
   have h151 := eF h151
   obtain rfl := sI h
   exact Lp.out (gRun_ok cxOK (f88_p13_4_e1 x1 x2 x3 x63 x79 x87 x88) ⟨h151, trivial⟩) (by intro hh; cases hh)
theorem f88_p17_11_ok (F : Nat) (x1 x2 : LI) (x3 x104 : Int) (x103 x95 : LI) (x79 x63 : LI) : ∀ (k : Nat) (x105 x106 : Int) (r : Int), f88_p17_11 F x1 x2 x3 x104 x103 x95 x79 x63 k x105 x106 = some r → f88_p17_11_P x1 x2 x3 x104 x103 x95 x79 x63 x105 x106 r
 | 0, _, _, _, h => by cases h
 | k + 1, x105, x106, r, h => by
  unfold f88_p17_11 at h
  obtain ⟨x107, h177, h⟩ := bind_some h
  try dsimp only at h
  by_cases h178 : (decide (x106 ≤ x107)) = true
  ·rw [if_pos h178] at h
   obtain ⟨x108, h179, h⟩ := bind_some h
   try dsimp only at h
   by_cases h180 : (decide ((w64 (x106 * x108)) ≤ x104)) = true
   ·rw [if_pos h180] at h
    obtain ⟨h181, h⟩ := req_some h
    obtain ⟨h182, h⟩ := req_some h
    obtain ⟨x109, h183, h⟩ := bind_some h
    try dsimp only at h
    exact Lp.again (gRun_ok cxOK (f88_p17_11_e0 x1 x2 x3 x63 x79 x95 x103 x104 x105 x106 x107 x108 x109) ⟨⟨(at?_spec h177).1, x107, (at?_spec h177).2, rfl⟩, h178, h178, h178, h178, ⟨(at?_spec h179).1, x108, (at?_spec h179).2, rfl⟩, h178, h178, h178, h178, h178, h180, h181, ⟨(at?_spec h179).1, x108, (at?_spec h179).2, rfl⟩, h182, ⟨x109, h183, rfl⟩, trivial⟩) (f88_p17_11_ok F x1 x2 x3 x104 x103 x95 x79 x63 k (if (w64 (x106 + x109)) < x105 then (w64 (x106 + x109)) else x105) (w64 (x106 + 1)) r h)
   ·rw [if_neg h180] at h
    have h180 := eF h180
    obtain rfl := sI h
    exact Lp.out (gRun_ok cxOK (f88_p17_11_e1 x1 x2 x3 x63 x79 x95 x103 x104 x105 x106 x107 x108) ⟨⟨(at?_spec h177).1, x107, (at?_spec h177).2, rfl⟩, h178, h178, h178, h178, ⟨(at?_spec h179).1, x108, (at?_spec h179).2, rfl⟩, h178, h178, h178, h178, h178, h180, trivial⟩) (by intro hh; cases hh)
  ·rw [if_neg h178] at h
   have h178 := eF h178
   obtain rfl := sI h
   exact Lp.out (gRun_ok cxOK (f88_p17_11_e2 x1 x2 x3 x63 x79 x95 x103 x104 x105 x106 x107) ⟨⟨(at?_spec h177).1, x107, (at?_spec h177).2, rfl⟩, h178, h178, h178, h178, h178, h178, h178, h178, h178, rfl, trivial⟩) (by intro hh; cases hh)
theorem f88_p13_5_ok (F : Nat) (x1 x2 : LI) (x3 : Int) (x95 x79 x63 : LI) : ∀ (k : Nat) (x104 : Int) (x103 : LI) (r : (List Int)), f88_p13_5 F x1 x2 x3 x95 x79 x63 k x104 x103 = some r → f88_p13_5_P x1 x2 x3 x95 x79 x63 x104 x103 r
 | 0, _, _, _, h => by cases h
 | k + 1, x104, x103, r, h => by
  unfold f88_p13_5 at h
  by_cases h176 : (decide (x104 ≤ x3)) = true
  ·rw [if_pos h176] at h
   obtain ⟨x110, h184, h⟩ := bind_some h
   have ch184 := f88_p17_11_ok F x1 x2 x3 x104 x103 x95 x79 x63 F 1048576 0 _ h184
   try dsimp only at h
   obtain ⟨h185, h⟩ := req_some h
   obtain ⟨h186, h⟩ := req_some h
   obtain ⟨h187, h⟩ := req_some h
   exact Lp.again (gRun_ok cxOK (f88_p13_5_e0 x1 x2 x3 x63 x79 x95 x103 x104 x110) ⟨h176, ch184, h185, h186, h187, trivial⟩) (f88_p13_5_ok F x1 x2 x3 x95 x79 x63 k (w64 (x104 + 1)) (List.set x103 (0 + (Int.toNat x104)) x110) r h)
  ·rw [if_neg h176] at h
   have h176 := eF h176
   obtain rfl := sI h
   exact Lp.out (gRun_ok cxOK (f88_p13_5_e1 x1 x2 x3 x63 x79 x95 x103 x104) ⟨h176, trivial⟩) (by intro hh; cases hh)
theorem f88_p5_3_ok (F : Nat) (x1 x2 : LI) (x3 : Int) : ∀ (k : Nat) (x114 : Int) (x113 : LI) (r : (List Int)), f88_p5_3 F x1 x2 x3 k x114 x113 = some r → f88_p5_3_P x1 x2 x3 x114 x113 r
 | 0, _, _, _, h => by cases h
 | k + 1, x114, x113, r, h => by
  unfold f88_p5_3 at h
  by_cases h199 : (decide (x114 ≤ x3)) = true
  ·rw [if_pos h199] at h
   obtain ⟨h200, h⟩ := req_some h
   obtain ⟨h201, h⟩ := req_some h
   obtain ⟨h202, h⟩ := req_some h
   exact Lp.again (gRun_ok cxOK (f88_p5_3_e0 x1 x2 x3 x113 x114) ⟨h199, h200, h201, h202, trivial⟩) (f88_p5_3_ok F x1 x2 x3 k (w64 (x114 + 1)) (List.set x113 (0 + (Int.toNat x114)) 1048576) r h)
  ·rw [if_neg h199] at h
   have h199 := eF h199
   obtain rfl := sI h
   exact Lp.out (gRun_ok cxOK (f88_p5_3_e1 x1 x2 x3 x113 x114) ⟨h199, trivial⟩) (by intro hh; cases hh)
theorem f88_p17_13_ok (F : Nat) (x1 x2 : LI) (x3 x124 : Int) (x123 x115 : LI) : ∀ (k : Nat) (x125 x126 : Int) (r : Int), f88_p17_13 F x1 x2 x3 x124 x123 x115 k x125 x126 = some r → f88_p17_13_P x1 x2 x3 x124 x123 x115 x125 x126 r
 | 0, _, _, _, h => by cases h
 | k + 1, x125, x126, r, h => by
  unfold f88_p17_13 at h
  obtain ⟨x127, h217, h⟩ := bind_some h
  try dsimp only at h
  by_cases h218 : (decide (x126 ≤ x127)) = true
  ·rw [if_pos h218] at h
   obtain ⟨x128, h219, h⟩ := bind_some h
   try dsimp only at h
   by_cases h220 : (decide ((w64 (x126 * x128)) ≤ x124)) = true
   ·rw [if_pos h220] at h
    obtain ⟨h221, h⟩ := req_some h
    obtain ⟨h222, h⟩ := req_some h
    obtain ⟨x129, h223, h⟩ := bind_some h
    try dsimp only at h
    exact Lp.again (gRun_ok cxOK (f88_p17_13_e0 x1 x2 x3 x115 x123 x124 x125 x126 x127 x128 x129) ⟨⟨(at?_spec h217).1, x127, (at?_spec h217).2, rfl⟩, h218, h218, h218, h218, ⟨(at?_spec h219).1, x128, (at?_spec h219).2, rfl⟩, h218, h218, h218, h218, h218, h220, h221, ⟨(at?_spec h219).1, x128, (at?_spec h219).2, rfl⟩, h222, ⟨x129, h223, rfl⟩, trivial⟩) (f88_p17_13_ok F x1 x2 x3 x124 x123 x115 k (if (w64 (x126 + x129)) < x125 then (w64 (x126 + x129)) else x125) (w64 (x126 + 1)) r h)
   ·rw [if_neg h220] at h
    have h220 := eF h220
    obtain rfl := sI h
    exact Lp.out (gRun_ok cxOK (f88_p17_13_e1 x1 x2 x3 x115 x123 x124 x125 x126 x127 x128) ⟨⟨(at?_spec h217).1, x127, (at?_spec h217).2, rfl⟩, h218, h218, h218, h218, ⟨(at?_spec h219).1, x128, (at?_spec h219).2, rfl⟩, h218, h218, h218, h218, h218, h220, trivial⟩) (by intro hh; cases hh)
  ·rw [if_neg h218] at h
   have h218 := eF h218
   obtain rfl := sI h
   exact Lp.out (gRun_ok cxOK (f88_p17_13_e2 x1 x2 x3 x115 x123 x124 x125 x126 x127) ⟨⟨(at?_spec h217).1, x127, (at?_spec h217).2, rfl⟩, h218, h218, h218, h218, h218, h218, h218, h218, h218, rfl, trivial⟩) (by intro hh; cases hh)
theorem f88_p13_6_ok (F : Nat) (x1 x2 : LI) (x3 : Int) (x115 : LI) : ∀ (k : Nat) (x124 : Int) (x123 : LI) (r : (List Int)), f88_p13_6 F x1 x2 x3 x115 k x124 x123 = some r → f88_p13_6_P x1 x2 x3 x115 x124 x123 r
 | 0, _, _, _, h => by cases h
 | k + 1, x124, x123, r, h => by
  unfold f88_p13_6 at h
  by_cases h216 : (decide (x124 ≤ x3)) = true
  ·rw [if_pos h216] at h
   obtain ⟨x130, h224, h⟩ := bind_some h
   have ch224 := f88_p17_13_ok F x1 x2 x3 x124 x123 x115 F 1048576 0 _ h224
   try dsimp only at h
   obtain ⟨h225, h⟩ := req_some h
   obtain ⟨h226, h⟩ := req_some h
   obtain ⟨h227, h⟩ := req_some h
   exact Lp.again (gRun_ok cxOK (f88_p13_6_e0 x1 x2 x3 x115 x123 x124 x130) ⟨h216, ch224, h225, h226, h227, trivial⟩) (f88_p13_6_ok F x1 x2 x3 x115 k (w64 (x124 + 1)) (List.set x123 (0 + (Int.toNat x124)) x130) r h)
  ·rw [if_neg h216] at h
   have h216 := eF h216
   obtain rfl := sI h
   exact Lp.out (gRun_ok cxOK (f88_p13_6_e1 x1 x2 x3 x115 x123 x124) ⟨h216, trivial⟩) (by intro hh; cases hh)
theorem f88_p17_15_ok (F : Nat) (x1 x2 : LI) (x3 x140 : Int) (x139 x131 x115 : LI) : ∀ (k : Nat) (x141 x142 : Int) (r : Int), f88_p17_15 F x1 x2 x3 x140 x139 x131 x115 k x141 x142 = some r → f88_p17_15_P x1 x2 x3 x140 x139 x131 x115 x141 x142 r
 | 0, _, _, _, h => by cases h
 | k + 1, x141, x142, r, h => by
  unfold f88_p17_15 at h
  obtain ⟨x143, h242, h⟩ := bind_some h
  try dsimp only at h
  by_cases h243 : (decide (x142 ≤ x143)) = true
  ·rw [if_pos h243] at h
   obtain ⟨x144, h244, h⟩ := bind_some h
   try dsimp only at h
   by_cases h245 : (decide ((w64 (x142 * x144)) ≤ x140)) = true
   ·rw [if_pos h245] at h
    obtain ⟨h246, h⟩ := req_some h
    obtain ⟨h247, h⟩ := req_some h
    obtain ⟨x145, h248, h⟩ := bind_some h
    try dsimp only at h
    exact Lp.again (gRun_ok cxOK (f88_p17_15_e0 x1 x2 x3 x115 x131 x139 x140 x141 x142 x143 x144 x145) ⟨⟨(at?_spec h242).1, x143, (at?_spec h242).2, rfl⟩, h243, h243, h243, h243, ⟨(at?_spec h244).1, x144, (at?_spec h244).2, rfl⟩, h243, h243, h243, h243, h243, h245, h246, ⟨(at?_spec h244).1, x144, (at?_spec h244).2, rfl⟩, h247, ⟨x145, h248, rfl⟩, trivial⟩) (f88_p17_15_ok F x1 x2 x3 x140 x139 x131 x115 k (if (w64 (x142 + x145)) < x141 then (w64 (x142 + x145)) else x141) (w64 (x142 + 1)) r h)
   ·rw [if_neg h245] at h
    have h245 := eF h245
    obtain rfl := sI h
    exact Lp.out (gRun_ok cxOK (f88_p17_15_e1 x1 x2 x3 x115 x131 x139 x140 x141 x142 x143 x144) ⟨⟨(at?_spec h242).1, x143, (at?_spec h242).2, rfl⟩, h243, h243, h243, h243, ⟨(at?_spec h244).1, x144, (at?_spec h244).2, rfl⟩, h243, h243, h243, h243, h243, h245, trivial⟩) (by intro hh; cases hh)
  ·rw [if_neg h243] at h
   have h243 := eF h243
   obtain rfl := sI h
   exact Lp.out (gRun_ok cxOK (f88_p17_15_e2 x1 x2 x3 x115 x131 x139 x140 x141 x142 x143) ⟨⟨(at?_spec h242).1, x143, (at?_spec h242).2, rfl⟩, h243, h243, h243, h243, h243, h243, h243, h243, h243, rfl, trivial⟩) (by intro hh; cases hh)
theorem f88_p13_7_ok (F : Nat) (x1 x2 : LI) (x3 : Int) (x131 x115 : LI) : ∀ (k : Nat) (x140 : Int) (x139 : LI) (r : (List Int)), f88_p13_7 F x1 x2 x3 x131 x115 k x140 x139 = some r → f88_p13_7_P x1 x2 x3 x131 x115 x140 x139 r
 | 0, _, _, _, h => by cases h
 | k + 1, x140, x139, r, h => by
  unfold f88_p13_7 at h
  by_cases h241 : (decide (x140 ≤ x3)) = true
  ·rw [if_pos h241] at h
   obtain ⟨x146, h249, h⟩ := bind_some h
   have ch249 := f88_p17_15_ok F x1 x2 x3 x140 x139 x131 x115 F 1048576 0 _ h249
   try dsimp only at h
   obtain ⟨h250, h⟩ := req_some h
   obtain ⟨h251, h⟩ := req_some h
   obtain ⟨h252, h⟩ := req_some h
   exact Lp.again (gRun_ok cxOK (f88_p13_7_e0 x1 x2 x3 x115 x131 x139 x140 x146) ⟨h241, ch249, h250, h251, h252, trivial⟩) (f88_p13_7_ok F x1 x2 x3 x131 x115 k (w64 (x140 + 1)) (List.set x139 (0 + (Int.toNat x140)) x146) r h)
  ·rw [if_neg h241] at h
   have h241 := eF h241
   obtain rfl := sI h
   exact Lp.out (gRun_ok cxOK (f88_p13_7_e1 x1 x2 x3 x115 x131 x139 x140) ⟨h241, trivial⟩) (by intro hh; cases hh)
theorem f88_p17_17_ok (F : Nat) (x1 x2 : LI) (x3 x156 : Int) (x155 x147 : LI) (x131 x115 : LI) : ∀ (k : Nat) (x157 x158 : Int) (r : Int), f88_p17_17 F x1 x2 x3 x156 x155 x147 x131 x115 k x157 x158 = some r → f88_p17_17_P x1 x2 x3 x156 x155 x147 x131 x115 x157 x158 r
 | 0, _, _, _, h => by cases h
 | k + 1, x157, x158, r, h => by
  unfold f88_p17_17 at h
  obtain ⟨x159, h267, h⟩ := bind_some h
  try dsimp only at h
  by_cases h268 : (decide (x158 ≤ x159)) = true
  ·rw [if_pos h268] at h
   obtain ⟨x160, h269, h⟩ := bind_some h
   try dsimp only at h
   by_cases h270 : (decide ((w64 (x158 * x160)) ≤ x156)) = true
   ·rw [if_pos h270] at h
    obtain ⟨h271, h⟩ := req_some h
    obtain ⟨h272, h⟩ := req_some h
    obtain ⟨x161, h273, h⟩ := bind_some h
    try dsimp only at h
    exact Lp.again (gRun_ok cxOK (f88_p17_17_e0 x1 x2 x3 x115 x131 x147 x155 x156 x157 x158 x159 x160 x161) ⟨⟨(at?_spec h267).1, x159, (at?_spec h267).2, rfl⟩, h268, h268, h268, h268, ⟨(at?_spec h269).1, x160, (at?_spec h269).2, rfl⟩, h268, h268, h268, h268, h268, h270, h271, ⟨(at?_spec h269).1, x160, (at?_spec h269).2, rfl⟩, h272, ⟨x161, h273, rfl⟩, trivial⟩) (f88_p17_17_ok F x1 x2 x3 x156 x155 x147 x131 x115 k (if (w64 (x158 + x161)) < x157 then (w64 (x158 + x161)) else x157) (w64 (x158 + 1)) r h)
   ·rw [if_neg h270] at h
    have h270 := eF h270
    obtain rfl := sI h
    exact Lp.out (gRun_ok cxOK (f88_p17_17_e1 x1 x2 x3 x115 x131 x147 x155 x156 x157 x158 x159 x160) ⟨⟨(at?_spec h267).1, x159, (at?_spec h267).2, rfl⟩, h268, h268, h268, h268, ⟨(at?_spec h269).1, x160, (at?_spec h269).2, rfl⟩, h268, h268, h268, h268, h268, h270, trivial⟩) (by intro hh; cases hh)
  ·rw [if_neg h268] at h
   have h268 := eF h268
   obtain rfl := sI h
   exact Lp.out (gRun_ok cxOK (f88_p17_17_e2 x1 x2 x3 x115 x131 x147 x155 x156 x157 x158 x159) ⟨⟨(at?_spec h267).1, x159, (at?_spec h267).2, rfl⟩, h268, h268, h268, h268, h268, h268, h268, h268, h268, rfl, trivial⟩) (by intro hh; cases hh)
theorem f88_p13_8_ok (F : Nat) (x1 x2 : LI) (x3 : Int) (x147 x131 x115 : LI) : ∀ (k : Nat) (x156 : Int) (x155 : LI) (r : (List Int)), f88_p13_8 F x1 x2 x3 x147 x131 x115 k x156 x155 = some r → f88_p13_8_P x1 x2 x3 x147 x131 x115 x156 x155 r
 | 0, _, _, _, h => by cases h
 | k + 1, x156, x155, r, h => by
  unfold f88_p13_8 at h
  by_cases h266 : (decide (x156 ≤ x3)) = true
  ·rw [if_pos h266] at h
   obtain ⟨x162, h274, h⟩ := bind_some h
   have ch274 := f88_p17_17_ok F x1 x2 x3 x156 x155 x147 x131 x115 F 1048576 0 _ h274
   try dsimp only at h
   obtain ⟨h275, h⟩ := req_some h
   obtain ⟨h276, h⟩ := req_some h
   obtain ⟨h277, h⟩ := req_some h
   exact Lp.again (gRun_ok cxOK (f88_p13_8_e0 x1 x2 x3 x115 x131 x147 x155 x156 x162) ⟨h266, ch274, h275, h276, h277, trivial⟩) (f88_p13_8_ok F x1 x2 x3 x147 x131 x115 k (w64 (x156 + 1)) (List.set x155 (0 + (Int.toNat x156)) x162) r h)
  ·rw [if_neg h266] at h
   have h266 := eF h266
   obtain rfl := sI h
   exact Lp.out (gRun_ok cxOK (f88_p13_8_e1 x1 x2 x3 x115 x131 x147 x155 x156) ⟨h266, trivial⟩) (by intro hh; cases hh)
theorem f88_p17_19_ok (F : Nat) (x1 x2 : LI) (x3 x172 : Int) (x171 x163 : LI) (x147 x131 x115 : LI) : ∀ (k : Nat) (x173 x174 : Int) (r : Int), f88_p17_19 F x1 x2 x3 x172 x171 x163 x147 x131 x115 k x173 x174 = some r → f88_p17_19_P x1 x2 x3 x172 x171 x163 x147 x131 x115 x173 x174 r
 | 0, _, _, _, h => by cases h
 | k + 1, x173, x174, r, h => by
  unfold f88_p17_19 at h
  obtain ⟨x175, h292, h⟩ := bind_some h
  try dsimp only at h
  by_cases h293 : (decide (x174 ≤ x175)) = true
  ·rw [if_pos h293] at h
   obtain ⟨x176, h294, h⟩ := bind_some h
   try dsimp only at h
   by_cases h295 : (decide ((w64 (x174 * x176)) ≤ x172)) = true
   ·rw [if_pos h295] at h
    obtain ⟨h296, h⟩ := req_some h
    obtain ⟨h297, h⟩ := req_some h
    obtain ⟨x177, h298, h⟩ := bind_some h
    try dsimp only at h
    exact Lp.again (gRun_ok cxOK (f88_p17_19_e0 x1 x2 x3 x115 x131 x147 x163 x171 x172 x173 x174 x175 x176 x177) ⟨⟨(at?_spec h292).1, x175, (at?_spec h292).2, rfl⟩, h293, h293, h293, h293, ⟨(at?_spec h294).1, x176, (at?_spec h294).2, rfl⟩, h293, h293, h293, h293, h293, h295, h296, ⟨(at?_spec h294).1, x176, (at?_spec h294).2, rfl⟩, h297, ⟨x177, h298, rfl⟩, trivial⟩) (f88_p17_19_ok F x1 x2 x3 x172 x171 x163 x147 x131 x115 k (if (w64 (x174 + x177)) < x173 then (w64 (x174 + x177)) else x173) (w64 (x174 + 1)) r h)
   ·rw [if_neg h295] at h
    have h295 := eF h295
    obtain rfl := sI h
    exact Lp.out (gRun_ok cxOK (f88_p17_19_e1 x1 x2 x3 x115 x131 x147 x163 x171 x172 x173 x174 x175 x176) ⟨⟨(at?_spec h292).1, x175, (at?_spec h292).2, rfl⟩, h293, h293, h293, h293, ⟨(at?_spec h294).1, x176, (at?_spec h294).2, rfl⟩, h293, h293, h293, h293, h293, h295, trivial⟩) (by intro hh; cases hh)
  ·rw [if_neg h293] at h
   have h293 := eF h293
   obtain rfl := sI h
   exact Lp.out (gRun_ok cxOK (f88_p17_19_e2 x1 x2 x3 x115 x131 x147 x163 x171 x172 x173 x174 x175) ⟨⟨(at?_spec h292).1, x175, (at?_spec h292).2, rfl⟩, h293, h293, h293, h293, h293, h293, h293, h293, h293, rfl, trivial⟩) (by intro hh; cases hh)
theorem f88_p13_9_ok (F : Nat) (x1 x2 : LI) (x3 : Int) (x163 x147 : LI) (x131 x115 : LI) : ∀ (k : Nat) (x172 : Int) (x171 : LI) (r : (List Int)), f88_p13_9 F x1 x2 x3 x163 x147 x131 x115 k x172 x171 = some r → f88_p13_9_P x1 x2 x3 x163 x147 x131 x115 x172 x171 r
 | 0, _, _, _, h => by cases h
 | k + 1, x172, x171, r, h => by
  unfold f88_p13_9 at h
  by_cases h291 : (decide (x172 ≤ x3)) = true
  ·rw [if_pos h291] at h
   obtain ⟨x178, h299, h⟩ := bind_some h
   have ch299 := f88_p17_19_ok F x1 x2 x3 x172 x171 x163 x147 x131 x115 F 1048576 0 _ h299
   try dsimp only at h
   obtain ⟨h300, h⟩ := req_some h
   obtain ⟨h301, h⟩ := req_some h
   obtain ⟨h302, h⟩ := req_some h
   exact Lp.again (gRun_ok cxOK (f88_p13_9_e0 x1 x2 x3 x115 x131 x147 x163 x171 x172 x178) ⟨h291, ch299, h300, h301, h302, trivial⟩) (f88_p13_9_ok F x1 x2 x3 x163 x147 x131 x115 k (w64 (x172 + 1)) (List.set x171 (0 + (Int.toNat x172)) x178) r h)
  ·rw [if_neg h291] at h
   have h291 := eF h291
   obtain rfl := sI h
   exact Lp.out (gRun_ok cxOK (f88_p13_9_e1 x1 x2 x3 x115 x131 x147 x163 x171 x172) ⟨h291, trivial⟩) (by intro hh; cases hh)
theorem f88_p5_4_ok (F : Nat) (x1 x2 : LI) (x3 : Int) : ∀ (k : Nat) (x182 : Int) (x181 : LI) (r : (List Int)), f88_p5_4 F x1 x2 x3 k x182 x181 = some r → f88_p5_4_P x1 x2 x3 x182 x181 r
 | 0, _, _, _, h => by cases h
 | k + 1, x182, x181, r, h => by
  unfold f88_p5_4 at h
  by_cases h315 : (decide (x182 ≤ x3)) = true
  ·rw [if_pos h315] at h
   obtain ⟨h316, h⟩ := req_some h
   obtain ⟨h317, h⟩ := req_some h
   obtain ⟨h318, h⟩ := req_some h
   exact Lp.again (gRun_ok cxOK (f88_p5_4_e0 x1 x2 x3 x181 x182) ⟨h315, h316, h317, h318, trivial⟩) (f88_p5_4_ok F x1 x2 x3 k (w64 (x182 + 1)) (List.set x181 (0 + (Int.toNat x182)) 1048576) r h)
  ·rw [if_neg h315] at h
   have h315 := eF h315
   obtain rfl := sI h
   exact Lp.out (gRun_ok cxOK (f88_p5_4_e1 x1 x2 x3 x181 x182) ⟨h315, trivial⟩) (by intro hh; cases hh)
theorem f88_p17_21_ok (F : Nat) (x1 x2 : LI) (x3 x192 : Int) (x191 x183 : LI) : ∀ (k : Nat) (x193 x194 : Int) (r : Int), f88_p17_21 F x1 x2 x3 x192 x191 x183 k x193 x194 = some r → f88_p17_21_P x1 x2 x3 x192 x191 x183 x193 x194 r
 | 0, _, _, _, h => by cases h
 | k + 1, x193, x194, r, h => by
  unfold f88_p17_21 at h
  obtain ⟨x195, h333, h⟩ := bind_some h
  try dsimp only at h
  by_cases h334 : (decide (x194 ≤ x195)) = true
  ·rw [if_pos h334] at h
   obtain ⟨x196, h335, h⟩ := bind_some h
   try dsimp only at h
   by_cases h336 : (decide ((w64 (x194 * x196)) ≤ x192)) = true
   ·rw [if_pos h336] at h
    obtain ⟨h337, h⟩ := req_some h
    obtain ⟨h338, h⟩ := req_some h
    obtain ⟨x197, h339, h⟩ := bind_some h
    try dsimp only at h
    exact Lp.again (gRun_ok cxOK (f88_p17_21_e0 x1 x2 x3 x183 x191 x192 x193 x194 x195 x196 x197) ⟨⟨(at?_spec h333).1, x195, (at?_spec h333).2, rfl⟩, h334, h334, h334, h334, ⟨(at?_spec h335).1, x196, (at?_spec h335).2, rfl⟩, h334, h334, h334, h334, h334, h336, h337, ⟨(at?_spec h335).1, x196, (at?_spec h335).2, rfl⟩, h338, ⟨x197, h339, rfl⟩, trivial⟩) (f88_p17_21_ok F x1 x2 x3 x192 x191 x183 k (if (w64 (x194 + x197)) < x193 then (w64 (x194 + x197)) else x193) (w64 (x194 + 1)) r h)
   ·rw [if_neg h336] at h
    have h336 := eF h336
    obtain rfl := sI h
    exact Lp.out (gRun_ok cxOK (f88_p17_21_e1 x1 x2 x3 x183 x191 x192 x193 x194 x195 x196) ⟨⟨(at?_spec h333).1, x195, (at?_spec h333).2, rfl⟩, h334, h334, h334, h334, ⟨(at?_spec h335).1, x196, (at?_spec h335).2, rfl⟩, h334, h334, h334, h334, h334, h336, trivial⟩) (by intro hh; cases hh)
  ·rw [if_neg h334] at h
   have h334 := eF h334
   obtain rfl := sI h
   exact Lp.out (gRun_ok cxOK (f88_p17_21_e2 x1 x2 x3 x183 x191 x192 x193 x194 x195) ⟨⟨(at?_spec h333).1, x195, (at?_spec h333).2, rfl⟩, h334, h334, h334, h334, h334, h334, h334, h334, h334, rfl, trivial⟩) (by intro hh; cases hh)
theorem f88_p13_10_ok (F : Nat) (x1 x2 : LI) (x3 : Int) (x183 : LI) : ∀ (k : Nat) (x192 : Int) (x191 : LI) (r : (List Int)), f88_p13_10 F x1 x2 x3 x183 k x192 x191 = some r → f88_p13_10_P x1 x2 x3 x183 x192 x191 r
 | 0, _, _, _, h => by cases h
 | k + 1, x192, x191, r, h => by
  unfold f88_p13_10 at h
  by_cases h332 : (decide (x192 ≤ x3)) = true
  ·rw [if_pos h332] at h
   obtain ⟨x198, h340, h⟩ := bind_some h
   have ch340 := f88_p17_21_ok F x1 x2 x3 x192 x191 x183 F 1048576 0 _ h340
   try dsimp only at h
   obtain ⟨h341, h⟩ := req_some h
   obtain ⟨h342, h⟩ := req_some h
   obtain ⟨h343, h⟩ := req_some h
   exact Lp.again (gRun_ok cxOK (f88_p13_10_e0 x1 x2 x3 x183 x191 x192 x198) ⟨h332, ch340, h341, h342, h343, trivial⟩) (f88_p13_10_ok F x1 x2 x3 x183 k (w64 (x192 + 1)) (List.set x191 (0 + (Int.toNat x192)) x198) r h)
  ·rw [if_neg h332] at h
   have h332 := eF h332
   obtain rfl := sI h
   exact Lp.out (gRun_ok cxOK (f88_p13_10_e1 x1 x2 x3 x183 x191 x192) ⟨h332, trivial⟩) (by intro hh; cases hh)
theorem f88_p17_23_ok (F : Nat) (x1 x2 : LI) (x3 x208 : Int) (x207 x199 x183 : LI) : ∀ (k : Nat) (x209 x210 : Int) (r : Int), f88_p17_23 F x1 x2 x3 x208 x207 x199 x183 k x209 x210 = some r → f88_p17_23_P x1 x2 x3 x208 x207 x199 x183 x209 x210 r
 | 0, _, _, _, h => by cases h
 | k + 1, x209, x210, r, h => by
  unfold f88_p17_23 at h
  obtain ⟨x211, h358, h⟩ := bind_some h
  try dsimp only at h
  by_cases h359 : (decide (x210 ≤ x211)) = true
  ·rw [if_pos h359] at h
   obtain ⟨x212, h360, h⟩ := bind_some h
   try dsimp only at h
   by_cases h361 : (decide ((w64 (x210 * x212)) ≤ x208)) = true
   ·rw [if_pos h361] at h
    obtain ⟨h362, h⟩ := req_some h
    obtain ⟨h363, h⟩ := req_some h
    obtain ⟨x213, h364, h⟩ := bind_some h
    try dsimp only at h
    exact Lp.again (gRun_ok cxOK (f88_p17_23_e0 x1 x2 x3 x183 x199 x207 x208 x209 x210 x211 x212 x213) ⟨⟨(at?_spec h358).1, x211, (at?_spec h358).2, rfl⟩, h359, h359, h359, h359, ⟨(at?_spec h360).1, x212, (at?_spec h360).2, rfl⟩, h359, h359, h359, h359, h359, h361, h362, ⟨(at?_spec h360).1, x212, (at?_spec h360).2, rfl⟩, h363, ⟨x213, h364, rfl⟩, trivial⟩) (f88_p17_23_ok F x1 x2 x3 x208 x207 x199 x183 k (if (w64 (x210 + x213)) < x209 then (w64 (x210 + x213)) else x209) (w64 (x210 + 1)) r h)
   ·rw [if_neg h361] at h
    have h361 := eF h361
    obtain rfl := sI h
    exact Lp.out (gRun_ok cxOK (f88_p17_23_e1 x1 x2 x3 x183 x199 x207 x208 x209 x210 x211 x212) ⟨⟨(at?_spec h358).1, x211, (at?_spec h358).2, rfl⟩, h359, h359, h359, h359, ⟨(at?_spec h360).1, x212, (at?_spec h360).2, rfl⟩, h359, h359, h359, h359, h359, h361, trivial⟩) (by intro hh; cases hh)
  ·rw [if_neg h359] at h
   have h359 := eF h359
   obtain rfl := sI h
   exact Lp.out (gRun_ok cxOK (f88_p17_23_e2 x1 x2 x3 x183 x199 x207 x208 x209 x210 x211) ⟨⟨(at?_spec h358).1, x211, (at?_spec h358).2, rfl⟩, h359, h359, h359, h359, h359, h359, h359, h359, h359, rfl, trivial⟩) (by intro hh; cases hh)
theorem f88_p13_11_ok (F : Nat) (x1 x2 : LI) (x3 : Int) (x199 x183 : LI) : ∀ (k : Nat) (x208 : Int) (x207 : LI) (r : (List Int)), f88_p13_11 F x1 x2 x3 x199 x183 k x208 x207 = some r → f88_p13_11_P x1 x2 x3 x199 x183 x208 x207 r
 | 0, _, _, _, h => by cases h
 | k + 1, x208, x207, r, h => by
  unfold f88_p13_11 at h
  by_cases h357 : (decide (x208 ≤ x3)) = true
  ·rw [if_pos h357] at h
   obtain ⟨x214, h365, h⟩ := bind_some h
   have ch365 := f88_p17_23_ok F x1 x2 x3 x208 x207 x199 x183 F 1048576 0 _ h365
   try dsimp only at h
   obtain ⟨h366, h⟩ := req_some h
   obtain ⟨h367, h⟩ := req_some h
   obtain ⟨h368, h⟩ := req_some h
   exact Lp.again (gRun_ok cxOK (f88_p13_11_e0 x1 x2 x3 x183 x199 x207 x208 x214) ⟨h357, ch365, h366, h367, h368, trivial⟩) (f88_p13_11_ok F x1 x2 x3 x199 x183 k (w64 (x208 + 1)) (List.set x207 (0 + (Int.toNat x208)) x214) r h)
  ·rw [if_neg h357] at h
   have h357 := eF h357
   obtain rfl := sI h
   exact Lp.out (gRun_ok cxOK (f88_p13_11_e1 x1 x2 x3 x183 x199 x207 x208) ⟨h357, trivial⟩) (by intro hh; cases hh)
theorem f88_p17_25_ok (F : Nat) (x1 x2 : LI) (x3 x224 : Int) (x223 x215 : LI) (x199 x183 : LI) : ∀ (k : Nat) (x225 x226 : Int) (r : Int), f88_p17_25 F x1 x2 x3 x224 x223 x215 x199 x183 k x225 x226 = some r → f88_p17_25_P x1 x2 x3 x224 x223 x215 x199 x183 x225 x226 r
 | 0, _, _, _, h => by cases h
 | k + 1, x225, x226, r, h => by
  unfold f88_p17_25 at h
  obtain ⟨x227, h383, h⟩ := bind_some h
  try dsimp only at h
  by_cases h384 : (decide (x226 ≤ x227)) = true
  ·rw [if_pos h384] at h
   obtain ⟨x228, h385, h⟩ := bind_some h
   try dsimp only at h
   by_cases h386 : (decide ((w64 (x226 * x228)) ≤ x224)) = true
   ·rw [if_pos h386] at h
    obtain ⟨h387, h⟩ := req_some h
    obtain ⟨h388, h⟩ := req_some h
    obtain ⟨x229, h389, h⟩ := bind_some h
    try dsimp only at h
    exact Lp.again (gRun_ok cxOK (f88_p17_25_e0 x1 x2 x3 x183 x199 x215 x223 x224 x225 x226 x227 x228 x229) ⟨⟨(at?_spec h383).1, x227, (at?_spec h383).2, rfl⟩, h384, h384, h384, h384, ⟨(at?_spec h385).1, x228, (at?_spec h385).2, rfl⟩, h384, h384, h384, h384, h384, h386, h387, ⟨(at?_spec h385).1, x228, (at?_spec h385).2, rfl⟩, h388, ⟨x229, h389, rfl⟩, trivial⟩) (f88_p17_25_ok F x1 x2 x3 x224 x223 x215 x199 x183 k (if (w64 (x226 + x229)) < x225 then (w64 (x226 + x229)) else x225) (w64 (x226 + 1)) r h)
   ·rw [if_neg h386] at h
    have h386 := eF h386
    obtain rfl := sI h
    exact Lp.out (gRun_ok cxOK (f88_p17_25_e1 x1 x2 x3 x183 x199 x215 x223 x224 x225 x226 x227 x228) ⟨⟨(at?_spec h383).1, x227, (at?_spec h383).2, rfl⟩, h384, h384, h384, h384, ⟨(at?_spec h385).1, x228, (at?_spec h385).2, rfl⟩, h384, h384, h384, h384, h384, h386, trivial⟩) (by intro hh; cases hh)
  ·rw [if_neg h384] at h
   have h384 := eF h384
   obtain rfl := sI h
   exact Lp.out (gRun_ok cxOK (f88_p17_25_e2 x1 x2 x3 x183 x199 x215 x223 x224 x225 x226 x227) ⟨⟨(at?_spec h383).1, x227, (at?_spec h383).2, rfl⟩, h384, h384, h384, h384, h384, h384, h384, h384, h384, rfl, trivial⟩) (by intro hh; cases hh)
theorem f88_p13_12_ok (F : Nat) (x1 x2 : LI) (x3 : Int) (x215 x199 x183 : LI) : ∀ (k : Nat) (x224 : Int) (x223 : LI) (r : (List Int)), f88_p13_12 F x1 x2 x3 x215 x199 x183 k x224 x223 = some r → f88_p13_12_P x1 x2 x3 x215 x199 x183 x224 x223 r
 | 0, _, _, _, h => by cases h
 | k + 1, x224, x223, r, h => by
  unfold f88_p13_12 at h
  by_cases h382 : (decide (x224 ≤ x3)) = true
  ·rw [if_pos h382] at h
   obtain ⟨x230, h390, h⟩ := bind_some h
   have ch390 := f88_p17_25_ok F x1 x2 x3 x224 x223 x215 x199 x183 F 1048576 0 _ h390
   try dsimp only at h
   obtain ⟨h391, h⟩ := req_some h
   obtain ⟨h392, h⟩ := req_some h
   obtain ⟨h393, h⟩ := req_some h
   exact Lp.again (gRun_ok cxOK (f88_p13_12_e0 x1 x2 x3 x183 x199 x215 x223 x224 x230) ⟨h382, ch390, h391, h392, h393, trivial⟩) (f88_p13_12_ok F x1 x2 x3 x215 x199 x183 k (w64 (x224 + 1)) (List.set x223 (0 + (Int.toNat x224)) x230) r h)
  ·rw [if_neg h382] at h
   have h382 := eF h382
   obtain rfl := sI h
   exact Lp.out (gRun_ok cxOK (f88_p13_12_e1 x1 x2 x3 x183 x199 x215 x223 x224) ⟨h382, trivial⟩) (by intro hh; cases hh)
theorem f88_p17_27_ok (F : Nat) (x1 x2 : LI) (x3 x240 : Int) (x239 x231 : LI) (x215 x199 x183 : LI) : ∀ (k : Nat) (x241 x242 : Int) (r : Int), f88_p17_27 F x1 x2 x3 x240 x239 x231 x215 x199 x183 k x241 x242 = some r → f88_p17_27_P x1 x2 x3 x240 x239 x231 x215 x199 x183 x241 x242 r
 | 0, _, _, _, h => by cases h
 | k + 1, x241, x242, r, h => by
  unfold f88_p17_27 at h
  obtain ⟨x243, h408, h⟩ := bind_some h
  try dsimp only at h
  by_cases h409 : (decide (x242 ≤ x243)) = true
  ·rw [if_pos h409] at h
   obtain ⟨x244, h410, h⟩ := bind_some h
   try dsimp only at h
   by_cases h411 : (decide ((w64 (x242 * x244)) ≤ x240)) = true
   ·rw [if_pos h411] at h
    obtain ⟨h412, h⟩ := req_some h
    obtain ⟨h413, h⟩ := req_some h
    obtain ⟨x245, h414, h⟩ := bind_some h
    try dsimp only at h
    exact Lp.again (gRun_ok cxOK (f88_p17_27_e0 x1 x2 x3 x183 x199 x215 x231 x239 x240 x241 x242 x243 x244 x245) ⟨⟨(at?_spec h408).1, x243, (at?_spec h408).2, rfl⟩, h409, h409, h409, h409, ⟨(at?_spec h410).1, x244, (at?_spec h410).2, rfl⟩, h409, h409, h409, h409, h409, h411, h412, ⟨(at?_spec h410).1, x244, (at?_spec h410).2, rfl⟩, h413, ⟨x245, h414, rfl⟩, trivial⟩) (f88_p17_27_ok F x1 x2 x3 x240 x239 x231 x215 x199 x183 k (if (w64 (x242 + x245)) < x241 then (w64 (x242 + x245)) else x241) (w64 (x242 + 1)) r h)
   ·rw [if_neg h411] at h
    have h411 := eF h411
    obtain rfl := sI h
    exact Lp.out (gRun_ok cxOK (f88_p17_27_e1 x1 x2 x3 x183 x199 x215 x231 x239 x240 x241 x242 x243 x244) ⟨⟨(at?_spec h408).1, x243, (at?_spec h408).2, rfl⟩, h409, h409, h409, h409, ⟨(at?_spec h410).1, x244, (at?_spec h410).2, rfl⟩, h409, h409, h409, h409, h409, h411, trivial⟩) (by intro hh; cases hh)
  ·rw [if_neg h409] at h
   have h409 := eF h409
   obtain rfl := sI h
   exact Lp.out (gRun_ok cxOK (f88_p17_27_e2 x1 x2 x3 x183 x199 x215 x231 x239 x240 x241 x242 x243) ⟨⟨(at?_spec h408).1, x243, (at?_spec h408).2, rfl⟩, h409, h409, h409, h409, h409, h409, h409, h409, h409, rfl, trivial⟩) (by intro hh; cases hh)
theorem f88_p13_13_ok (F : Nat) (x1 x2 : LI) (x3 : Int) (x231 x215 : LI) (x199 x183 : LI) : ∀ (k : Nat) (x240 : Int) (x239 : LI) (r : (List Int)), f88_p13_13 F x1 x2 x3 x231 x215 x199 x183 k x240 x239 = some r → f88_p13_13_P x1 x2 x3 x231 x215 x199 x183 x240 x239 r
 | 0, _, _, _, h => by cases h
 | k + 1, x240, x239, r, h => by
  unfold f88_p13_13 at h
  by_cases h407 : (decide (x240 ≤ x3)) = true
  ·rw [if_pos h407] at h
   obtain ⟨x246, h415, h⟩ := bind_some h
   have ch415 := f88_p17_27_ok F x1 x2 x3 x240 x239 x231 x215 x199 x183 F 1048576 0 _ h415
   try dsimp only at h
   obtain ⟨h416, h⟩ := req_some h
   obtain ⟨h417, h⟩ := req_some h
   obtain ⟨h418, h⟩ := req_some h
   exact Lp.again (gRun_ok cxOK (f88_p13_13_e0 x1 x2 x3 x183 x199 x215 x231 x239 x240 x246) ⟨h407, ch415, h416, h417, h418, trivial⟩) (f88_p13_13_ok F x1 x2 x3 x231 x215 x199 x183 k (w64 (x240 + 1)) (List.set x239 (0 + (Int.toNat x240)) x246) r h)
  ·rw [if_neg h407] at h
   have h407 := eF h407
   obtain rfl := sI h
   exact Lp.out (gRun_ok cxOK (f88_p13_13_e1 x1 x2 x3 x183 x199 x215 x231 x239 x240) ⟨h407, trivial⟩) (by intro hh; cases hh)
theorem f88_p17_29_ok (F : Nat) (x1 x2 : LI) (x3 x256 : Int) (x255 x247 : LI) (x231 x215 : LI) (x199 x183 : LI) : ∀ (k : Nat) (x257 x258 : Int) (r : Int), f88_p17_29 F x1 x2 x3 x256 x255 x247 x231 x215 x199 x183 k x257 x258 = some r → f88_p17_29_P x1 x2 x3 x256 x255 x247 x231 x215 x199 x183 x257 x258 r
 | 0, _, _, _, h => by cases h
 | k + 1, x257, x258, r, h => by
  unfold f88_p17_29 at h
  obtain ⟨x259, h433, h⟩ := bind_some h
  try dsimp only at h
  by_cases h434 : (decide (x258 ≤ x259)) = true
  ·rw [if_pos h434] at h
   obtain ⟨x260, h435, h⟩ := bind_some h
   try dsimp only at h
   by_cases h436 : (decide ((w64 (x258 * x260)) ≤ x256)) = true
   ·rw [if_pos h436] at h
    obtain ⟨h437, h⟩ := req_some h
    obtain ⟨h438, h⟩ := req_some h
    obtain ⟨x261, h439, h⟩ := bind_some h
    try dsimp only at h
    exact Lp.again (gRun_ok cxOK (f88_p17_29_e0 x1 x2 x3 x183 x199 x215 x231 x247 x255 x256 x257 x258 x259 x260 x261) ⟨⟨(at?_spec h433).1, x259, (at?_spec h433).2, rfl⟩, h434, h434, h434, h434, ⟨(at?_spec h435).1, x260, (at?_spec h435).2, rfl⟩, h434, h434, h434, h434, h434, h436, h437, ⟨(at?_spec h435).1, x260, (at?_spec h435).2, rfl⟩, h438, ⟨x261, h439, rfl⟩, trivial⟩) (f88_p17_29_ok F x1 x2 x3 x256 x255 x247 x231 x215 x199 x183 k (if (w64 (x258 + x261)) < x257 then (w64 (x258 + x261)) else x257) (w64 (x258 + 1)) r h)
   ·rw [if_neg h436] at h
    have h436 := eF h436
    obtain rfl := sI h
    exact Lp.out (gRun_ok cxOK (f88_p17_29_e1 x1 x2 x3 x183 x199 x215 x231 x247 x255 x256 x257 x258 x259 x260) ⟨⟨(at?_spec h433).1, x259, (at?_spec h433).2, rfl⟩, h434, h434, h434, h434, ⟨(at?_spec h435).1, x260, (at?_spec h435).2, rfl⟩, h434, h434, h434, h434, h434, h436, trivial⟩) (by intro hh; cases hh)
  ·rw [if_neg h434] at h
   have h434 := eF h434
   obtain rfl := sI h
   exact Lp.out (gRun_ok cxOK (f88_p17_29_e2 x1 x2 x3 x183 x199 x215 x231 x247 x255 x256 x257 x258 x259) ⟨⟨(at?_spec h433).1, x259, (at?_spec h433).2, rfl⟩, h434, h434, h434, h434, h434, h434, h434, h434, h434, rfl, trivial⟩) (by intro hh; cases hh)
theorem f88_p13_14_ok (F : Nat) (x1 x2 : LI) (x3 : Int) (x247 x231 : LI) (x215 x199 x183 : LI) : ∀ (k : Nat) (x256 : Int) (x255 : LI) (r : (List Int)), f88_p13_14 F x1 x2 x3 x247 x231 x215 x199 x183 k x256 x255 = some r → f88_p13_14_P x1 x2 x3 x247 x231 x215 x199 x183 x256 x255 r
 | 0, _, _, _, h => by cases h
 | k + 1, x256, x255, r, h => by
  unfold f88_p13_14 at h
  by_cases h432 : (decide (x256 ≤ x3)) = true
  ·rw [if_pos h432] at h
   obtain ⟨x262, h440, h⟩ := bind_some h
   have ch440 := f88_p17_29_ok F x1 x2 x3 x256 x255 x247 x231 x215 x199 x183 F 1048576 0 _ h440
   try dsimp only at h
   obtain ⟨h441, h⟩ := req_some h
   obtain ⟨h442, h⟩ := req_some h
   obtain ⟨h443, h⟩ := req_some h
   exact Lp.again (gRun_ok cxOK (f88_p13_14_e0 x1 x2 x3 x183 x199 x215 x231 x247 x255 x256 x262) ⟨h432, ch440, h441, h442, h443, trivial⟩) (f88_p13_14_ok F x1 x2 x3 x247 x231 x215 x199 x183 k (w64 (x256 + 1)) (List.set x255 (0 + (Int.toNat x256)) x262) r h)
  ·rw [if_neg h432] at h
   have h432 := eF h432
   obtain rfl := sI h
   exact Lp.out (gRun_ok cxOK (f88_p13_14_e1 x1 x2 x3 x183 x199 x215 x231 x247 x255 x256) ⟨h432, trivial⟩) (by intro hh; cases hh)
theorem f88_ok (F : Nat) (x1 x2 : LI) (x3 : Int) (r : (List (List Int))) (h : f88 F x1 x2 x3 = some r) : f88_C x1 x2 x3 r := by
 unfold f88 at h
 by_cases h1 : (((List.length x1 : Nat) : Int) == 1) = true
 ·rw [if_pos h1] at h
  obtain ⟨h2, h⟩ := req_some h
  obtain ⟨x7, h11, h⟩ := bind_some h
  have ch11 := f88_p5_ok F x1 x2 x3 F 1 (List.replicate (Int.toNat (w64 (x3 + 1))) (0 : Int)) _ h11
  try dsimp only at h
  obtain ⟨x23, h36, h⟩ := bind_some h
  have ch36 := f88_p13_ok F x1 x2 x3 x7 F 0 (List.replicate (Int.toNat (w64 (x3 + 1))) (0 : Int)) _ h36
  try dsimp only at h
  obtain ⟨h37, h⟩ := req_some h
  obtain ⟨h38, h⟩ := req_some h
  obtain rfl := sI h
  exact callOK cxOK cxW Try.func88 (by kernel_rfl) (f88_e0 x1 x2 x3 x7 x23) ⟨(by rw [eL h1]; decide), (by rw [eL h1]; decide), h2, (by decide), (by rw [eL h1]; decide), h2, (by decide), (by rw [eL h1]; decide), ch11, (by rw [eL h1]; decide), ch36, (by rw [eL h1]; decide), h37, h38, ⟨rfl, rfl⟩, trivial⟩
 ·rw [if_neg h1] at h
  have h1 := eF h1
  by_cases h39 : (((List.length x1 : Nat) : Int) == 2) = true
  ·rw [if_pos h39] at h
   obtain ⟨h40, h⟩ := req_some h
   obtain ⟨x27, h49, h⟩ := bind_some h
   have ch49 := f88_p5_1_ok F x1 x2 x3 F 1 (List.replicate (Int.toNat (w64 (x3 + 1))) (0 : Int)) _ h49
   try dsimp only at h
   obtain ⟨x43, h74, h⟩ := bind_some h
   have ch74 := f88_p13_1_ok F x1 x2 x3 x27 F 0 (List.replicate (Int.toNat (w64 (x3 + 1))) (0 : Int)) _ h74
   try dsimp only at h
   obtain ⟨x59, h99, h⟩ := bind_some h
   have ch99 := f88_p13_2_ok F x1 x2 x3 x43 x27 F 0 (List.replicate (Int.toNat (w64 (x3 + 1))) (0 : Int)) _ h99
   try dsimp only at h
   obtain ⟨h100, h⟩ := req_some h
   obtain ⟨h101, h⟩ := req_some h
   obtain ⟨h102, h⟩ := req_some h
   obtain rfl := sI h
   exact callOK cxOK cxW Try.func88 (by kernel_rfl) (f88_e1 x1 x2 x3 x27 x43 x59) ⟨(by rw [eL h39]; decide), (by rw [eL h39]; decide), h40, (by decide), (by rw [eL h39]; decide), h40, (by decide), (by rw [eL h39]; decide), h40, (by decide), (by rw [eL h39]; decide), ch49, (by rw [eL h39]; decide), ch74, (by rw [eL h39]; decide), ch99, (by rw [eL h39]; decide), h100, h101, h102, ⟨rfl, rfl⟩, trivial⟩
  ·rw [if_neg h39] at h
   have h39 := eF h39
   by_cases h103 : (((List.length x1 : Nat) : Int) == 3) = true
   ·rw [if_pos h103] at h
    obtain ⟨h104, h⟩ := req_some h
    obtain ⟨x63, h113, h⟩ := bind_some h
    have ch113 := f88_p5_2_ok F x1 x2 x3 F 1 (List.replicate (Int.toNat (w64 (x3 + 1))) (0 : Int)) _ h113
    try dsimp only at h
    obtain ⟨x79, h138, h⟩ := bind_some h
    have ch138 := f88_p13_3_ok F x1 x2 x3 x63 F 0 (List.replicate (Int.toNat (w64 (x3 + 1))) (0 : Int)) _ h138
    try dsimp only at h
    obtain ⟨x95, h163, h⟩ := bind_some h
    have ch163 := f88_p13_4_ok F x1 x2 x3 x79 x63 F 0 (List.replicate (Int.toNat (w64 (x3 + 1))) (0 : Int)) _ h163
    try dsimp only at h
    obtain ⟨x111, h188, h⟩ := bind_some h
    have ch188 := f88_p13_5_ok F x1 x2 x3 x95 x79 x63 F 0 (List.replicate (Int.toNat (w64 (x3 + 1))) (0 : Int)) _ h188
    try dsimp only at h
    obtain ⟨h189, h⟩ := req_some h
    obtain ⟨h190, h⟩ := req_some h
    obtain ⟨h191, h⟩ := req_some h
    obtain ⟨h192, h⟩ := req_some h
    obtain rfl := sI h
    exact callOK cxOK cxW Try.func88 (by kernel_rfl) (f88_e2 x1 x2 x3 x63 x79 x95 x111) ⟨(by rw [eL h103]; decide), (by rw [eL h103]; decide), h104, (by decide), (by rw [eL h103]; decide), h104, (by decide), (by rw [eL h103]; decide), h104, (by decide), (by rw [eL h103]; decide), h104, (by decide), (by rw [eL h103]; decide), ch113, (by rw [eL h103]; decide), ch138, (by rw [eL h103]; decide), ch163, (by rw [eL h103]; decide), ch188, (by rw [eL h103]; decide), h189, h190, h191, h192, ⟨rfl, rfl⟩, trivial⟩
   ·rw [if_neg h103] at h
    have h103 := eF h103
    by_cases h193 : (((List.length x1 : Nat) : Int) == 4) = true
    ·rw [if_pos h193] at h
     obtain ⟨h194, h⟩ := req_some h
     obtain ⟨x115, h203, h⟩ := bind_some h
     have ch203 := f88_p5_3_ok F x1 x2 x3 F 1 (List.replicate (Int.toNat (w64 (x3 + 1))) (0 : Int)) _ h203
     try dsimp only at h
     obtain ⟨x131, h228, h⟩ := bind_some h
     have ch228 := f88_p13_6_ok F x1 x2 x3 x115 F 0 (List.replicate (Int.toNat (w64 (x3 + 1))) (0 : Int)) _ h228
     try dsimp only at h
     obtain ⟨x147, h253, h⟩ := bind_some h
     have ch253 := f88_p13_7_ok F x1 x2 x3 x131 x115 F 0 (List.replicate (Int.toNat (w64 (x3 + 1))) (0 : Int)) _ h253
     try dsimp only at h
     obtain ⟨x163, h278, h⟩ := bind_some h
     have ch278 := f88_p13_8_ok F x1 x2 x3 x147 x131 x115 F 0 (List.replicate (Int.toNat (w64 (x3 + 1))) (0 : Int)) _ h278
     try dsimp only at h
     obtain ⟨x179, h303, h⟩ := bind_some h
     have ch303 := f88_p13_9_ok F x1 x2 x3 x163 x147 x131 x115 F 0 (List.replicate (Int.toNat (w64 (x3 + 1))) (0 : Int)) _ h303
     try dsimp only at h
     obtain ⟨h304, h⟩ := req_some h
     obtain ⟨h305, h⟩ := req_some h
     obtain ⟨h306, h⟩ := req_some h
     obtain ⟨h307, h⟩ := req_some h
     obtain ⟨h308, h⟩ := req_some h
     obtain rfl := sI h
     exact callOK cxOK cxW Try.func88 (by kernel_rfl) (f88_e3 x1 x2 x3 x115 x131 x147 x163 x179) ⟨(by rw [eL h193]; decide), (by rw [eL h193]; decide), h194, (by decide), (by rw [eL h193]; decide), h194, (by decide), (by rw [eL h193]; decide), h194, (by decide), (by rw [eL h193]; decide), h194, (by decide), (by rw [eL h193]; decide), h194, (by decide), (by rw [eL h193]; decide), ch203, (by rw [eL h193]; decide), ch228, (by rw [eL h193]; decide), ch253, (by rw [eL h193]; decide), ch278, (by rw [eL h193]; decide), ch303, (by rw [eL h193]; decide), h304, h305, h306, h307, h308, ⟨rfl, rfl⟩, trivial⟩
    ·rw [if_neg h193] at h
     have h193 := eF h193
     by_cases h309 : (((List.length x1 : Nat) : Int) == 5) = true
     ·rw [if_pos h309] at h
      obtain ⟨h310, h⟩ := req_some h
      obtain ⟨x183, h319, h⟩ := bind_some h
      have ch319 := f88_p5_4_ok F x1 x2 x3 F 1 (List.replicate (Int.toNat (w64 (x3 + 1))) (0 : Int)) _ h319
      try dsimp only at h
      obtain ⟨x199, h344, h⟩ := bind_some h
      have ch344 := f88_p13_10_ok F x1 x2 x3 x183 F 0 (List.replicate (Int.toNat (w64 (x3 + 1))) (0 : Int)) _ h344
      try dsimp only at h
      obtain ⟨x215, h369, h⟩ := bind_some h
      have ch369 := f88_p13_11_ok F x1 x2 x3 x199 x183 F 0 (List.replicate (Int.toNat (w64 (x3 + 1))) (0 : Int)) _ h369
      try dsimp only at h
      obtain ⟨x231, h394, h⟩ := bind_some h
      have ch394 := f88_p13_12_ok F x1 x2 x3 x215 x199 x183 F 0 (List.replicate (Int.toNat (w64 (x3 + 1))) (0 : Int)) _ h394
      try dsimp only at h
      obtain ⟨x247, h419, h⟩ := bind_some h
      have ch419 := f88_p13_13_ok F x1 x2 x3 x231 x215 x199 x183 F 0 (List.replicate (Int.toNat (w64 (x3 + 1))) (0 : Int)) _ h419
      try dsimp only at h
      obtain ⟨x263, h444, h⟩ := bind_some h
      have ch444 := f88_p13_14_ok F x1 x2 x3 x247 x231 x215 x199 x183 F 0 (List.replicate (Int.toNat (w64 (x3 + 1))) (0 : Int)) _ h444
      try dsimp only at h
      obtain ⟨h445, h⟩ := req_some h
      obtain ⟨h446, h⟩ := req_some h
      obtain ⟨h447, h⟩ := req_some h
      obtain ⟨h448, h⟩ := req_some h
      obtain ⟨h449, h⟩ := req_some h
      obtain ⟨h450, h⟩ := req_some h
      obtain rfl := sI h
      exact callOK cxOK cxW Try.func88 (by kernel_rfl) (f88_e4 x1 x2 x3 x183 x199 x215 x231 x247 x263) ⟨(by rw [eL h309]; decide), (by rw [eL h309]; decide), h310, (by decide), (by rw [eL h309]; decide), h310, (by decide), (by rw [eL h309]; decide), h310, (by decide), (by rw [eL h309]; decide), h310, (by decide), (by rw [eL h309]; decide), h310, (by decide), (by rw [eL h309]; decide), h310, (by decide), (by rw [eL h309]; decide), ch319, (by rw [eL h309]; decide), ch344, (by rw [eL h309]; decide), ch369, (by rw [eL h309]; decide), ch394, (by rw [eL h309]; decide), ch419, (by rw [eL h309]; decide), ch444, (by rw [eL h309]; decide), h445, h446, h447, h448, h449, h450, ⟨rfl, rfl⟩, trivial⟩
     ·rw [if_neg h309] at h
      have h309 := eF h309
      cases h

theorem f63_p6_1_ok (F : Nat) (x1 : LI) (x18 : Int) (x4 : LL) (x17 : LI) (x19 : Int) : ∀ (k : Nat) (x20 : Int) (r : Int), f63_p6_1 F x1 x18 x4 x17 x19 k x20 = some r → f63_p6_1_P x1 x18 x4 x17 x19 x20 r
 | 0, _, _, h => by cases h
 | k + 1, x20, r, h => by
  unfold f63_p6_1 at h
  obtain ⟨x21, h17, h⟩ := bind_some h
  try dsimp only at h
  by_cases h18 : (decide ((w64 (x20 * x21)) > x18)) = true
  ·rw [if_pos h18] at h
   exact Lp.again (gRun_ok cxOK (f63_p6_1_e0 x1 x4 x17 x18 x19 x20 x21) ⟨⟨(at?_spec h17).1, x21, (at?_spec h17).2, rfl⟩, h18, h18, h18, h18, h18, h18, h18, h18, h18, h18, h18, h18, h18, h18, h18, h18, h18, h18, h18, h18, h18, h18, h18, h18, h18, h18, rfl, trivial⟩) (f63_p6_1_ok F x1 x18 x4 x17 x19 k (w64 (x20 + 1)) r h)
  ·rw [if_neg h18] at h
   have h18 := eF h18
   obtain ⟨x22, h19, h⟩ := bind_some h
   try dsimp only at h
   obtain ⟨x23, h20, h⟩ := bind_some h
   try dsimp only at h
   obtain ⟨x24, h21, h⟩ := bind_some h
   try dsimp only at h
   obtain ⟨x25, h22, h⟩ := bind_some h
   try dsimp only at h
   by_cases h23 : ((w64 (x20 + x23)) != x25) = true
   ·rw [if_pos h23] at h
    exact Lp.again (gRun_ok cxOK (f63_p6_1_e1 x1 x4 x17 x18 x19 x20 x21 x22 x23 x24 x25) ⟨⟨(at?_spec h17).1, x21, (at?_spec h17).2, rfl⟩, h18, h18, h18, h18, h18, ⟨(at?_spec h19).1, x22, (at?_spec h19).2, rfl⟩, h18, h18, h18, h18, h18, h18, ⟨(at?_spec h17).1, x21, (at?_spec h17).2, rfl⟩, h18, h18, h18, h18, ⟨(at?_spec h20).1, x23, (at?_spec h20).2, rfl⟩, h18, h18, h18, h18, h18, ⟨(at?_spec h21).1, x24, (at?_spec h21).2, rfl⟩, h18, h18, h18, ⟨(at?_spec h22).1, x25, (at?_spec h22).2, rfl⟩, h18, h18, h18, h23, trivial⟩) (f63_p6_1_ok F x1 x18 x4 x17 x19 k (w64 (x20 + 1)) r h)
   ·rw [if_neg h23] at h
    have h23 := eF h23
    obtain rfl := sI h
    exact Lp.out (gRun_ok cxOK (f63_p6_1_e2 x1 x4 x17 x18 x19 x20 x21 x22 x23 x24 x25) ⟨⟨(at?_spec h17).1, x21, (at?_spec h17).2, rfl⟩, h18, h18, h18, h18, h18, ⟨(at?_spec h19).1, x22, (at?_spec h19).2, rfl⟩, h18, h18, h18, h18, h18, h18, ⟨(at?_spec h17).1, x21, (at?_spec h17).2, rfl⟩, h18, h18, h18, h18, ⟨(at?_spec h20).1, x23, (at?_spec h20).2, rfl⟩, h18, h18, h18, h18, h18, ⟨(at?_spec h21).1, x24, (at?_spec h21).2, rfl⟩, h18, h18, h18, ⟨(at?_spec h22).1, x25, (at?_spec h22).2, rfl⟩, h18, h18, h18, h23, trivial⟩) (by intro hh; cases hh)
theorem f63_p2_ok (F : Nat) (x1 : LI) (x4 : LL) : ∀ (k : Nat) (x18 x19 : Int) (x17 : LI) (r : (List Int)), f63_p2 F x1 x4 k x18 x19 x17 = some r → f63_p2_P x1 x4 x18 x19 x17 r
 | 0, _, _, _, _, h => by cases h
 | k + 1, x18, x19, x17, r, h => by
  unfold f63_p2 at h
  by_cases h16 : (decide (x19 < ((List.length x1 : Nat) : Int))) = true
  ·rw [if_pos h16] at h
   obtain ⟨x26, h24, h⟩ := bind_some h
   have ch24 := f63_p6_1_ok F x1 x18 x4 x17 x19 F 0 _ h24
   try dsimp only at h
   obtain ⟨h25, h⟩ := req_some h
   obtain ⟨x27, h26, h⟩ := bind_some h
   try dsimp only at h
   exact Lp.again (gRun_ok cxOK (f63_p2_e0 x1 x4 x17 x18 x19 x26 x27) ⟨h16, ch24, h25, rfl, ⟨(at?_spec h26).1, x27, (at?_spec h26).2, rfl⟩, trivial⟩) (f63_p2_ok F x1 x4 k (w64 (x18 - (w64 (x26 * x27)))) (w64 (x19 + 1)) (x17 ++ ([x26] : List Int)) r h)
  ·rw [if_neg h16] at h
   have h16 := eF h16
   obtain rfl := sI h
   exact Lp.out (gRun_ok cxOK (f63_p2_e1 x1 x4 x17 x18 x19) ⟨h16, trivial⟩) (by intro hh; cases hh)
theorem f63_ok (F : Nat) (x1 x2 : LI) (x3 : Int) (r : (List Int) × Int) (h : f63 F x1 x2 x3 = some r) : f63_C x1 x2 x3 r := by
 unfold f63 at h
 obtain ⟨x4, h1, h⟩ := bind_some h
 have ch1 := f88_ok F x1 x2 x3 _ h1
 try dsimp only at h
 obtain ⟨x5, h2, h⟩ := bind_some h
 try dsimp only at h
 obtain ⟨x6, h3, h⟩ := bind_some h
 try dsimp only at h
 by_cases h4 : (decide (x6 ≥ 1048576)) = true
 ·rw [if_pos h4] at h
  obtain rfl := sI h
  exact callOK cxOK cxW Try.func63 (by kernel_rfl) (f63_e0 x1 x2 x3 x4 x5 x6) ⟨ch1, ⟨(at?_spec h2).1, x5, (at?_spec h2).2, rfl⟩, ⟨(at?_spec h3).1, x6, (at?_spec h3).2, rfl⟩, h4, trivial⟩
 ·rw [if_neg h4] at h
  have h4 := eF h4
  obtain ⟨x28, h27, h⟩ := bind_some h
  have ch27 := f63_p2_ok F x1 x4 F x3 0 ([] : List Int) _ h27
  try dsimp only at h
  obtain rfl := sI h
  exact callOK cxOK cxW Try.func63 (by kernel_rfl) (f63_e1 x1 x2 x3 x4 x5 x6 x28) ⟨ch1, ⟨(at?_spec h2).1, x5, (at?_spec h2).2, rfl⟩, ⟨(at?_spec h3).1, x6, (at?_spec h3).2, rfl⟩, h4, ch27, (Nat.le_of_eq (Nat.zero_add _)), trivial⟩

theorem f75_p0_ok (F : Nat) (x2 : LI) (x3 : Int) (x1 : LI) (r : Int) (h : f75_p0 F x2 x3 x1 = some r) : f75_p0_P x2 x3 x1 r := by
 unfold f75_p0 at h
 by_cases h3 : (((List.length x2 : Nat) : Int) != ((List.length x1 : Nat) : Int)) = true
 ·rw [if_pos h3] at h
  obtain rfl := sI h
  exact gRun_ok cxOK (f75_p0_e0 x1 x2 x3) ⟨h3, trivial⟩
 ·rw [if_neg h3] at h
  have h3 := eF h3
  obtain rfl := sI h
  exact gRun_ok cxOK (f75_p0_e1 x1 x2 x3) ⟨h3, trivial⟩
theorem f75_p5_ok (F : Nat) (x2 : LI) (x5 x6 : Int) (x8 : Bool) (r : Int) (h : f75_p5 F x2 x5 x6 x8 = some r) : f75_p5_P x2 x5 x6 x8 r := by
 unfold f75_p5 at h
 by_cases h9 : x8 = true
 ·rw [if_pos h9] at h
  obtain rfl := sI h
  exact gRun_ok cxOK (f75_p5_e0 x2 x5 x6 x8) ⟨(by rw [h9]; rfl), trivial⟩
 ·rw [if_neg h9] at h
  have h9 := eF h9
  obtain rfl := sI h
  exact gRun_ok cxOK (f75_p5_e1 x2 x5 x6 x8) ⟨(by rw [h9]; rfl), trivial⟩
theorem f75_p2_ok (F : Nat) (x2 : LI) : ∀ (k : Nat) (x5 x6 : Int) (r : Int), f75_p2 F x2 k x5 x6 = some r → f75_p2_P x2 x5 x6 r
 | 0, _, _, _, h => by cases h
 | k + 1, x5, x6, r, h => by
  unfold f75_p2 at h
  by_cases h5 : (decide (x6 < ((List.length x2 : Nat) : Int))) = true
  ·rw [if_pos h5] at h
   by_cases h6 : (x5 == 0) = true
   ·rw [if_pos h6] at h
    obtain ⟨x7, h7, h⟩ := bind_some h
    try dsimp only at h
    obtain ⟨x8, h8, h⟩ := bind_some h
    have ch8 := f69_ok F x7 0 40 _ h8
    try dsimp only at h
    obtain ⟨x9, h10, h⟩ := bind_some h
    have ch10 := f75_p5_ok F x2 x5 x6 x8 _ h10
    try dsimp only at h
    exact Lp.again (gRun_ok cxOK (f75_p2_e0 x2 x5 x6 x7 x8 x9) ⟨h5, h5, h5, h6, ⟨(at?_spec h7).1, x7, (at?_spec h7).2, rfl⟩, ch8, ch10, trivial⟩) (f75_p2_ok F x2 k x9 (w64 (x6 + 1)) r h)
   ·rw [if_neg h6] at h
    have h6 := eF h6
    obtain rfl := sI h
    exact Lp.out (gRun_ok cxOK (f75_p2_e1 x2 x5 x6) ⟨h5, h5, h5, h6, trivial⟩) (by intro hh; cases hh)
  ·rw [if_neg h5] at h
   have h5 := eF h5
   obtain rfl := sI h
   exact Lp.out (gRun_ok cxOK (f75_p2_e2 x2 x5 x6) ⟨h5, h5, h5, rfl, trivial⟩) (by intro hh; cases hh)
theorem f75_p5_1_ok (F : Nat) (x2 : LI) (x11 x12 : Int) (x14 : Bool) (r : Int) (h : f75_p5_1 F x2 x11 x12 x14 = some r) : f75_p5_1_P x2 x11 x12 x14 r := by
 unfold f75_p5_1 at h
 by_cases h16 : x14 = true
 ·rw [if_pos h16] at h
  obtain rfl := sI h
  exact gRun_ok cxOK (f75_p5_1_e0 x2 x11 x12 x14) ⟨(by rw [h16]; rfl), trivial⟩
 ·rw [if_neg h16] at h
  have h16 := eF h16
  obtain rfl := sI h
  exact gRun_ok cxOK (f75_p5_1_e1 x2 x11 x12 x14) ⟨(by rw [h16]; rfl), trivial⟩
theorem f75_p2_1_ok (F : Nat) (x2 : LI) : ∀ (k : Nat) (x11 x12 : Int) (r : Int), f75_p2_1 F x2 k x11 x12 = some r → f75_p2_1_P x2 x11 x12 r
 | 0, _, _, _, h => by cases h
 | k + 1, x11, x12, r, h => by
  unfold f75_p2_1 at h
  by_cases h12 : (decide (x12 < ((List.length x2 : Nat) : Int))) = true
  ·rw [if_pos h12] at h
   by_cases h13 : (x11 == 0) = true
   ·rw [if_pos h13] at h
    obtain ⟨x13, h14, h⟩ := bind_some h
    try dsimp only at h
    obtain ⟨x14, h15, h⟩ := bind_some h
    have ch15 := f69_ok F x13 0 40 _ h15
    try dsimp only at h
    obtain ⟨x15, h17, h⟩ := bind_some h
    have ch17 := f75_p5_1_ok F x2 x11 x12 x14 _ h17
    try dsimp only at h
    exact Lp.again (gRun_ok cxOK (f75_p2_1_e0 x2 x11 x12 x13 x14 x15) ⟨h12, h12, h12, h13, ⟨(at?_spec h14).1, x13, (at?_spec h14).2, rfl⟩, ch15, ch17, trivial⟩) (f75_p2_1_ok F x2 k x15 (w64 (x12 + 1)) r h)
   ·rw [if_neg h13] at h
    have h13 := eF h13
    obtain rfl := sI h
    exact Lp.out (gRun_ok cxOK (f75_p2_1_e1 x2 x11 x12) ⟨h12, h12, h12, h13, trivial⟩) (by intro hh; cases hh)
  ·rw [if_neg h12] at h
   have h12 := eF h12
   obtain rfl := sI h
   exact Lp.out (gRun_ok cxOK (f75_p2_1_e2 x2 x11 x12) ⟨h12, h12, h12, rfl, trivial⟩) (by intro hh; cases hh)
theorem f75_ok (F : Nat) (x1 x2 : LI) (r : Int) (h : f75 F x1 x2 = some r) : f75_C x1 x2 r := by
 unfold f75 at h
 obtain ⟨x3, h1, h⟩ := bind_some h
 have ch1 := f27_ok F x1 _ h1
 try dsimp only at h
 by_cases h2 : (x3 == 0) = true
 ·rw [if_pos h2] at h
  obtain ⟨x4, h4, h⟩ := bind_some h
  have ch4 := f75_p0_ok F x2 x3 x1 _ h4
  try dsimp only at h
  obtain ⟨x10, h11, h⟩ := bind_some h
  have ch11 := f75_p2_ok F x2 F x4 0 _ h11
  try dsimp only at h
  obtain rfl := sI h
  exact callOK cxOK cxW Try.func75 (by kernel_rfl) (f75_e0 x1 x2 x3 x4 x10) ⟨ch1, h2, h2, h2, h2, h2, h2, ch4, ch11, trivial⟩
 ·rw [if_neg h2] at h
  have h2 := eF h2
  obtain ⟨x16, h18, h⟩ := bind_some h
  have ch18 := f75_p2_1_ok F x2 F x3 0 _ h18
  try dsimp only at h
  obtain rfl := sI h
  exact callOK cxOK cxW Try.func75 (by kernel_rfl) (f75_e1 x1 x2 x3 x16) ⟨ch1, h2, h2, h2, h2, h2, h2, rfl, ch18, trivial⟩

theorem f56_ok (F : Nat) (x1 x2 : LI) (x3 : Int) (r : (List Int) × Int) (h : f56 F x1 x2 x3 = some r) : f56_C x1 x2 x3 r := by
 unfold f56 at h
 obtain ⟨x4, h1, h⟩ := bind_some h
 have ch1 := f75_ok F x1 x2 _ h1
 try dsimp only at h
 obtain ⟨x5, h2, h⟩ := bind_some h
 have ch2 := f62_ok F x4 x3 _ h2
 try dsimp only at h
 by_cases h3 : (x5 != 0) = true
 ·rw [if_pos h3] at h
  obtain rfl := sI h
  exact callOK cxOK cxW Try.func56 (by kernel_rfl) (f56_e0 x1 x2 x3 x4 x5) ⟨ch1, ch2, h3, trivial⟩
 ·rw [if_neg h3] at h
  have h3 := eF h3
  obtain ⟨rh4, h4, h⟩ := bind_some h
  have ch4 := f63_ok F x1 x2 x3 _ h4
  obtain ⟨x6, x7⟩ := rh4
  try dsimp only at h
  obtain rfl := sI h
  exact callOK cxOK cxW Try.func56 (by kernel_rfl) (f56_e1 x1 x2 x3 x4 x5 x6 x7) ⟨ch1, ch2, h3, ch4, trivial⟩

theorem f57_p4_ok (F : Nat) (x4 x5 x6 : LI) : ∀ (k : Nat) (x8 x9 : Int) (r : f57_p4_R), f57_p4 F x4 x5 x6 k x8 x9 = some r → f57_p4_P x4 x5 x6 x8 x9 r
 | 0, _, _, _, h => by cases h
 | k + 1, x8, x9, r, h => by
  unfold f57_p4 at h
  by_cases h4 : (decide (x9 < ((List.length x4 : Nat) : Int))) = true
  ·rw [if_pos h4] at h
   obtain ⟨x10, h5, h⟩ := bind_some h
   try dsimp only at h
   obtain ⟨x11, h6, h⟩ := bind_some h
   try dsimp only at h
   obtain ⟨x12, h7, h⟩ := bind_some h
   have ch7 := f67_ok F x10 0 x11 _ h7
   try dsimp only at h
   by_cases h8 : x12 = true
   ·rw [if_pos h8] at h
    obtain ⟨x13, h9, h⟩ := bind_some h
    try dsimp only at h
    exact Lp.again (gRun_ok cxOK (f57_p4_e0 x4 x5 x6 x8 x9 x10 x11 x12 x13) ⟨h4, ⟨(at?_spec h5).1, x10, (at?_spec h5).2, rfl⟩, ⟨(at?_spec h6).1, x11, (at?_spec h6).2, rfl⟩, ch7, (by rw [h8]; rfl), ⟨(at?_spec h9).1, x13, (at?_spec h9).2, rfl⟩, trivial⟩) (f57_p4_ok F x4 x5 x6 k (w64 (x8 - (w64 (x10 * x13)))) (w64 (x9 + 1)) r h)
   ·rw [if_neg h8] at h
    have h8 := eF h8
    obtain rfl := sI h
    exact Lp.out (gRun_ok cxOK (f57_p4_e1 x4 x5 x6 x8 x9 x10 x11 x12) ⟨h4, ⟨(at?_spec h5).1, x10, (at?_spec h5).2, rfl⟩, ⟨(at?_spec h6).1, x11, (at?_spec h6).2, rfl⟩, ch7, (by rw [h8]; rfl), trivial⟩) (by intro hh; cases hh)
  ·rw [if_neg h4] at h
   have h4 := eF h4
   obtain rfl := sI h
   exact Lp.out (gRun_ok cxOK (f57_p4_e2 x4 x5 x6 x8 x9) ⟨h4, trivial⟩) (by intro hh; cases hh)
theorem f57_ok (F : Nat) (x1 x2 : LI) (x3 : Int) (x4 : LI) (r : Int) (h : f57 F x1 x2 x3 x4 = some r) : f57_C x1 x2 x3 x4 r := by
 unfold f57 at h
 obtain ⟨rh1, h1, h⟩ := bind_some h
 have ch1 := f73_ok F x1 x2 x3 _ h1
 obtain ⟨x5, x6, x7⟩ := rh1
 try dsimp only at h
 by_cases h2 : (x7 != 0) = true
 ·rw [if_pos h2] at h
  obtain rfl := sI h
  exact callOK cxOK cxW Try.func57 (by kernel_rfl) (f57_e0 x1 x2 x3 x4 x5 x6 x7) ⟨ch1, h2, trivial⟩
 ·rw [if_neg h2] at h
  have h2 := eF h2
  by_cases h3 : (((List.length x4 : Nat) : Int) != ((List.length x1 : Nat) : Int)) = true
  ·rw [if_pos h3] at h
   obtain rfl := sI h
   exact callOK cxOK cxW Try.func57 (by kernel_rfl) (f57_e1 x1 x2 x3 x4 x5 x6 x7) ⟨ch1, h2, h3, trivial⟩
  ·rw [if_neg h3] at h
   have h3 := eF h3
   obtain ⟨rh10, h10, h⟩ := bind_some h
   have ch10 := f57_p4_ok F x4 x5 x6 F x3 0 _ h10
   cases rh10 with
   | c0 =>
    try dsimp only at h
    obtain rfl := sI h
    exact callOK cxOK cxW Try.func57 (by kernel_rfl) (f57_e2 x1 x2 x3 x4 x5 x6 x7) ⟨ch1, h2, h3, ch10, trivial⟩
   | c1 x14 =>
    try dsimp only at h
    by_cases h11 : (x14 != 0) = true
    ·rw [if_pos h11] at h
     obtain rfl := sI h
     exact callOK cxOK cxW Try.func57 (by kernel_rfl) (f57_e3 x1 x2 x3 x4 x5 x6 x7 x14) ⟨ch1, h2, h3, ch10, h11, trivial⟩
    ·rw [if_neg h11] at h
     have h11 := eF h11
     obtain rfl := sI h
     exact callOK cxOK cxW Try.func57 (by kernel_rfl) (f57_e4 x1 x2 x3 x4 x5 x6 x7 x14) ⟨ch1, h2, h3, ch10, h11, trivial⟩

theorem f58_p0_ok (F : Nat) (x1 x2 : LI) (x3 : Int) (x4 : LI) (x6 : Int) (r : Int) (h : f58_p0 F x1 x2 x3 x4 x6 = some r) : f58_p0_P x1 x2 x3 x4 x6 r := by
 unfold f58_p0 at h
 by_cases h4 : (((List.length x4 : Nat) : Int) != ((List.length x1 : Nat) : Int)) = true
 ·rw [if_pos h4] at h
  obtain rfl := sI h
  exact gRun_ok cxOK (f58_p0_e0 x1 x2 x3 x4 x6) ⟨h4, trivial⟩
 ·rw [if_neg h4] at h
  have h4 := eF h4
  obtain rfl := sI h
  exact gRun_ok cxOK (f58_p0_e1 x1 x2 x3 x4 x6) ⟨h4, trivial⟩
theorem f58_p5_ok (F : Nat) (x1 x2 : LI) (x3 : Int) (x4 : LI) (x8 x9 x10 : Int) (x13 : Bool) (r : Int × Int) (h : f58_p5 F x1 x2 x3 x4 x8 x9 x10 x13 = some r) : f58_p5_P x1 x2 x3 x4 x8 x9 x10 x13 r := by
 unfold f58_p5 at h
 by_cases h11 : x13 = true
 ·rw [if_pos h11] at h
  obtain ⟨x14, h12, h⟩ := bind_some h
  try dsimp only at h
  obtain ⟨x15, h13, h⟩ := bind_some h
  try dsimp only at h
  obtain rfl := sI h
  exact gRun_ok cxOK (f58_p5_e0 x1 x2 x3 x4 x8 x9 x10 x13 x14 x15) ⟨(by rw [h11]; rfl), ⟨(at?_spec h12).1, x14, (at?_spec h12).2, rfl⟩, ⟨(at?_spec h13).1, x15, (at?_spec h13).2, rfl⟩, trivial⟩
 ·rw [if_neg h11] at h
  have h11 := eF h11
  obtain rfl := sI h
  exact gRun_ok cxOK (f58_p5_e1 x1 x2 x3 x4 x8 x9 x10 x13) ⟨(by rw [h11]; rfl), trivial⟩
theorem f58_p2_ok (F : Nat) (x1 x2 : LI) (x3 : Int) (x4 : LI) : ∀ (k : Nat) (x8 x9 x10 : Int) (r : Int × Int), f58_p2 F x1 x2 x3 x4 k x8 x9 x10 = some r → f58_p2_P x1 x2 x3 x4 x8 x9 x10 r
 | 0, _, _, _, _, h => by cases h
 | k + 1, x8, x9, x10, r, h => by
  unfold f58_p2 at h
  by_cases h6 : (decide (x10 < ((List.length x4 : Nat) : Int))) = true
  ·rw [if_pos h6] at h
   by_cases h7 : (x8 == 0) = true
   ·rw [if_pos h7] at h
    obtain ⟨x11, h8, h⟩ := bind_some h
    try dsimp only at h
    obtain ⟨x12, h9, h⟩ := bind_some h
    try dsimp only at h
    obtain ⟨x13, h10, h⟩ := bind_some h
    have ch10 := f69_ok F x11 0 x12 _ h10
    try dsimp only at h
    obtain ⟨rh14, h14, h⟩ := bind_some h
    have ch14 := f58_p5_ok F x1 x2 x3 x4 x8 x9 x10 x13 _ h14
    obtain ⟨x16, x17⟩ := rh14
    try dsimp only at h
    exact Lp.again (gRun_ok cxOK (f58_p2_e0 x1 x2 x3 x4 x8 x9 x10 x11 x12 x13 x16 x17) ⟨h6, h6, h6, h7, ⟨(at?_spec h8).1, x11, (at?_spec h8).2, rfl⟩, ⟨(at?_spec h9).1, x12, (at?_spec h9).2, rfl⟩, ch10, ch14, trivial⟩) (f58_p2_ok F x1 x2 x3 x4 k x16 x17 (w64 (x10 + 1)) r h)
   ·rw [if_neg h7] at h
    have h7 := eF h7
    obtain rfl := sI h
    exact Lp.out (gRun_ok cxOK (f58_p2_e1 x1 x2 x3 x4 x8 x9 x10) ⟨h6, h6, h6, h7, trivial⟩) (by intro hh; cases hh)
  ·rw [if_neg h6] at h
   have h6 := eF h6
   obtain rfl := sI h
   exact Lp.out (gRun_ok cxOK (f58_p2_e2 x1 x2 x3 x4 x8 x9 x10) ⟨h6, h6, h6, rfl, trivial⟩) (by intro hh; cases hh)
theorem f58_p6_ok (F : Nat) (x18 x19 x3 : Int) (r : Int) (h : f58_p6 F x18 x19 x3 = some r) : f58_p6_P x18 x19 x3 r := by
 unfold f58_p6 at h
 by_cases h17 : (x19 != x3) = true
 ·rw [if_pos h17] at h
  obtain rfl := sI h
  exact gRun_ok cxOK (f58_p6_e0 x3 x18 x19) ⟨h17, trivial⟩
 ·rw [if_neg h17] at h
  have h17 := eF h17
  obtain rfl := sI h
  exact gRun_ok cxOK (f58_p6_e1 x3 x18 x19) ⟨h17, trivial⟩
theorem f58_p5_1_ok (F : Nat) (x1 x2 : LI) (x3 : Int) (x4 : LI) (x21 x22 x23 : Int) (x26 : Bool) (r : Int × Int) (h : f58_p5_1 F x1 x2 x3 x4 x21 x22 x23 x26 = some r) : f58_p5_1_P x1 x2 x3 x4 x21 x22 x23 x26 r := by
 unfold f58_p5_1 at h
 by_cases h24 : x26 = true
 ·rw [if_pos h24] at h
  obtain ⟨x27, h25, h⟩ := bind_some h
  try dsimp only at h
  obtain ⟨x28, h26, h⟩ := bind_some h
  try dsimp only at h
  obtain rfl := sI h
  exact gRun_ok cxOK (f58_p5_1_e0 x1 x2 x3 x4 x21 x22 x23 x26 x27 x28) ⟨(by rw [h24]; rfl), ⟨(at?_spec h25).1, x27, (at?_spec h25).2, rfl⟩, ⟨(at?_spec h26).1, x28, (at?_spec h26).2, rfl⟩, trivial⟩
 ·rw [if_neg h24] at h
  have h24 := eF h24
  obtain rfl := sI h
  exact gRun_ok cxOK (f58_p5_1_e1 x1 x2 x3 x4 x21 x22 x23 x26) ⟨(by rw [h24]; rfl), trivial⟩
theorem f58_p2_1_ok (F : Nat) (x1 x2 : LI) (x3 : Int) (x4 : LI) : ∀ (k : Nat) (x21 x22 x23 : Int) (r : Int × Int), f58_p2_1 F x1 x2 x3 x4 k x21 x22 x23 = some r → f58_p2_1_P x1 x2 x3 x4 x21 x22 x23 r
 | 0, _, _, _, _, h => by cases h
 | k + 1, x21, x22, x23, r, h => by
  unfold f58_p2_1 at h
  by_cases h19 : (decide (x23 < ((List.length x4 : Nat) : Int))) = true
  ·rw [if_pos h19] at h
   by_cases h20 : (x21 == 0) = true
   ·rw [if_pos h20] at h
    obtain ⟨x24, h21, h⟩ := bind_some h
    try dsimp only at h
    obtain ⟨x25, h22, h⟩ := bind_some h
    try dsimp only at h
    obtain ⟨x26, h23, h⟩ := bind_some h
    have ch23 := f69_ok F x24 0 x25 _ h23
    try dsimp only at h
    obtain ⟨rh27, h27, h⟩ := bind_some h
    have ch27 := f58_p5_1_ok F x1 x2 x3 x4 x21 x22 x23 x26 _ h27
    obtain ⟨x29, x30⟩ := rh27
    try dsimp only at h
    exact Lp.again (gRun_ok cxOK (f58_p2_1_e0 x1 x2 x3 x4 x21 x22 x23 x24 x25 x26 x29 x30) ⟨h19, h19, h19, h20, ⟨(at?_spec h21).1, x24, (at?_spec h21).2, rfl⟩, ⟨(at?_spec h22).1, x25, (at?_spec h22).2, rfl⟩, ch23, ch27, trivial⟩) (f58_p2_1_ok F x1 x2 x3 x4 k x29 x30 (w64 (x23 + 1)) r h)
   ·rw [if_neg h20] at h
    have h20 := eF h20
    obtain rfl := sI h
    exact Lp.out (gRun_ok cxOK (f58_p2_1_e1 x1 x2 x3 x4 x21 x22 x23) ⟨h19, h19, h19, h20, trivial⟩) (by intro hh; cases hh)
  ·rw [if_neg h19] at h
   have h19 := eF h19
   obtain rfl := sI h
   exact Lp.out (gRun_ok cxOK (f58_p2_1_e2 x1 x2 x3 x4 x21 x22 x23) ⟨h19, h19, h19, rfl, trivial⟩) (by intro hh; cases hh)
theorem f58_p6_1_ok (F : Nat) (x31 x32 x3 : Int) (r : Int) (h : f58_p6_1 F x31 x32 x3 = some r) : f58_p6_1_P x31 x32 x3 r := by
 unfold f58_p6_1 at h
 by_cases h30 : (x32 != x3) = true
 ·rw [if_pos h30] at h
  obtain rfl := sI h
  exact gRun_ok cxOK (f58_p6_1_e0 x3 x31 x32) ⟨h30, trivial⟩
 ·rw [if_neg h30] at h
  have h30 := eF h30
  obtain rfl := sI h
  exact gRun_ok cxOK (f58_p6_1_e1 x3 x31 x32) ⟨h30, trivial⟩
theorem f58_ok (F : Nat) (x1 x2 : LI) (x3 : Int) (x4 : LI) (r : Int) (h : f58 F x1 x2 x3 x4 = some r) : f58_C x1 x2 x3 x4 r := by
 unfold f58 at h
 obtain ⟨x5, h1, h⟩ := bind_some h
 have ch1 := f75_ok F x1 x2 _ h1
 try dsimp only at h
 obtain ⟨x6, h2, h⟩ := bind_some h
 have ch2 := f62_ok F x5 x3 _ h2
 try dsimp only at h
 by_cases h3 : (x6 == 0) = true
 ·rw [if_pos h3] at h
  obtain ⟨x7, h5, h⟩ := bind_some h
  have ch5 := f58_p0_ok F x1 x2 x3 x4 x6 _ h5
  try dsimp only at h
  obtain ⟨rh15, h15, h⟩ := bind_some h
  have ch15 := f58_p2_ok F x1 x2 x3 x4 F x7 0 0 _ h15
  obtain ⟨x18, x19⟩ := rh15
  try dsimp only at h
  by_cases h16 : (x18 == 0) = true
  ·rw [if_pos h16] at h
   obtain ⟨x20, h18, h⟩ := bind_some h
   have ch18 := f58_p6_ok F x18 x19 x3 _ h18
   try dsimp only at h
   obtain rfl := sI h
   exact callOK cxOK cxW Try.func58 (by kernel_rfl) (f58_e0 x1 x2 x3 x4 x5 x6 x7 x18 x19 x20) ⟨ch1, ch2, h3, h3, h3, h3, h3, h3, ch5, ch15, h16, h16, h16, h16, ch18, trivial⟩
  ·rw [if_neg h16] at h
   have h16 := eF h16
   obtain rfl := sI h
   exact callOK cxOK cxW Try.func58 (by kernel_rfl) (f58_e1 x1 x2 x3 x4 x5 x6 x7 x18 x19) ⟨ch1, ch2, h3, h3, h3, h3, h3, h3, ch5, ch15, h16, h16, h16, h16, rfl, trivial⟩
 ·rw [if_neg h3] at h
  have h3 := eF h3
  obtain ⟨rh28, h28, h⟩ := bind_some h
  have ch28 := f58_p2_1_ok F x1 x2 x3 x4 F x6 0 0 _ h28
  obtain ⟨x31, x32⟩ := rh28
  try dsimp only at h
  by_cases h29 : (x31 == 0) = true
  ·rw [if_pos h29] at h
   obtain ⟨x33, h31, h⟩ := bind_some h
   have ch31 := f58_p6_1_ok F x31 x32 x3 _ h31
   try dsimp only at h
   obtain rfl := sI h
   exact callOK cxOK cxW Try.func58 (by kernel_rfl) (f58_e2 x1 x2 x3 x4 x5 x6 x31 x32 x33) ⟨ch1, ch2, h3, h3, h3, h3, h3, h3, rfl, ch28, h29, h29, h29, h29, ch31, trivial⟩
  ·rw [if_neg h29] at h
   have h29 := eF h29
   obtain rfl := sI h
   exact callOK cxOK cxW Try.func58 (by kernel_rfl) (f58_e3 x1 x2 x3 x4 x5 x6 x31 x32) ⟨ch1, ch2, h3, h3, h3, h3, h3, h3, rfl, ch28, h29, h29, h29, h29, rfl, trivial⟩

theorem f13_ok (F : Nat) (x1 x2 : LI) (x3 : Int) (x4 : LI) (r : Bool) (h : f13 F x1 x2 x3 x4 = some r) : f13_C x1 x2 x3 x4 r := by
 unfold f13 at h
 obtain ⟨x5, h1, h⟩ := bind_some h
 have ch1 := f15_ok F x1 x2 x4 _ h1
 try dsimp only at h
 by_cases h2 : x5 = true
 ·rw [if_pos h2] at h
  obtain ⟨x6, h3, h⟩ := bind_some h
  have ch3 := f16_ok F _ h3
  try dsimp only at h
  obtain rfl := sI h
  exact callOK cxOK cxW Try.func13 (by kernel_rfl) (f13_e0 x1 x2 x3 x4 x5 x6) ⟨ch1, h2, ch3, trivial⟩
 ·rw [if_neg h2] at h
  have h2 := eF h2
  obtain ⟨rh4, h4, h⟩ := bind_some h
  have ch4 := f51_ok F x1 x2 x3 _ h4
  obtain ⟨x7, x8⟩ := rh4
  try dsimp only at h
  obtain ⟨rh5, h5, h⟩ := bind_some h
  have ch5 := f56_ok F x1 x2 x3 _ h5
  obtain ⟨x9, x10⟩ := rh5
  try dsimp only at h
  obtain ⟨x11, h6, h⟩ := bind_some h
  have ch6 := f23_ok F x7 x9 _ h6
  try dsimp only at h
  by_cases h7 : x11 = true
  ·rw [if_pos h7] at h
   by_cases h8 : (x8 == x10) = true
   ·rw [if_pos h8] at h
    obtain ⟨x12, h9, h⟩ := bind_some h
    have ch9 := f57_ok F x1 x2 x3 x4 _ h9
    try dsimp only at h
    obtain ⟨x13, h10, h⟩ := bind_some h
    have ch10 := f58_ok F x1 x2 x3 x4 _ h10
    try dsimp only at h
    by_cases h11 : (x12 == x13) = true
    ·rw [if_pos h11] at h
     obtain ⟨x14, h12, h⟩ := bind_some h
     have ch12 := f16_ok F _ h12
     try dsimp only at h
     obtain rfl := sI h
     exact callOK cxOK cxW Try.func13 (by kernel_rfl) (f13_e1 x1 x2 x3 x4 x5 x7 x8 x9 x10 x11 x12 x13 x14) ⟨ch1, h2, ch4, ch5, ch6, h7, h7, h7, h7, h8, h8, h8, h8, h8, ch9, h8, h8, h8, h8, h8, ch10, h8, h8, h11, ch12, h11, trivial⟩
    ·rw [if_neg h11] at h
     have h11 := eF h11
     cases h
   ·rw [if_neg h8] at h
    have h8 := eF h8
    cases h
  ·rw [if_neg h7] at h
   have h7 := eF h7
   cases h

end Go.Gh.Pack
