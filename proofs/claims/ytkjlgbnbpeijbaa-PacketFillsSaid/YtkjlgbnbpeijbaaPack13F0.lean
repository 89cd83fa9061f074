/- Pack13F0: printed by wip/tool/gx.py -/
import Derived.Test.YtkjlgbnbpeijbaaPack13E0
import Derived.Test.YtkjlgbnbpeijbaaPack13E1
namespace Go.Gh.Pack
set_option linter.unusedVariables false
set_option linter.unusedSimpArgs false
open Go.Proofs

theorem f15_ok (F : Nat) (x1 x2 x3 : LI) (r : Bool) (h : f15 F x1 x2 x3 = some r) : f15_C x1 x2 x3 r := by
 unfold f15 at h
 by_cases h1 : (decide (((List.length x1 : Nat) : Int) > 40)) = true
 ·rw [if_pos h1] at h
  obtain rfl := sI h
  exact callOK cxOK cxW Try.func15 (by kernel_rfl) (f15_e0 x1 x2 x3) ⟨h1, h1, h1, h1, rfl, rfl, rfl, rfl, trivial⟩
 ·rw [if_neg h1] at h
  have h1 := eF h1
  by_cases h2 : (decide (((List.length x2 : Nat) : Int) > 40)) = true
  ·rw [if_pos h2] at h
   obtain rfl := sI h
   exact callOK cxOK cxW Try.func15 (by kernel_rfl) (f15_e1 x1 x2 x3) ⟨h1, h1, h1, h1, h2, h2, h2, h2, trivial⟩
  ·rw [if_neg h2] at h
   have h2 := eF h2
   obtain rfl := sI h
   exact callOK cxOK cxW Try.func15 (by kernel_rfl) (f15_e2 x1 x2 x3) ⟨h1, h1, h1, h1, h2, h2, h2, h2, trivial⟩

theorem f52_ok (F : Nat) (x1 : LI) (r : (List Int)) (h : f52 F x1 = some r) : f52_C x1 r := by
 unfold f52 at h
 obtain rfl := sI h
 exact callOK cxOK cxW Try.func52 (by kernel_rfl) (f52_e0 x1) trivial

theorem f67_ok (F : Nat) (x1 x2 x3 : Int) (r : Bool) (h : f67 F x1 x2 x3 = some r) : f67_C x1 x2 x3 r := by
 unfold f67 at h
 by_cases h1 : (decide (x1 ≥ x2)) = true
 ·rw [if_pos h1] at h
  obtain rfl := sI h
  exact callOK cxOK cxW Try.func67 (by kernel_rfl) (f67_e0 x1 x2 x3) ⟨h1, h1, h1, h1, trivial⟩
 ·rw [if_neg h1] at h
  have h1 := eF h1
  obtain rfl := sI h
  exact callOK cxOK cxW Try.func67 (by kernel_rfl) (f67_e1 x1 x2 x3) ⟨h1, h1, h1, h1, trivial⟩

theorem f26_p4_ok (F : Nat) (x1 : LI) : ∀ (k : Nat) (x2 x3 : Int) (r : f26_p4_R), f26_p4 F x1 k x2 x3 = some r → f26_p4_P x1 x2 x3 r
 | 0, _, _, _, h => by cases h
 | k + 1, x2, x3, r, h => by
  unfold f26_p4 at h
  by_cases h3 : (decide (x3 < ((List.length x1 : Nat) : Int))) = true
  ·rw [if_pos h3] at h
   obtain ⟨x4, h4, h⟩ := bind_some h
   try dsimp only at h
   obtain ⟨x5, h5, h⟩ := bind_some h
   have ch5 := f67_ok F x4 1 30 _ h5
   try dsimp only at h
   by_cases h6 : x5 = true
   ·rw [if_pos h6] at h
    by_cases h7 : (decide (x4 ≤ x2)) = true
    ·rw [if_pos h7] at h
     obtain rfl := sI h
     exact Lp.out (gRun_ok cxOK (f26_p4_e0 x1 x2 x3 x4 x5) ⟨h3, ⟨(at?_spec h4).1, x4, (at?_spec h4).2, rfl⟩, ch5, (by rw [h6]; rfl), h7, trivial⟩) (by intro hh; cases hh)
    ·rw [if_neg h7] at h
     have h7 := eF h7
     exact Lp.again (gRun_ok cxOK (f26_p4_e1 x1 x2 x3 x4 x5) ⟨h3, ⟨(at?_spec h4).1, x4, (at?_spec h4).2, rfl⟩, ch5, (by rw [h6]; rfl), h7, trivial⟩) (f26_p4_ok F x1 k x4 (w64 (x3 + 1)) r h)
   ·rw [if_neg h6] at h
    have h6 := eF h6
    obtain rfl := sI h
    exact Lp.out (gRun_ok cxOK (f26_p4_e2 x1 x2 x3 x4 x5) ⟨h3, ⟨(at?_spec h4).1, x4, (at?_spec h4).2, rfl⟩, ch5, (by rw [h6]; rfl), trivial⟩) (by intro hh; cases hh)
  ·rw [if_neg h3] at h
   have h3 := eF h3
   obtain rfl := sI h
   exact Lp.out (gRun_ok cxOK (f26_p4_e3 x1 x2 x3) ⟨h3, trivial⟩) (by intro hh; cases hh)
theorem f26_ok (F : Nat) (x1 : LI) (r : Int) (h : f26 F x1 = some r) : f26_C x1 r := by
 unfold f26 at h
 by_cases h1 : (((List.length x1 : Nat) : Int) == 0) = true
 ·rw [if_pos h1] at h
  obtain rfl := sI h
  exact callOK cxOK cxW Try.func26 (by kernel_rfl) (f26_e0 x1) ⟨h1, trivial⟩
 ·rw [if_neg h1] at h
  have h1 := eF h1
  by_cases h2 : (decide (((List.length x1 : Nat) : Int) > 5)) = true
  ·rw [if_pos h2] at h
   obtain rfl := sI h
   exact callOK cxOK cxW Try.func26 (by kernel_rfl) (f26_e1 x1) ⟨h1, h2, trivial⟩
  ·rw [if_neg h2] at h
   have h2 := eF h2
   obtain ⟨rh8, h8, h⟩ := bind_some h
   have ch8 := f26_p4_ok F x1 F 0 0 _ h8
   cases rh8 with
   | c0 x6 =>
    try dsimp only at h
    obtain rfl := sI h
    exact callOK cxOK cxW Try.func26 (by kernel_rfl) (f26_e2 x1 x6) ⟨h1, h2, ch8, trivial⟩
   | c1 =>
    try dsimp only at h
    obtain rfl := sI h
    exact callOK cxOK cxW Try.func26 (by kernel_rfl) (f26_e3 x1) ⟨h1, h2, ch8, trivial⟩

theorem f90_p1_ok (F : Nat) : ∀ (k : Nat) (x3 x4 : Int) (r : Int), f90_p1 F k x3 x4 = some r → f90_p1_P x3 x4 r
 | 0, _, _, _, h => by cases h
 | k + 1, x3, x4, r, h => by
  unfold f90_p1 at h
  by_cases h1 : (x4 != 0) = true
  ·rw [if_pos h1] at h
   obtain ⟨h2, h⟩ := req_some h
   exact Lp.again (gRun_ok cxOK (f90_p1_e0 x3 x4) ⟨h1, h2, trivial⟩) (f90_p1_ok F k x4 (Int.tmod x3 x4) r h)
  ·rw [if_neg h1] at h
   have h1 := eF h1
   obtain rfl := sI h
   exact Lp.out (gRun_ok cxOK (f90_p1_e1 x3 x4) ⟨h1, trivial⟩) (by intro hh; cases hh)
theorem f90_ok (F : Nat) (x1 x2 : Int) (r : Int) (h : f90 F x1 x2 = some r) : f90_C x1 x2 r := by
 unfold f90 at h
 obtain ⟨x5, h3, h⟩ := bind_some h
 have ch3 := f90_p1_ok F F x1 x2 _ h3
 try dsimp only at h
 obtain rfl := sI h
 exact callOK cxOK cxW Try.func90 (by kernel_rfl) (f90_e0 x1 x2 x5) ⟨ch3, trivial⟩

theorem f68_p1_ok (F : Nat) (x1 : LI) (x2 : Int) : ∀ (k : Nat) (x5 : Int) (x4 : LI) (r : (List Int)), f68_p1 F x1 x2 k x5 x4 = some r → f68_p1_P x1 x2 x5 x4 r
 | 0, _, _, _, h => by cases h
 | k + 1, x5, x4, r, h => by
  unfold f68_p1 at h
  by_cases h5 : (decide (x5 < (((Int.toNat x2) : Nat) : Int))) = true
  ·rw [if_pos h5] at h
   obtain ⟨h6, h⟩ := req_some h
   obtain ⟨h7, h⟩ := req_some h
   exact Lp.again (gRun_ok cxOK (f68_p1_e0 x1 x2 x4 x5) ⟨h5, h6, h7, trivial⟩) (f68_p1_ok F x1 x2 k (w64 (x5 + 1)) (List.set x4 (0 + (Int.toNat x5)) (-1)) r h)
  ·rw [if_neg h5] at h
   have h5 := eF h5
   obtain rfl := sI h
   exact Lp.out (gRun_ok cxOK (f68_p1_e1 x1 x2 x4 x5) ⟨h5, trivial⟩) (by intro hh; cases hh)
theorem f68_p16_3_ok (F : Nat) (x2 x56 : Int) (x57 x81 x82 : Int) (x1 : LI) (x55 x80 x83 : Int) (x79 : LI) (r : Int) (h : f68_p16_3 F x2 x56 x57 x81 x82 x1 x55 x80 x83 x79 = some r) : f68_p16_3_P x2 x56 x57 x81 x82 x1 x55 x80 x83 x79 r := by
 unfold f68_p16_3 at h
 by_cases h141 : (decide (x83 < x81)) = true
 ·rw [if_pos h141] at h
  obtain ⟨h142, h⟩ := req_some h
  obtain ⟨x84, h143, h⟩ := bind_some h
  try dsimp only at h
  obtain rfl := sI h
  exact gRun_ok cxOK (f68_p16_3_e0 x1 x2 x55 x56 x57 x79 x80 x81 x82 x83 x84) ⟨h141, h142, ⟨x84, h143, rfl⟩, trivial⟩
 ·rw [if_neg h141] at h
  have h141 := eF h141
  obtain rfl := sI h
  exact gRun_ok cxOK (f68_p16_3_e1 x1 x2 x55 x56 x57 x79 x80 x81 x82 x83) ⟨h141, trivial⟩
theorem f68_p13_3_ok (F : Nat) (x2 x56 x57 : Int) (x1 : LI) (x55 x80 : Int) (x79 : LI) : ∀ (k : Nat) (x81 x82 : Int) (r : Int), f68_p13_3 F x2 x56 x57 x1 x55 x80 x79 k x81 x82 = some r → f68_p13_3_P x2 x56 x57 x1 x55 x80 x79 x81 x82 r
 | 0, _, _, _, h => by cases h
 | k + 1, x81, x82, r, h => by
  unfold f68_p13_3 at h
  by_cases h136 : (decide (x82 < x2)) = true
  ·rw [if_pos h136] at h
   obtain ⟨h137, h⟩ := req_some h
   obtain ⟨x83, h138, h⟩ := bind_some h
   try dsimp only at h
   by_cases h139 : (decide (x83 ≥ 0)) = true
   ·rw [if_pos h139] at h
    by_cases h140 : (decide (x81 < 0)) = true
    ·rw [if_pos h140] at h
     exact Lp.again (gRun_ok cxOK (f68_p13_3_e0 x1 x2 x55 x56 x57 x79 x80 x81 x82 x83) ⟨h136, h137, ⟨x83, h138, rfl⟩, h139, h139, h139, h140, h140, h140, h140, h140, h140, h139, h140, h139, rfl, h137, ⟨x83, h138, rfl⟩, trivial⟩) (f68_p13_3_ok F x2 x56 x57 x1 x55 x80 x79 k x83 (w64 (x82 + x57)) r h)
    ·rw [if_neg h140] at h
     have h140 := eF h140
     obtain ⟨x85, h144, h⟩ := bind_some h
     have ch144 := f68_p16_3_ok F x2 x56 x57 x81 x82 x1 x55 x80 x83 x79 _ h144
     try dsimp only at h
     exact Lp.again (gRun_ok cxOK (f68_p13_3_e1 x1 x2 x55 x56 x57 x79 x80 x81 x82 x83 x85) ⟨h136, h137, ⟨x83, h138, rfl⟩, h139, h139, h139, h140, h140, h140, h137, h140, ⟨x83, h138, rfl⟩, h140, h140, h139, h140, h139, ch144, trivial⟩) (f68_p13_3_ok F x2 x56 x57 x1 x55 x80 x79 k x85 (w64 (x82 + x57)) r h)
   ·rw [if_neg h139] at h
    have h139 := eF h139
    exact Lp.again (gRun_ok cxOK (f68_p13_3_e2 x1 x2 x55 x56 x57 x79 x80 x81 x82 x83) ⟨h136, h137, ⟨x83, h138, rfl⟩, h139, h139, h139, h139, h139, rfl, trivial⟩) (f68_p13_3_ok F x2 x56 x57 x1 x55 x80 x79 k x81 (w64 (x82 + x57)) r h)
  ·rw [if_neg h136] at h
   have h136 := eF h136
   obtain rfl := sI h
   exact Lp.out (gRun_ok cxOK (f68_p13_3_e3 x1 x2 x55 x56 x57 x79 x80 x81 x82) ⟨h136, trivial⟩) (by intro hh; cases hh)
theorem f68_p21_7_ok (F : Nat) (x2 x56 : Int) (x57 x94 x95 : Int) (x1 : LI) (x55 x80 x96 : Int) (x93 : LI) (r : Int × (List Int)) (h : f68_p21_7 F x2 x56 x57 x94 x95 x1 x55 x80 x96 x93 = some r) : f68_p21_7_P x2 x56 x57 x94 x95 x1 x55 x80 x96 x93 r := by
 unfold f68_p21_7 at h
 by_cases h166 : (decide (x96 < (w64 (x94 + x56)))) = true
 ·rw [if_pos h166] at h
  obtain ⟨h167, h⟩ := req_some h
  obtain ⟨x97, h168, h⟩ := bind_some h
  try dsimp only at h
  obtain rfl := sI h
  exact gRun_ok cxOK (f68_p21_7_e0 x1 x2 x55 x56 x57 x80 x93 x94 x95 x96 x97) ⟨h166, h167, ⟨x97, h168, rfl⟩, trivial⟩
 ·rw [if_neg h166] at h
  have h166 := eF h166
  obtain ⟨h169, h⟩ := req_some h
  obtain ⟨h170, h⟩ := req_some h
  obtain rfl := sI h
  exact gRun_ok cxOK (f68_p21_7_e1 x1 x2 x55 x56 x57 x80 x93 x94 x95 x96) ⟨h166, h169, h170, trivial⟩
theorem f68_p18_3_ok (F : Nat) (x2 x56 x57 : Int) (x1 : LI) (x55 x80 : Int) : ∀ (k : Nat) (x94 x95 : Int) (x93 : LI) (r : (List Int)), f68_p18_3 F x2 x56 x57 x1 x55 x80 k x94 x95 x93 = some r → f68_p18_3_P x2 x56 x57 x1 x55 x80 x94 x95 x93 r
 | 0, _, _, _, _, h => by cases h
 | k + 1, x94, x95, x93, r, h => by
  unfold f68_p18_3 at h
  by_cases h159 : (decide (x94 ≥ 0)) = true
  ·rw [if_pos h159] at h
   obtain ⟨h160, h⟩ := req_some h
   by_cases h161 : (decide (x95 < (w64 (Int.tdiv x2 x57)))) = true
   ·rw [if_pos h161] at h
    obtain ⟨h162, h⟩ := req_some h
    obtain ⟨h163, h⟩ := req_some h
    obtain ⟨x96, h164, h⟩ := bind_some h
    try dsimp only at h
    by_cases h165 : (decide (x96 ≥ 0)) = true
    ·rw [if_pos h165] at h
     obtain ⟨rh171, h171, h⟩ := bind_some h
     have ch171 := f68_p21_7_ok F x2 x56 x57 x94 x95 x1 x55 x80 x96 x93 _ h171
     obtain ⟨x98, x99⟩ := rh171
     try dsimp only at h
     exact Lp.again (gRun_ok cxOK (f68_p18_3_e0 x1 x2 x55 x56 x57 x80 x93 x94 x95 x96 x98 x99) ⟨h159, h159, h159, h159, h160, h159, h159, h161, h162, h163, ⟨x96, h164, rfl⟩, h165, h165, h165, h163, h165, ⟨x96, h164, rfl⟩, h165, h165, h165, ch171, trivial⟩) (f68_p18_3_ok F x2 x56 x57 x1 x55 x80 k x98 (w64 (x95 + 1)) x99 r h)
    ·rw [if_neg h165] at h
     have h165 := eF h165
     obtain ⟨h172, h⟩ := req_some h
     exact Lp.again (gRun_ok cxOK (f68_p18_3_e1 x1 x2 x55 x56 x57 x80 x93 x94 x95 x96) ⟨h159, h159, h159, h159, h160, h159, h159, h161, h162, h163, ⟨x96, h164, rfl⟩, h165, h165, h165, h165, h165, h165, h165, rfl, h163, h172, trivial⟩) (f68_p18_3_ok F x2 x56 x57 x1 x55 x80 k (w64 (x94 + x56)) (w64 (x95 + 1)) (List.set x93 (0 + (Int.toNat (Int.tmod (w64 (x94 + x56)) x2))) (w64 (x94 + x56))) r h)
   ·rw [if_neg h161] at h
    have h161 := eF h161
    obtain rfl := sI h
    exact Lp.out (gRun_ok cxOK (f68_p18_3_e2 x1 x2 x55 x56 x57 x80 x93 x94 x95) ⟨h159, h159, h159, h159, h160, h159, h159, h161, trivial⟩) (by intro hh; cases hh)
  ·rw [if_neg h159] at h
   have h159 := eF h159
   obtain rfl := sI h
   exact Lp.out (gRun_ok cxOK (f68_p18_3_e3 x1 x2 x55 x56 x57 x80 x93 x94 x95) ⟨h159, h159, h159, h159, h159, h159, rfl, trivial⟩) (by intro hh; cases hh)
theorem f68_p9_1_ok (F : Nat) (x2 x56 x57 : Int) (x1 : LI) (x55 : Int) : ∀ (k : Nat) (x80 : Int) (x79 : LI) (r : (List Int)), f68_p9_1 F x2 x56 x57 x1 x55 k x80 x79 = some r → f68_p9_1_P x2 x56 x57 x1 x55 x80 x79 r
 | 0, _, _, _, h => by cases h
 | k + 1, x80, x79, r, h => by
  unfold f68_p9_1 at h
  by_cases h135 : (decide (x80 < x57)) = true
  ·rw [if_pos h135] at h
   obtain ⟨x86, h145, h⟩ := bind_some h
   have ch145 := f68_p13_3_ok F x2 x56 x57 x1 x55 x80 x79 F (-1) x80 _ h145
   try dsimp only at h
   obtain ⟨x100, h173, h⟩ := bind_some h
   have ch173 := f68_p18_3_ok F x2 x56 x57 x1 x55 x80 F x86 1 x79 _ h173
   try dsimp only at h
   exact Lp.again (gRun_ok cxOK (f68_p9_1_e0 x1 x2 x55 x56 x57 x79 x80 x86 x100) ⟨h135, ch145, ch173, trivial⟩) (f68_p9_1_ok F x2 x56 x57 x1 x55 k (w64 (x80 + 1)) x100 r h)
  ·rw [if_neg h135] at h
   have h135 := eF h135
   obtain rfl := sI h
   exact Lp.out (gRun_ok cxOK (f68_p9_1_e1 x1 x2 x55 x56 x57 x79 x80) ⟨h135, trivial⟩) (by intro hh; cases hh)
theorem f68_p5_ok (F : Nat) (x2 : Int) (x1 : LI) : ∀ (k : Nat) (x55 : Int) (x54 : LI) (r : (List Int)), f68_p5 F x2 x1 k x55 x54 = some r → f68_p5_P x2 x1 x55 x54 r
 | 0, _, _, _, h => by cases h
 | k + 1, x55, x54, r, h => by
  unfold f68_p5 at h
  by_cases h93 : (decide (x55 < ((List.length x1 : Nat) : Int))) = true
  ·rw [if_pos h93] at h
   obtain ⟨x56, h94, h⟩ := bind_some h
   try dsimp only at h
   obtain ⟨x57, h95, h⟩ := bind_some h
   have ch95 := f90_ok F x56 x2 _ h95
   try dsimp only at h
   obtain ⟨x101, h174, h⟩ := bind_some h
   have ch174 := f68_p9_1_ok F x2 x56 x57 x1 x55 F 0 x54 _ h174
   try dsimp only at h
   exact Lp.again (gRun_ok cxOK (f68_p5_e0 x1 x2 x54 x55 x56 x57 x101) ⟨h93, ⟨(at?_spec h94).1, x56, (at?_spec h94).2, rfl⟩, ch95, ch174, trivial⟩) (f68_p5_ok F x2 x1 k (w64 (x55 + 1)) x101 r h)
  ·rw [if_neg h93] at h
   have h93 := eF h93
   obtain rfl := sI h
   exact Lp.out (gRun_ok cxOK (f68_p5_e1 x1 x2 x54 x55) ⟨h93, trivial⟩) (by intro hh; cases hh)
theorem f68_ok (F : Nat) (x1 : LI) (x2 : Int) (r : (List Int)) (h : f68 F x1 x2 = some r) : f68_C x1 x2 r := by
 unfold f68 at h
 obtain ⟨h1, h⟩ := req_some h
 obtain ⟨x6, h8, h⟩ := bind_some h
 have ch8 := f68_p1_ok F x1 x2 F 0 (List.replicate (Int.toNat x2) (0 : Int)) _ h8
 try dsimp only at h
 obtain ⟨h9, h⟩ := req_some h
 obtain ⟨h10, h⟩ := req_some h
 obtain ⟨x102, h175, h⟩ := bind_some h
 have ch175 := f68_p5_ok F x2 x1 F 0 (List.set x6 0 0) _ h175
 try dsimp only at h
 obtain ⟨h176, h⟩ := req_some h
 obtain rfl := sI h
 exact callOK cxOK cxW Try.func68 (by kernel_rfl) (f68_e0 x1 x2 x6 x102) ⟨h1, ch8, h9, h10, ch175, h176, trivial⟩

theorem f105_p1_ok (F : Nat) (x1 : LI) (x2 : Int) : ∀ (k : Nat) (x3 : Int) (r : f105_p1_R), f105_p1 F x1 x2 k x3 = some r → f105_p1_P x1 x2 x3 r
 | 0, _, _, h => by cases h
 | k + 1, x3, r, h => by
  unfold f105_p1 at h
  by_cases h1 : (decide (x3 < ((List.length x1 : Nat) : Int))) = true
  ·rw [if_pos h1] at h
   obtain ⟨x4, h2, h⟩ := bind_some h
   try dsimp only at h
   by_cases h3 : (x2 == x4) = true
   ·rw [if_pos h3] at h
    obtain rfl := sI h
    exact Lp.out (gRun_ok cxOK (f105_p1_e0 x1 x2 x3 x4) ⟨h1, ⟨(at?_spec h2).1, x4, (at?_spec h2).2, rfl⟩, h3, trivial⟩) (by intro hh; cases hh)
   ·rw [if_neg h3] at h
    have h3 := eF h3
    exact Lp.again (gRun_ok cxOK (f105_p1_e1 x1 x2 x3 x4) ⟨h1, ⟨(at?_spec h2).1, x4, (at?_spec h2).2, rfl⟩, h3, trivial⟩) (f105_p1_ok F x1 x2 k (w64 (x3 + 1)) r h)
  ·rw [if_neg h1] at h
   have h1 := eF h1
   obtain rfl := sI h
   exact Lp.out (gRun_ok cxOK (f105_p1_e2 x1 x2 x3) ⟨h1, trivial⟩) (by intro hh; cases hh)
theorem f105_ok (F : Nat) (x1 : LI) (x2 : Int) (r : Int) (h : f105 F x1 x2 = some r) : f105_C x1 x2 r := by
 unfold f105 at h
 obtain ⟨rh4, h4, h⟩ := bind_some h
 have ch4 := f105_p1_ok F x1 x2 F 0 _ h4
 cases rh4 with
 | c0 x5 =>
  try dsimp only at h
  obtain rfl := sI h
  exact callOK cxOK cxW Try.func105 (by kernel_rfl) (f105_e0 x1 x2 x5) ⟨ch4, trivial⟩
 | c1 =>
  try dsimp only at h
  obtain rfl := sI h
  exact callOK cxOK cxW Try.func105 (by kernel_rfl) (f105_e1 x1 x2) ⟨ch4, trivial⟩

theorem f91_ok (F : Nat) (x1 : LI) (x2 : Int) (r : Bool) (h : f91 F x1 x2 = some r) : f91_C x1 x2 r := by
 unfold f91 at h
 obtain ⟨x3, h1, h⟩ := bind_some h
 have ch1 := f105_ok F x1 x2 _ h1
 try dsimp only at h
 obtain rfl := sI h
 exact callOK cxOK cxW Try.func91 (by kernel_rfl) (f91_e0 x1 x2 x3) ⟨ch1, trivial⟩

theorem f103_p0_ok (F : Nat) (x1 : Int) (r : Int × Int) (h : f103_p0 F x1 = some r) : f103_p0_P x1 r := by
 unfold f103_p0 at h
 by_cases h1 : (decide (x1 ≥ 4294967296)) = true
 ·rw [if_pos h1] at h
  obtain rfl := sI h
  exact gRun_ok cxOK (f103_p0_e0 x1) ⟨h1, (by decide), trivial⟩
 ·rw [if_neg h1] at h
  have h1 := eF h1
  obtain rfl := sI h
  exact gRun_ok cxOK (f103_p0_e1 x1) ⟨h1, trivial⟩
theorem f103_p1_ok (F : Nat) (x2 x3 : Int) (r : Int × Int) (h : f103_p1 F x2 x3 = some r) : f103_p1_P x2 x3 r := by
 unfold f103_p1 at h
 by_cases h3 : (decide (x2 ≥ 65536)) = true
 ·rw [if_pos h3] at h
  obtain rfl := sI h
  exact gRun_ok cxOK (f103_p1_e0 x2 x3) ⟨h3, (by decide), trivial⟩
 ·rw [if_neg h3] at h
  have h3 := eF h3
  obtain rfl := sI h
  exact gRun_ok cxOK (f103_p1_e1 x2 x3) ⟨h3, trivial⟩
theorem f103_p2_ok (F : Nat) (x4 x5 : Int) (r : Int × Int) (h : f103_p2 F x4 x5 = some r) : f103_p2_P x4 x5 r := by
 unfold f103_p2 at h
 by_cases h5 : (decide (x4 ≥ 256)) = true
 ·rw [if_pos h5] at h
  obtain rfl := sI h
  exact gRun_ok cxOK (f103_p2_e0 x4 x5) ⟨h5, (by decide), trivial⟩
 ·rw [if_neg h5] at h
  have h5 := eF h5
  obtain rfl := sI h
  exact gRun_ok cxOK (f103_p2_e1 x4 x5) ⟨h5, trivial⟩
theorem f103_ok (F : Nat) (x1 : Int) (r : Int) (h : f103 F x1 = some r) : f103_C x1 r := by
 unfold f103 at h
 obtain ⟨rh2, h2, h⟩ := bind_some h
 have ch2 := f103_p0_ok F x1 _ h2
 obtain ⟨x2, x3⟩ := rh2
 try dsimp only at h
 obtain ⟨rh4, h4, h⟩ := bind_some h
 have ch4 := f103_p1_ok F x2 x3 _ h4
 obtain ⟨x4, x5⟩ := rh4
 try dsimp only at h
 obtain ⟨rh6, h6, h⟩ := bind_some h
 have ch6 := f103_p2_ok F x4 x5 _ h6
 obtain ⟨x6, x7⟩ := rh6
 try dsimp only at h
 obtain ⟨h7, h⟩ := req_some h
 obtain rfl := sI h
 exact callOK cxOK cxW Try.func103 (by kernel_rfl) (f103_e0 x1 x2 x3 x4 x5 x6 x7) ⟨ch2, ch4, ch6, h7, trivial⟩

theorem f84_ok (F : Nat) (x1 : Int) (r : Int) (h : f84 F x1 = some r) : f84_C x1 r := by
 unfold f84 at h
 obtain ⟨x2, h1, h⟩ := bind_some h
 have ch1 := f103_ok F x1 _ h1
 try dsimp only at h
 obtain rfl := sI h
 exact callOK cxOK cxW Try.func84 (by kernel_rfl) (f84_e0 x1 x2) ⟨rfl, ch1, trivial⟩

theorem f111_ok (F : Nat) (x1 : Int) (r : Bool) (h : f111 F x1 = some r) : f111_C x1 r := by
 unfold f111 at h
 obtain rfl := sI h
 exact callOK cxOK cxW Try.func111 (by kernel_rfl) (f111_e0 x1) trivial

theorem f99_ok (F : Nat) (x1 x2 : Int) (r : Bool) (h : f99 F x1 x2 = some r) : f99_C x1 x2 r := by
 unfold f99 at h
 obtain ⟨x3, h1, h⟩ := bind_some h
 have ch1 := f111_ok F x1 _ h1
 try dsimp only at h
 by_cases h2 : x3 = true
 ·rw [if_pos h2] at h
  obtain ⟨x4, h3, h⟩ := bind_some h
  have ch3 := f111_ok F x2 _ h3
  try dsimp only at h
  by_cases h4 : x4 = true
  ·rw [if_pos h4] at h
   obtain rfl := sI h
   exact callOK cxOK cxW Try.func99 (by kernel_rfl) (f99_e0 x1 x2 x3 x4) ⟨ch1, h2, h2, ch3, h2, h2, (by rw [h4]; rfl), (by rw [h4]; rfl), (by rw [h4]; rfl), (by rw [h4]; rfl), trivial⟩
  ·rw [if_neg h4] at h
   have h4 := eF h4
   obtain rfl := sI h
   exact callOK cxOK cxW Try.func99 (by kernel_rfl) (f99_e1 x1 x2 x3 x4) ⟨ch1, h2, h2, ch3, h2, h2, (by rw [h4]; rfl), (by rw [h4]; rfl), (by rw [h4]; rfl), (by rw [h4]; rfl), trivial⟩
 ·rw [if_neg h2] at h
  have h2 := eF h2
  obtain rfl := sI h
  exact callOK cxOK cxW Try.func99 (by kernel_rfl) (f99_e2 x1 x2 x3) ⟨ch1, h2, h2, h2, h2, rfl, rfl, rfl, rfl, trivial⟩

theorem f93_p5_1_ok (F : Nat) (x1 x2 : Nat) (x3 x4 x18 : Int) : ∀ (k : Nat) (x24 : Int) (x23 : LI) (r : (List Int)), f93_p5_1 F x1 x2 x3 x4 x18 k x24 x23 = some r → f93_p5_1_P x1 x2 x3 x4 x18 x24 x23 r
 | 0, _, _, _, h => by cases h
 | k + 1, x24, x23, r, h => by
  unfold f93_p5_1 at h
  by_cases h31 : (decide (x24 > x3)) = true
  ·rw [if_pos h31] at h
   obtain ⟨h32, h⟩ := req_some h
   obtain ⟨x25, h33, h⟩ := bind_some h
   try dsimp only at h
   obtain ⟨h34, h⟩ := req_some h
   obtain ⟨x26, h35, h⟩ := bind_some h
   try dsimp only at h
   obtain ⟨x27, h36, h⟩ := bind_some h
   have ch36 := f99_ok F x25 x26 _ h36
   try dsimp only at h
   by_cases h37 : x27 = true
   ·rw [if_pos h37] at h
    obtain ⟨h38, h⟩ := req_some h
    obtain ⟨h39, h⟩ := req_some h
    exact Lp.again (gRun_ok cxOK (f93_p5_1_e0 x1 x2 x3 x4 x18 x23 x24 x25 x26 x27) ⟨h31, h31, h31, h32, h31, ⟨x25, h33, rfl⟩, h31, h31, h31, h31, h34, h31, ⟨x26, h35, rfl⟩, h31, ch36, h31, h37, h34, ⟨x26, h35, rfl⟩, h32, ⟨x25, h33, rfl⟩, h32, h38, h34, h39, trivial⟩) (f93_p5_1_ok F x1 x2 x3 x4 x18 k (w64 (x24 - 1)) (List.set (List.set x23 (x1 + (Int.toNat x24)) x26) (x1 + (Int.toNat (w64 (x24 - 1)))) x25) r h)
   ·rw [if_neg h37] at h
    have h37 := eF h37
    obtain rfl := sI h
    exact Lp.out (gRun_ok cxOK (f93_p5_1_e1 x1 x2 x3 x4 x18 x23 x24 x25 x26 x27) ⟨h31, h31, h31, h32, h31, ⟨x25, h33, rfl⟩, h31, h31, h31, h31, h34, h31, ⟨x26, h35, rfl⟩, h31, ch36, h31, h37, trivial⟩) (by intro hh; cases hh)
  ·rw [if_neg h31] at h
   have h31 := eF h31
   obtain rfl := sI h
   exact Lp.out (gRun_ok cxOK (f93_p5_1_e2 x1 x2 x3 x4 x18 x23 x24) ⟨h31, h31, h31, h31, h31, h31, h31, h31, h31, h31, h31, rfl, trivial⟩) (by intro hh; cases hh)
theorem f93_p1_ok (F : Nat) (x1 x2 : Nat) (x3 x4 : Int) : ∀ (k : Nat) (x18 : Int) (x17 : LI) (r : (List Int)), f93_p1 F x1 x2 x3 x4 k x18 x17 = some r → f93_p1_P x1 x2 x3 x4 x18 x17 r
 | 0, _, _, _, h => by cases h
 | k + 1, x18, x17, r, h => by
  unfold f93_p1 at h
  by_cases h21 : (decide (x18 < x4)) = true
  ·rw [if_pos h21] at h
   obtain ⟨x28, h40, h⟩ := bind_some h
   have ch40 := f93_p5_1_ok F x1 x2 x3 x4 x18 F x18 x17 _ h40
   try dsimp only at h
   exact Lp.again (gRun_ok cxOK (f93_p1_e0 x1 x2 x3 x4 x17 x18 x28) ⟨h21, ch40, trivial⟩) (f93_p1_ok F x1 x2 x3 x4 k (w64 (x18 + 1)) x28 r h)
  ·rw [if_neg h21] at h
   have h21 := eF h21
   obtain rfl := sI h
   exact Lp.out (gRun_ok cxOK (f93_p1_e1 x1 x2 x3 x4 x17 x18) ⟨h21, trivial⟩) (by intro hh; cases hh)
theorem f93_ok (F : Nat) (x1 x2 : Nat) (x3 x4 : Int) (x5 : LI) (r : (List Int)) (h : f93 F x1 x2 x3 x4 x5 = some r) : f93_C x1 x2 x3 x4 x5 r := by
 unfold f93 at h
 obtain ⟨x29, h41, h⟩ := bind_some h
 have ch41 := f93_p1_ok F x1 x2 x3 x4 F (w64 (x3 + 1)) x5 _ h41
 try dsimp only at h
 obtain rfl := sI h
 exact callOK cxOK cxW Try.func93 (by kernel_rfl) (f93_e0 x1 x2 x3 x4 x5 x29) ⟨ch41, trivial⟩

theorem f112_ok (F : Nat) (x1 x2 : Nat) (x3 x4 : Int) (x5 : LI) (x6 : Int) (r : Int × Int × Int) (h : f112 F x1 x2 x3 x4 x5 x6 = some r) : f112_C x1 x2 x3 x4 x5 x6 r := by
 unfold f112 at h
 obtain ⟨h1, h⟩ := req_some h
 obtain ⟨x7, h2, h⟩ := bind_some h
 try dsimp only at h
 obtain ⟨h3, h⟩ := req_some h
 obtain ⟨x8, h4, h⟩ := bind_some h
 try dsimp only at h
 obtain ⟨x9, h5, h⟩ := bind_some h
 have ch5 := f99_ok F x7 x8 _ h5
 try dsimp only at h
 by_cases h6 : x9 = true
 ·rw [if_pos h6] at h
  obtain rfl := sI h
  exact callOK cxOK cxW Try.func112 (by kernel_rfl) (f112_e0 x1 x2 x3 x4 x5 x6 x7 x8 x9) ⟨h1, ⟨x7, h2, rfl⟩, h3, ⟨x8, h4, rfl⟩, ch5, h6, trivial⟩
 ·rw [if_neg h6] at h
  have h6 := eF h6
  obtain rfl := sI h
  exact callOK cxOK cxW Try.func112 (by kernel_rfl) (f112_e1 x1 x2 x3 x4 x5 x6 x7 x8 x9) ⟨h1, ⟨x7, h2, rfl⟩, h3, ⟨x8, h4, rfl⟩, ch5, h6, trivial⟩

theorem f110_ok (F : Nat) (x1 x2 : Nat) (x3 x4 x5 : Int) (x6 : LI) (x7 : Int) (r : Int × Int) (h : f110 F x1 x2 x3 x4 x5 x6 x7 = some r) : f110_C x1 x2 x3 x4 x5 x6 x7 r := by
 unfold f110 at h
 obtain ⟨rh1, h1, h⟩ := bind_some h
 have ch1 := f112_ok F x1 x2 x3 x4 x6 x7 _ h1
 obtain ⟨x8, x9, x10⟩ := rh1
 try dsimp only at h
 obtain ⟨rh2, h2, h⟩ := bind_some h
 have ch2 := f112_ok F x1 x2 x9 x5 x6 x10 _ h2
 obtain ⟨x11, x12, x13⟩ := rh2
 try dsimp only at h
 obtain ⟨rh3, h3, h⟩ := bind_some h
 have ch3 := f112_ok F x1 x2 x8 x11 x6 x13 _ h3
 obtain ⟨x14, x15, x16⟩ := rh3
 try dsimp only at h
 obtain rfl := sI h
 exact callOK cxOK cxW Try.func110 (by kernel_rfl) (f110_e0 x1 x2 x3 x4 x5 x6 x7 x8 x9 x10 x11 x12 x13 x14 x15 x16) ⟨ch1, ch2, ch3, trivial⟩

theorem f96_p1_ok (F : Nat) (x1 x2 : Nat) (x3 x4 : Int) (x5 : LI) (r : Unit) (h : f96_p1 F x1 x2 x3 x4 x5 = some r) : f96_p1_P x1 x2 x3 x4 x5 r := by
 unfold f96_p1 at h
 by_cases h2 : (decide ((w64 (x4 - x3)) ≥ 50)) = true
 ·rw [if_pos h2] at h
  cases h
 ·rw [if_neg h2] at h
  have h2 := eF h2
  obtain rfl := sI h
  exact gRun_ok cxOK (f96_p1_e0 x1 x2 x3 x4 x5) ⟨h2, trivial⟩
theorem f96_p0_ok (F : Nat) (x1 x2 : Nat) (x4 x3 : Int) (x5 : LI) (r : Int × Int) (h : f96_p0 F x1 x2 x4 x3 x5 = some r) : f96_p0_P x1 x2 x4 x3 x5 r := by
 unfold f96_p0 at h
 by_cases h1 : (decide ((w64 (x4 - x3)) ≥ 8)) = true
 ·rw [if_pos h1] at h
  obtain ⟨rh3, h3, h⟩ := bind_some h
  have ch3 := f96_p1_ok F x1 x2 x3 x4 x5 _ h3
  try dsimp only at h
  obtain ⟨rh4, h4, h⟩ := bind_some h
  have ch4 := f110_ok F x1 x2 (w64 (x3 + (w64 ((w64 (Int.tdiv (w64 (x4 - x3)) 4)) * 1)))) (w64 (x3 + (w64 ((w64 (Int.tdiv (w64 (x4 - x3)) 4)) * 2)))) (w64 (x3 + (w64 ((w64 (Int.tdiv (w64 (x4 - x3)) 4)) * 3)))) x5 0 _ h4
  obtain ⟨x6, x7⟩ := rh4
  try dsimp only at h
  obtain rfl := sI h
  exact gRun_ok cxOK (f96_p0_e0 x1 x2 x3 x4 x5 x6 x7) ⟨h1, ch3, ch4, trivial⟩
 ·rw [if_neg h1] at h
  have h1 := eF h1
  obtain rfl := sI h
  exact gRun_ok cxOK (f96_p0_e1 x1 x2 x3 x4 x5) ⟨h1, trivial⟩
theorem f96_ok (F : Nat) (x1 x2 : Nat) (x3 x4 : Int) (x5 : LI) (r : Int × Int) (h : f96 F x1 x2 x3 x4 x5 = some r) : f96_C x1 x2 x3 x4 x5 r := by
 unfold f96 at h
 obtain ⟨rh5, h5, h⟩ := bind_some h
 have ch5 := f96_p0_ok F x1 x2 x4 x3 x5 _ h5
 obtain ⟨x8, x9⟩ := rh5
 try dsimp only at h
 by_cases h6 : (x9 == 0) = true
 ·rw [if_pos h6] at h
  obtain rfl := sI h
  exact callOK cxOK cxW Try.func96 (by kernel_rfl) (f96_e0 x1 x2 x3 x4 x5 x8 x9) ⟨(by decide), (by decide), (by decide), ch5, h6, trivial⟩
 ·rw [if_neg h6] at h
  have h6 := eF h6
  by_cases h7 : (x9 == 12) = true
  ·rw [if_pos h7] at h
   obtain rfl := sI h
   exact callOK cxOK cxW Try.func96 (by kernel_rfl) (f96_e1 x1 x2 x3 x4 x5 x8 x9) ⟨(by decide), (by decide), (by decide), ch5, h6, h7, trivial⟩
  ·rw [if_neg h7] at h
   have h7 := eF h7
   obtain rfl := sI h
   exact callOK cxOK cxW Try.func96 (by kernel_rfl) (f96_e2 x1 x2 x3 x4 x5 x8 x9) ⟨(by decide), (by decide), (by decide), ch5, h6, h7, trivial⟩

theorem f101_p1_ok (F : Nat) (x1 x2 : Nat) (x3 x4 : Int) (x6 : LI) (x7 x5 x8 : Int) : ∀ (k : Nat) (x9 : Int) (r : Int), f101_p1 F x1 x2 x3 x4 x6 x7 x5 x8 k x9 = some r → f101_p1_P x1 x2 x3 x4 x6 x7 x5 x8 x9 r
 | 0, _, _, h => by cases h
 | k + 1, x9, r, h => by
  unfold f101_p1 at h
  by_cases h7 : (decide (x9 ≤ (w64 (x4 - 1)))) = true
  ·rw [if_pos h7] at h
   obtain ⟨h8, h⟩ := req_some h
   obtain ⟨x10, h9, h⟩ := bind_some h
   try dsimp only at h
   obtain ⟨h10, h⟩ := req_some h
   obtain ⟨x11, h11, h⟩ := bind_some h
   try dsimp only at h
   obtain ⟨x12, h12, h⟩ := bind_some h
   have ch12 := f99_ok F x10 x11 _ h12
   try dsimp only at h
   by_cases h13 : x12 = true
   ·rw [if_pos h13] at h
    exact Lp.again (gRun_ok cxOK (f101_p1_e0 x1 x2 x3 x4 x5 x6 x7 x8 x9 x10 x11 x12) ⟨h7, h7, h7, h8, h7, ⟨x10, h9, rfl⟩, h7, h7, h7, h10, h7, ⟨x11, h11, rfl⟩, h7, ch12, h7, h13, trivial⟩) (f101_p1_ok F x1 x2 x3 x4 x6 x7 x5 x8 k (w64 (x9 + 1)) r h)
   ·rw [if_neg h13] at h
    have h13 := eF h13
    obtain rfl := sI h
    exact Lp.out (gRun_ok cxOK (f101_p1_e1 x1 x2 x3 x4 x5 x6 x7 x8 x9 x10 x11 x12) ⟨h7, h7, h7, h8, h7, ⟨x10, h9, rfl⟩, h7, h7, h7, h10, h7, ⟨x11, h11, rfl⟩, h7, ch12, h7, h13, trivial⟩) (by intro hh; cases hh)
  ·rw [if_neg h7] at h
   have h7 := eF h7
   obtain rfl := sI h
   exact Lp.out (gRun_ok cxOK (f101_p1_e2 x1 x2 x3 x4 x5 x6 x7 x8 x9) ⟨h7, h7, h7, h7, h7, h7, h7, h7, h7, h7, rfl, trivial⟩) (by intro hh; cases hh)
theorem f101_p5_ok (F : Nat) (x1 x2 : Nat) (x3 x13 : Int) (x6 : LI) (x7 x5 x8 : Int) : ∀ (k : Nat) (x14 : Int) (r : Int), f101_p5 F x1 x2 x3 x13 x6 x7 x5 x8 k x14 = some r → f101_p5_P x1 x2 x3 x13 x6 x7 x5 x8 x14 r
 | 0, _, _, h => by cases h
 | k + 1, x14, r, h => by
  unfold f101_p5 at h
  by_cases h15 : (decide (x13 ≤ x14)) = true
  ·rw [if_pos h15] at h
   obtain ⟨h16, h⟩ := req_some h
   obtain ⟨x15, h17, h⟩ := bind_some h
   try dsimp only at h
   obtain ⟨h18, h⟩ := req_some h
   obtain ⟨x16, h19, h⟩ := bind_some h
   try dsimp only at h
   obtain ⟨x17, h20, h⟩ := bind_some h
   have ch20 := f99_ok F x15 x16 _ h20
   try dsimp only at h
   by_cases h21 : x17 = true
   ·rw [if_pos h21] at h
    obtain rfl := sI h
    exact Lp.out (gRun_ok cxOK (f101_p5_e0 x1 x2 x3 x5 x6 x7 x8 x13 x14 x15 x16 x17) ⟨h15, h15, h15, h16, h15, ⟨x15, h17, rfl⟩, h15, h15, h15, h18, h15, ⟨x16, h19, rfl⟩, h15, ch20, h15, h15, (by rw [h21]; rfl), trivial⟩) (by intro hh; cases hh)
   ·rw [if_neg h21] at h
    have h21 := eF h21
    exact Lp.again (gRun_ok cxOK (f101_p5_e1 x1 x2 x3 x5 x6 x7 x8 x13 x14 x15 x16 x17) ⟨h15, h15, h15, h16, h15, ⟨x15, h17, rfl⟩, h15, h15, h15, h18, h15, ⟨x16, h19, rfl⟩, h15, ch20, h15, h15, (by rw [h21]; rfl), trivial⟩) (f101_p5_ok F x1 x2 x3 x13 x6 x7 x5 x8 k (w64 (x14 - 1)) r h)
  ·rw [if_neg h15] at h
   have h15 := eF h15
   obtain rfl := sI h
   exact Lp.out (gRun_ok cxOK (f101_p5_e2 x1 x2 x3 x5 x6 x7 x8 x13 x14) ⟨h15, h15, h15, h15, h15, h15, h15, h15, h15, h15, h15, rfl, trivial⟩) (by intro hh; cases hh)
theorem f101_p13_1_ok (F : Nat) (x1 x2 : Nat) (x3 x39 : Int) (x37 : LI) : ∀ (k : Nat) (x40 : Int) (r : Int), f101_p13_1 F x1 x2 x3 x39 x37 k x40 = some r → f101_p13_1_P x1 x2 x3 x39 x37 x40 r
 | 0, _, _, h => by cases h
 | k + 1, x40, r, h => by
  unfold f101_p13_1 at h
  by_cases h58 : (decide (x40 ≤ x39)) = true
  ·rw [if_pos h58] at h
   obtain ⟨h59, h⟩ := req_some h
   obtain ⟨x41, h60, h⟩ := bind_some h
   try dsimp only at h
   obtain ⟨h61, h⟩ := req_some h
   obtain ⟨x42, h62, h⟩ := bind_some h
   try dsimp only at h
   obtain ⟨x43, h63, h⟩ := bind_some h
   have ch63 := f99_ok F x41 x42 _ h63
   try dsimp only at h
   by_cases h64 : x43 = true
   ·rw [if_pos h64] at h
    exact Lp.again (gRun_ok cxOK (f101_p13_1_e0 x1 x2 x3 x37 x39 x40 x41 x42 x43) ⟨h58, h58, h58, h59, h58, ⟨x41, h60, rfl⟩, h58, h58, h58, h61, h58, ⟨x42, h62, rfl⟩, h58, ch63, h58, h64, trivial⟩) (f101_p13_1_ok F x1 x2 x3 x39 x37 k (w64 (x40 + 1)) r h)
   ·rw [if_neg h64] at h
    have h64 := eF h64
    obtain rfl := sI h
    exact Lp.out (gRun_ok cxOK (f101_p13_1_e1 x1 x2 x3 x37 x39 x40 x41 x42 x43) ⟨h58, h58, h58, h59, h58, ⟨x41, h60, rfl⟩, h58, h58, h58, h61, h58, ⟨x42, h62, rfl⟩, h58, ch63, h58, h64, trivial⟩) (by intro hh; cases hh)
  ·rw [if_neg h58] at h
   have h58 := eF h58
   obtain rfl := sI h
   exact Lp.out (gRun_ok cxOK (f101_p13_1_e2 x1 x2 x3 x37 x39 x40) ⟨h58, h58, h58, h58, h58, h58, h58, h58, h58, h58, rfl, trivial⟩) (by intro hh; cases hh)
theorem f101_p17_1_ok (F : Nat) (x1 x2 : Nat) (x3 x44 : Int) (x37 : LI) : ∀ (k : Nat) (x45 : Int) (r : Int), f101_p17_1 F x1 x2 x3 x44 x37 k x45 = some r → f101_p17_1_P x1 x2 x3 x44 x37 x45 r
 | 0, _, _, h => by cases h
 | k + 1, x45, r, h => by
  unfold f101_p17_1 at h
  by_cases h66 : (decide (x44 ≤ x45)) = true
  ·rw [if_pos h66] at h
   obtain ⟨h67, h⟩ := req_some h
   obtain ⟨x46, h68, h⟩ := bind_some h
   try dsimp only at h
   obtain ⟨h69, h⟩ := req_some h
   obtain ⟨x47, h70, h⟩ := bind_some h
   try dsimp only at h
   obtain ⟨x48, h71, h⟩ := bind_some h
   have ch71 := f99_ok F x46 x47 _ h71
   try dsimp only at h
   by_cases h72 : x48 = true
   ·rw [if_pos h72] at h
    obtain rfl := sI h
    exact Lp.out (gRun_ok cxOK (f101_p17_1_e0 x1 x2 x3 x37 x44 x45 x46 x47 x48) ⟨h66, h66, h66, h67, h66, ⟨x46, h68, rfl⟩, h66, h66, h66, h69, h66, ⟨x47, h70, rfl⟩, h66, ch71, h66, h66, (by rw [h72]; rfl), trivial⟩) (by intro hh; cases hh)
   ·rw [if_neg h72] at h
    have h72 := eF h72
    exact Lp.again (gRun_ok cxOK (f101_p17_1_e1 x1 x2 x3 x37 x44 x45 x46 x47 x48) ⟨h66, h66, h66, h67, h66, ⟨x46, h68, rfl⟩, h66, h66, h66, h69, h66, ⟨x47, h70, rfl⟩, h66, ch71, h66, h66, (by rw [h72]; rfl), trivial⟩) (f101_p17_1_ok F x1 x2 x3 x44 x37 k (w64 (x45 - 1)) r h)
  ·rw [if_neg h66] at h
   have h66 := eF h66
   obtain rfl := sI h
   exact Lp.out (gRun_ok cxOK (f101_p17_1_e2 x1 x2 x3 x37 x44 x45) ⟨h66, h66, h66, h66, h66, h66, h66, h66, h66, h66, h66, rfl, trivial⟩) (by intro hh; cases hh)
theorem f101_p10_ok (F : Nat) (x1 x2 : Nat) (x3 : Int) : ∀ (k : Nat) (x38 x39 : Int) (x37 : LI) (r : Int × (List Int)), f101_p10 F x1 x2 x3 k x38 x39 x37 = some r → f101_p10_P x1 x2 x3 x38 x39 x37 r
 | 0, _, _, _, _, h => by cases h
 | k + 1, x38, x39, x37, r, h => by
  unfold f101_p10 at h
  obtain ⟨x44, h65, h⟩ := bind_some h
  have ch65 := f101_p13_1_ok F x1 x2 x3 x39 x37 F x38 _ h65
  try dsimp only at h
  obtain ⟨x49, h73, h⟩ := bind_some h
  have ch73 := f101_p17_1_ok F x1 x2 x3 x44 x37 F x39 _ h73
  try dsimp only at h
  by_cases h74 : (decide (x44 > x49)) = true
  ·rw [if_pos h74] at h
   obtain rfl := sI h
   exact Lp.out (gRun_ok cxOK (f101_p10_e0 x1 x2 x3 x37 x38 x39 x44 x49) ⟨ch65, ch73, h74, trivial⟩) (by intro hh; cases hh)
  ·rw [if_neg h74] at h
   have h74 := eF h74
   obtain ⟨h75, h⟩ := req_some h
   obtain ⟨x50, h76, h⟩ := bind_some h
   try dsimp only at h
   obtain ⟨h77, h⟩ := req_some h
   obtain ⟨x51, h78, h⟩ := bind_some h
   try dsimp only at h
   obtain ⟨h79, h⟩ := req_some h
   obtain ⟨h80, h⟩ := req_some h
   exact Lp.again (gRun_ok cxOK (f101_p10_e1 x1 x2 x3 x37 x38 x39 x44 x49 x50 x51) ⟨ch65, ch73, h74, h75, ⟨x50, h76, rfl⟩, h77, ⟨x51, h78, rfl⟩, h77, h79, h75, h80, trivial⟩) (f101_p10_ok F x1 x2 x3 k (w64 (x44 + 1)) (w64 (x49 - 1)) (List.set (List.set x37 (x1 + (Int.toNat x44)) x50) (x1 + (Int.toNat x49)) x51) r h)
theorem f101_ok (F : Nat) (x1 x2 : Nat) (x3 x4 x5 : Int) (x6 : LI) (r : Int × Bool × (List Int)) (h : f101 F x1 x2 x3 x4 x5 x6 = some r) : f101_C x1 x2 x3 x4 x5 x6 r := by
 unfold f101 at h
 obtain ⟨h1, h⟩ := req_some h
 obtain ⟨x7, h2, h⟩ := bind_some h
 try dsimp only at h
 obtain ⟨h3, h⟩ := req_some h
 obtain ⟨x8, h4, h⟩ := bind_some h
 try dsimp only at h
 obtain ⟨h5, h⟩ := req_some h
 obtain ⟨h6, h⟩ := req_some h
 obtain ⟨x13, h14, h⟩ := bind_some h
 have ch14 := f101_p1_ok F x1 x2 x3 x4 x6 x7 x5 x8 F (w64 (x3 + 1)) _ h14
 try dsimp only at h
 obtain ⟨x18, h22, h⟩ := bind_some h
 have ch22 := f101_p5_ok F x1 x2 x3 x13 x6 x7 x5 x8 F (w64 (x4 - 1)) _ h22
 try dsimp only at h
 by_cases h23 : (decide (x13 > x18)) = true
 ·rw [if_pos h23] at h
  obtain ⟨x19, h24, h⟩ := bind_some h
  try dsimp only at h
  obtain ⟨h25, h⟩ := req_some h
  obtain ⟨x20, h26, h⟩ := bind_some h
  try dsimp only at h
  obtain ⟨h27, h⟩ := req_some h
  obtain ⟨h28, h⟩ := req_some h
  obtain rfl := sI h
  exact callOK cxOK cxW Try.func101 (by kernel_rfl) (f101_e0 x1 x2 x3 x4 x5 x6 x7 x8 x13 x18 x19 x20) ⟨h1, ⟨x7, h2, rfl⟩, h3, ⟨x8, h4, rfl⟩, h3, h5, h1, h6, ch14, ch22, h23, h3, ⟨x19, h24, rfl⟩, h25, ⟨x20, h26, rfl⟩, h25, h27, h3, h28, trivial⟩
 ·rw [if_neg h23] at h
  have h23 := eF h23
  obtain ⟨h29, h⟩ := req_some h
  obtain ⟨x21, h30, h⟩ := bind_some h
  try dsimp only at h
  obtain ⟨h31, h⟩ := req_some h
  obtain ⟨x22, h32, h⟩ := bind_some h
  try dsimp only at h
  obtain ⟨h33, h⟩ := req_some h
  obtain ⟨h34, h⟩ := req_some h
  obtain ⟨rh81, h81, h⟩ := bind_some h
  have ch81 := f101_p10_ok F x1 x2 x3 F (w64 (x13 + 1)) (w64 (x18 - 1)) (List.set (List.set (List.set (List.set x6 (x1 + (Int.toNat x3)) x7) (x1 + (Int.toNat x5)) x8) (x1 + (Int.toNat x13)) x21) (x1 + (Int.toNat x18)) x22) _ h81
  obtain ⟨x52, x53⟩ := rh81
  try dsimp only at h
  obtain ⟨x54, h82, h⟩ := bind_some h
  try dsimp only at h
  obtain ⟨h83, h⟩ := req_some h
  obtain ⟨x55, h84, h⟩ := bind_some h
  try dsimp only at h
  obtain ⟨h85, h⟩ := req_some h
  obtain ⟨h86, h⟩ := req_some h
  obtain rfl := sI h
  exact callOK cxOK cxW Try.func101 (by kernel_rfl) (f101_e1 x1 x2 x3 x4 x5 x6 x7 x8 x13 x18 x21 x22 x52 x53 x54 x55) ⟨h1, ⟨x7, h2, rfl⟩, h3, ⟨x8, h4, rfl⟩, h3, h5, h1, h6, ch14, ch22, h23, h29, ⟨x21, h30, rfl⟩, h31, ⟨x22, h32, rfl⟩, h31, h33, h29, h34, ch81, h3, ⟨x54, h82, rfl⟩, h83, ⟨x55, h84, rfl⟩, h83, h85, h3, h86, trivial⟩

theorem f83_p5_1_ok (F : Nat) (x1 x2 : Nat) (x28 x29 x30 : Int) (x31 x32 : Bool) (x27 : LI) (r : Unit) (h : f83_p5_1 F x1 x2 x28 x29 x30 x31 x32 x27 = some r) : f83_p5_1_P x1 x2 x28 x29 x30 x31 x32 x27 r := by
 unfold f83_p5_1 at h
 by_cases h28 : x31 = true
 ·rw [if_pos h28] at h
  obtain rfl := sI h
  exact gRun_ok cxOK (f83_p5_1_e0 x1 x2 x27 x28 x29 x30 x31 x32) ⟨(by rw [h28]; rfl), trivial⟩
 ·rw [if_neg h28] at h
  have h28 := eF h28
  cases h
theorem f83_p6_1_ok (F : Nat) (x1 x2 : Nat) (x28 x29 x30 : Int) (x31 x32 : Bool) (x34 x35 : Int) (x27 : LI) (r : Unit) (h : f83_p6_1 F x1 x2 x28 x29 x30 x31 x32 x34 x35 x27 = some r) : f83_p6_1_P x1 x2 x28 x29 x30 x31 x32 x34 x35 x27 r := by
 unfold f83_p6_1 at h
 by_cases h31 : (x35 == 2) = true
 ·rw [if_pos h31] at h
  cases h
 ·rw [if_neg h31] at h
  have h31 := eF h31
  obtain rfl := sI h
  exact gRun_ok cxOK (f83_p6_1_e0 x1 x2 x27 x28 x29 x30 x31 x32 x34 x35) ⟨h31, trivial⟩
theorem f83_p7_1_ok (F : Nat) (x1 x2 : Nat) (x28 x29 x30 : Int) (x31 x32 : Bool) (x34 x35 : Int) (x27 : LI) (r : Unit) (h : f83_p7_1 F x1 x2 x28 x29 x30 x31 x32 x34 x35 x27 = some r) : f83_p7_1_P x1 x2 x28 x29 x30 x31 x32 x34 x35 x27 r := by
 unfold f83_p7_1 at h
 by_cases h35 : (x35 == 1) = true
 ·rw [if_pos h35] at h
  cases h
 ·rw [if_neg h35] at h
  have h35 := eF h35
  obtain rfl := sI h
  exact gRun_ok cxOK (f83_p7_1_e0 x1 x2 x27 x28 x29 x30 x31 x32 x34 x35) ⟨h35, trivial⟩
theorem f83_p10_1_ok (F : Nat) (rec : Nat → Nat → Int → Int → Int → (List Int) → Option (List Int)) (hrec : ∀ (x1 x2 : Nat) (x3 x4 x5 : Int) (x6 : LI) (r : (List Int)), rec x1 x2 x3 x4 x5 x6 = some r → f83_C x1 x2 x3 x4 x5 x6 r) (x1 x2 : Nat) (x28 x29 x30 : Int) (x40 : Bool) (x39 : Int) (x41 : LI) (r : Int × Int × Bool × (List Int)) (h : f83_p10_1 F rec x1 x2 x28 x29 x30 x40 x39 x41 = some r) : f83_p10_1_P x1 x2 x28 x29 x30 x40 x39 x41 r := by
 unfold f83_p10_1 at h
 by_cases h45 : (decide ((w64 (x39 - x28)) < (w64 (x29 - x39)))) = true
 ·rw [if_pos h45] at h
  obtain ⟨x42, h46, h⟩ := bind_some h
  have ch46 := hrec x1 x2 x28 x39 x30 x41 _ h46
  try dsimp only at h
  obtain rfl := sI h
  exact gRun_ok cxOK (f83_p10_1_e0 x1 x2 x28 x29 x30 x39 x40 x41 x42) ⟨h45, ch46, trivial⟩
 ·rw [if_neg h45] at h
  have h45 := eF h45
  obtain ⟨x43, h47, h⟩ := bind_some h
  have ch47 := hrec x1 x2 (w64 (x39 + 1)) x29 x30 x41 _ h47
  try dsimp only at h
  obtain rfl := sI h
  exact gRun_ok cxOK (f83_p10_1_e1 x1 x2 x28 x29 x30 x39 x40 x41 x43) ⟨h45, ch47, trivial⟩
theorem f83_p10_2_ok (F : Nat) (rec : Nat → Nat → Int → Int → Int → (List Int) → Option (List Int)) (hrec : ∀ (x1 x2 : Nat) (x3 x4 x5 : Int) (x6 : LI) (r : (List Int)), rec x1 x2 x3 x4 x5 x6 = some r → f83_C x1 x2 x3 x4 x5 x6 r) (x1 x2 : Nat) (x28 x29 x30 : Int) (x49 : Bool) (x48 : Int) (x50 : LI) (r : Int × Int × Bool × (List Int)) (h : f83_p10_2 F rec x1 x2 x28 x29 x30 x49 x48 x50 = some r) : f83_p10_2_P x1 x2 x28 x29 x30 x49 x48 x50 r := by
 unfold f83_p10_2 at h
 by_cases h50 : (decide ((w64 (x48 - x28)) < (w64 (x29 - x48)))) = true
 ·rw [if_pos h50] at h
  obtain ⟨x51, h51, h⟩ := bind_some h
  have ch51 := hrec x1 x2 x28 x48 x30 x50 _ h51
  try dsimp only at h
  obtain rfl := sI h
  exact gRun_ok cxOK (f83_p10_2_e0 x1 x2 x28 x29 x30 x48 x49 x50 x51) ⟨h50, ch51, trivial⟩
 ·rw [if_neg h50] at h
  have h50 := eF h50
  obtain ⟨x52, h52, h⟩ := bind_some h
  have ch52 := hrec x1 x2 (w64 (x48 + 1)) x29 x30 x50 _ h52
  try dsimp only at h
  obtain rfl := sI h
  exact gRun_ok cxOK (f83_p10_2_e1 x1 x2 x28 x29 x30 x48 x49 x50 x52) ⟨h50, ch52, trivial⟩
theorem f83_p10_3_ok (F : Nat) (rec : Nat → Nat → Int → Int → Int → (List Int) → Option (List Int)) (hrec : ∀ (x1 x2 : Nat) (x3 x4 x5 : Int) (x6 : LI) (r : (List Int)), rec x1 x2 x3 x4 x5 x6 = some r → f83_C x1 x2 x3 x4 x5 x6 r) (x1 x2 : Nat) (x28 x29 x30 : Int) (x61 : Bool) (x60 : Int) (x62 : LI) (r : Int × Int × Bool × (List Int)) (h : f83_p10_3 F rec x1 x2 x28 x29 x30 x61 x60 x62 = some r) : f83_p10_3_P x1 x2 x28 x29 x30 x61 x60 x62 r := by
 unfold f83_p10_3 at h
 by_cases h62 : (decide ((w64 (x60 - x28)) < (w64 (x29 - x60)))) = true
 ·rw [if_pos h62] at h
  obtain ⟨x63, h63, h⟩ := bind_some h
  have ch63 := hrec x1 x2 x28 x60 x30 x62 _ h63
  try dsimp only at h
  obtain rfl := sI h
  exact gRun_ok cxOK (f83_p10_3_e0 x1 x2 x28 x29 x30 x60 x61 x62 x63) ⟨h62, ch63, trivial⟩
 ·rw [if_neg h62] at h
  have h62 := eF h62
  obtain ⟨x64, h64, h⟩ := bind_some h
  have ch64 := hrec x1 x2 (w64 (x60 + 1)) x29 x30 x62 _ h64
  try dsimp only at h
  obtain rfl := sI h
  exact gRun_ok cxOK (f83_p10_3_e1 x1 x2 x28 x29 x30 x60 x61 x62 x64) ⟨h62, ch64, trivial⟩
theorem f83_p10_4_ok (F : Nat) (rec : Nat → Nat → Int → Int → Int → (List Int) → Option (List Int)) (hrec : ∀ (x1 x2 : Nat) (x3 x4 x5 : Int) (x6 : LI) (r : (List Int)), rec x1 x2 x3 x4 x5 x6 = some r → f83_C x1 x2 x3 x4 x5 x6 r) (x1 x2 : Nat) (x28 x29 x30 : Int) (x70 : Bool) (x69 : Int) (x71 : LI) (r : Int × Int × Bool × (List Int)) (h : f83_p10_4 F rec x1 x2 x28 x29 x30 x70 x69 x71 = some r) : f83_p10_4_P x1 x2 x28 x29 x30 x70 x69 x71 r := by
 unfold f83_p10_4 at h
 by_cases h67 : (decide ((w64 (x69 - x28)) < (w64 (x29 - x69)))) = true
 ·rw [if_pos h67] at h
  obtain ⟨x72, h68, h⟩ := bind_some h
  have ch68 := hrec x1 x2 x28 x69 x30 x71 _ h68
  try dsimp only at h
  obtain rfl := sI h
  exact gRun_ok cxOK (f83_p10_4_e0 x1 x2 x28 x29 x30 x69 x70 x71 x72) ⟨h67, ch68, trivial⟩
 ·rw [if_neg h67] at h
  have h67 := eF h67
  obtain ⟨x73, h69, h⟩ := bind_some h
  have ch69 := hrec x1 x2 (w64 (x69 + 1)) x29 x30 x71 _ h69
  try dsimp only at h
  obtain rfl := sI h
  exact gRun_ok cxOK (f83_p10_4_e1 x1 x2 x28 x29 x30 x69 x70 x71 x73) ⟨h67, ch69, trivial⟩
theorem f83_p10_5_ok (F : Nat) (rec : Nat → Nat → Int → Int → Int → (List Int) → Option (List Int)) (hrec : ∀ (x1 x2 : Nat) (x3 x4 x5 : Int) (x6 : LI) (r : (List Int)), rec x1 x2 x3 x4 x5 x6 = some r → f83_C x1 x2 x3 x4 x5 x6 r) (x1 x2 : Nat) (x28 x29 x30 : Int) (x82 : Bool) (x81 : Int) (x83 : LI) (r : Int × Int × Bool × (List Int)) (h : f83_p10_5 F rec x1 x2 x28 x29 x30 x82 x81 x83 = some r) : f83_p10_5_P x1 x2 x28 x29 x30 x82 x81 x83 r := by
 unfold f83_p10_5 at h
 by_cases h79 : (decide ((w64 (x81 - x28)) < (w64 (x29 - x81)))) = true
 ·rw [if_pos h79] at h
  obtain ⟨x84, h80, h⟩ := bind_some h
  have ch80 := hrec x1 x2 x28 x81 x30 x83 _ h80
  try dsimp only at h
  obtain rfl := sI h
  exact gRun_ok cxOK (f83_p10_5_e0 x1 x2 x28 x29 x30 x81 x82 x83 x84) ⟨h79, ch80, trivial⟩
 ·rw [if_neg h79] at h
  have h79 := eF h79
  obtain ⟨x85, h81, h⟩ := bind_some h
  have ch81 := hrec x1 x2 (w64 (x81 + 1)) x29 x30 x83 _ h81
  try dsimp only at h
  obtain rfl := sI h
  exact gRun_ok cxOK (f83_p10_5_e1 x1 x2 x28 x29 x30 x81 x82 x83 x85) ⟨h79, ch81, trivial⟩
theorem f83_p10_6_ok (F : Nat) (rec : Nat → Nat → Int → Int → Int → (List Int) → Option (List Int)) (hrec : ∀ (x1 x2 : Nat) (x3 x4 x5 : Int) (x6 : LI) (r : (List Int)), rec x1 x2 x3 x4 x5 x6 = some r → f83_C x1 x2 x3 x4 x5 x6 r) (x1 x2 : Nat) (x28 x29 x30 : Int) (x91 : Bool) (x90 : Int) (x92 : LI) (r : Int × Int × Bool × (List Int)) (h : f83_p10_6 F rec x1 x2 x28 x29 x30 x91 x90 x92 = some r) : f83_p10_6_P x1 x2 x28 x29 x30 x91 x90 x92 r := by
 unfold f83_p10_6 at h
 by_cases h84 : (decide ((w64 (x90 - x28)) < (w64 (x29 - x90)))) = true
 ·rw [if_pos h84] at h
  obtain ⟨x93, h85, h⟩ := bind_some h
  have ch85 := hrec x1 x2 x28 x90 x30 x92 _ h85
  try dsimp only at h
  obtain rfl := sI h
  exact gRun_ok cxOK (f83_p10_6_e0 x1 x2 x28 x29 x30 x90 x91 x92 x93) ⟨h84, ch85, trivial⟩
 ·rw [if_neg h84] at h
  have h84 := eF h84
  obtain ⟨x94, h86, h⟩ := bind_some h
  have ch86 := hrec x1 x2 (w64 (x90 + 1)) x29 x30 x92 _ h86
  try dsimp only at h
  obtain rfl := sI h
  exact gRun_ok cxOK (f83_p10_6_e1 x1 x2 x28 x29 x30 x90 x91 x92 x94) ⟨h84, ch86, trivial⟩
theorem f83_p1_7_ok (F : Nat) (rec : Nat → Nat → Int → Int → Int → (List Int) → Option (List Int)) (hrec : ∀ (x1 x2 : Nat) (x3 x4 x5 : Int) (x6 : LI) (r : (List Int)), rec x1 x2 x3 x4 x5 x6 = some r → f83_C x1 x2 x3 x4 x5 x6 r) (x1 x2 : Nat) : ∀ (k : Nat) (x28 x29 x30 : Int) (x31 x32 : Bool) (x27 : LI) (r : (List Int)), f83_p1_7 F rec x1 x2 k x28 x29 x30 x31 x32 x27 = some r → f83_p1_7_P x1 x2 x28 x29 x30 x31 x32 x27 r
 | 0, _, _, _, _, _, _, _, h => by cases h
 | k + 1, x28, x29, x30, x31, x32, x27, r, h => by
  unfold f83_p1_7 at h
  by_cases h25 : (decide ((w64 (x29 - x28)) ≤ 12)) = true
  ·rw [if_pos h25] at h
   obtain ⟨x33, h26, h⟩ := bind_some h
   have ch26 := f93_ok F x1 x2 x28 x29 x27 _ h26
   try dsimp only at h
   obtain rfl := sI h
   exact Lp.out (gRun_ok cxOK (f83_p1_7_e0 x1 x2 x27 x28 x29 x30 x31 x32 x33) ⟨h25, ch26, trivial⟩) (by intro hh; cases hh)
  ·rw [if_neg h25] at h
   have h25 := eF h25
   by_cases h27 : (x30 == 0) = true
   ·rw [if_pos h27] at h
    cases h
   ·rw [if_neg h27] at h
    have h27 := eF h27
    obtain ⟨rh29, h29, h⟩ := bind_some h
    have ch29 := f83_p5_1_ok F x1 x2 x28 x29 x30 x31 x32 x27 _ h29
    try dsimp only at h
    obtain ⟨rh30, h30, h⟩ := bind_some h
    have ch30 := f96_ok F x1 x2 x28 x29 x27 _ h30
    obtain ⟨x34, x35⟩ := rh30
    try dsimp only at h
    obtain ⟨rh32, h32, h⟩ := bind_some h
    have ch32 := f83_p6_1_ok F x1 x2 x28 x29 x30 x31 x32 x34 x35 x27 _ h32
    try dsimp only at h
    by_cases h33 : x31 = true
    ·rw [if_pos h33] at h
     by_cases h34 : x32 = true
     ·rw [if_pos h34] at h
      obtain ⟨rh36, h36, h⟩ := bind_some h
      have ch36 := f83_p7_1_ok F x1 x2 x28 x29 x30 x31 x32 x34 x35 x27 _ h36
      try dsimp only at h
      by_cases h37 : (decide (x28 > 0)) = true
      ·rw [if_pos h37] at h
       obtain ⟨h38, h⟩ := req_some h
       obtain ⟨x36, h39, h⟩ := bind_some h
       try dsimp only at h
       obtain ⟨h40, h⟩ := req_some h
       obtain ⟨x37, h41, h⟩ := bind_some h
       try dsimp only at h
       obtain ⟨x38, h42, h⟩ := bind_some h
       have ch42 := f99_ok F x36 x37 _ h42
       try dsimp only at h
       by_cases h43 : x38 = true
       ·rw [if_pos h43] at h
        obtain ⟨rh44, h44, h⟩ := bind_some h
        have ch44 := f101_ok F x1 x2 x28 x29 x34 x27 _ h44
        obtain ⟨x39, x40, x41⟩ := rh44
        try dsimp only at h
        obtain ⟨rh48, h48, h⟩ := bind_some h
        have ch48 := f83_p10_1_ok F rec hrec x1 x2 x28 x29 x30 x40 x39 x41 _ h48
        obtain ⟨x44, x45, x46, x47⟩ := rh48
        try dsimp only at h
        exact Lp.again (gRun_ok cxOK (f83_p1_7_e1 x1 x2 x27 x28 x29 x30 x31 x32 x34 x35 x36 x37 x38 x39 x40 x41 x44 x45 x46 x47) ⟨h25, h27, ch29, ch30, ch32, h33, h33, h34, h34, h34, ch36, h37, h37, h37, h37, h38, h37, ⟨x36, h39, rfl⟩, h37, h37, h37, h40, h37, ⟨x37, h41, rfl⟩, h37, ch42, h37, h37, (by rw [h43]; rfl), ch44, (by decide), ch48, trivial⟩) (f83_p1_7_ok F rec hrec x1 x2 k x44 x45 x30 x46 x40 x47 r h)
       ·rw [if_neg h43] at h
        have h43 := eF h43
        cases h
      ·rw [if_neg h37] at h
       have h37 := eF h37
       obtain ⟨rh49, h49, h⟩ := bind_some h
       have ch49 := f101_ok F x1 x2 x28 x29 x34 x27 _ h49
       obtain ⟨x48, x49, x50⟩ := rh49
       try dsimp only at h
       obtain ⟨rh53, h53, h⟩ := bind_some h
       have ch53 := f83_p10_2_ok F rec hrec x1 x2 x28 x29 x30 x49 x48 x50 _ h53
       obtain ⟨x53, x54, x55, x56⟩ := rh53
       try dsimp only at h
       exact Lp.again (gRun_ok cxOK (f83_p1_7_e2 x1 x2 x27 x28 x29 x30 x31 x32 x34 x35 x48 x49 x50 x53 x54 x55 x56) ⟨h25, h27, ch29, ch30, ch32, h33, h33, h34, h34, h34, ch36, h37, h37, h37, h37, h37, h37, h37, h37, h37, h37, h37, h37, rfl, ch49, (by decide), ch53, trivial⟩) (f83_p1_7_ok F rec hrec x1 x2 k x53 x54 x30 x55 x49 x56 r h)
     ·rw [if_neg h34] at h
      have h34 := eF h34
      by_cases h54 : (decide (x28 > 0)) = true
      ·rw [if_pos h54] at h
       obtain ⟨h55, h⟩ := req_some h
       obtain ⟨x57, h56, h⟩ := bind_some h
       try dsimp only at h
       obtain ⟨h57, h⟩ := req_some h
       obtain ⟨x58, h58, h⟩ := bind_some h
       try dsimp only at h
       obtain ⟨x59, h59, h⟩ := bind_some h
       have ch59 := f99_ok F x57 x58 _ h59
       try dsimp only at h
       by_cases h60 : x59 = true
       ·rw [if_pos h60] at h
        obtain ⟨rh61, h61, h⟩ := bind_some h
        have ch61 := f101_ok F x1 x2 x28 x29 x34 x27 _ h61
        obtain ⟨x60, x61, x62⟩ := rh61
        try dsimp only at h
        obtain ⟨rh65, h65, h⟩ := bind_some h
        have ch65 := f83_p10_3_ok F rec hrec x1 x2 x28 x29 x30 x61 x60 x62 _ h65
        obtain ⟨x65, x66, x67, x68⟩ := rh65
        try dsimp only at h
        exact Lp.again (gRun_ok cxOK (f83_p1_7_e3 x1 x2 x27 x28 x29 x30 x31 x32 x34 x35 x57 x58 x59 x60 x61 x62 x65 x66 x67 x68) ⟨h25, h27, ch29, ch30, ch32, h33, h33, h34, h34, h34, rfl, h54, h54, h54, h54, h55, h54, ⟨x57, h56, rfl⟩, h54, h54, h54, h57, h54, ⟨x58, h58, rfl⟩, h54, ch59, h54, h54, (by rw [h60]; rfl), ch61, (by decide), ch65, trivial⟩) (f83_p1_7_ok F rec hrec x1 x2 k x65 x66 x30 x67 x61 x68 r h)
       ·rw [if_neg h60] at h
        have h60 := eF h60
        cases h
      ·rw [if_neg h54] at h
       have h54 := eF h54
       obtain ⟨rh66, h66, h⟩ := bind_some h
       have ch66 := f101_ok F x1 x2 x28 x29 x34 x27 _ h66
       obtain ⟨x69, x70, x71⟩ := rh66
       try dsimp only at h
       obtain ⟨rh70, h70, h⟩ := bind_some h
       have ch70 := f83_p10_4_ok F rec hrec x1 x2 x28 x29 x30 x70 x69 x71 _ h70
       obtain ⟨x74, x75, x76, x77⟩ := rh70
       try dsimp only at h
       exact Lp.again (gRun_ok cxOK (f83_p1_7_e4 x1 x2 x27 x28 x29 x30 x31 x32 x34 x35 x69 x70 x71 x74 x75 x76 x77) ⟨h25, h27, ch29, ch30, ch32, h33, h33, h34, h34, h34, rfl, h54, h54, h54, h54, h54, h54, h54, h54, h54, h54, h54, h54, rfl, ch66, (by decide), ch70, trivial⟩) (f83_p1_7_ok F rec hrec x1 x2 k x74 x75 x30 x76 x70 x77 r h)
    ·rw [if_neg h33] at h
     have h33 := eF h33
     by_cases h71 : (decide (x28 > 0)) = true
     ·rw [if_pos h71] at h
      obtain ⟨h72, h⟩ := req_some h
      obtain ⟨x78, h73, h⟩ := bind_some h
      try dsimp only at h
      obtain ⟨h74, h⟩ := req_some h
      obtain ⟨x79, h75, h⟩ := bind_some h
      try dsimp only at h
      obtain ⟨x80, h76, h⟩ := bind_some h
      have ch76 := f99_ok F x78 x79 _ h76
      try dsimp only at h
      by_cases h77 : x80 = true
      ·rw [if_pos h77] at h
       obtain ⟨rh78, h78, h⟩ := bind_some h
       have ch78 := f101_ok F x1 x2 x28 x29 x34 x27 _ h78
       obtain ⟨x81, x82, x83⟩ := rh78
       try dsimp only at h
       obtain ⟨rh82, h82, h⟩ := bind_some h
       have ch82 := f83_p10_5_ok F rec hrec x1 x2 x28 x29 x30 x82 x81 x83 _ h82
       obtain ⟨x86, x87, x88, x89⟩ := rh82
       try dsimp only at h
       exact Lp.again (gRun_ok cxOK (f83_p1_7_e5 x1 x2 x27 x28 x29 x30 x31 x32 x34 x35 x78 x79 x80 x81 x82 x83 x86 x87 x88 x89) ⟨h25, h27, ch29, ch30, ch32, h33, h33, rfl, rfl, rfl, rfl, h71, h71, h71, h71, h72, h71, ⟨x78, h73, rfl⟩, h71, h71, h71, h74, h71, ⟨x79, h75, rfl⟩, h71, ch76, h71, h71, (by rw [h77]; rfl), ch78, (by decide), ch82, trivial⟩) (f83_p1_7_ok F rec hrec x1 x2 k x86 x87 x30 x88 x82 x89 r h)
      ·rw [if_neg h77] at h
       have h77 := eF h77
       cases h
     ·rw [if_neg h71] at h
      have h71 := eF h71
      obtain ⟨rh83, h83, h⟩ := bind_some h
      have ch83 := f101_ok F x1 x2 x28 x29 x34 x27 _ h83
      obtain ⟨x90, x91, x92⟩ := rh83
      try dsimp only at h
      obtain ⟨rh87, h87, h⟩ := bind_some h
      have ch87 := f83_p10_6_ok F rec hrec x1 x2 x28 x29 x30 x91 x90 x92 _ h87
      obtain ⟨x95, x96, x97, x98⟩ := rh87
      try dsimp only at h
      exact Lp.again (gRun_ok cxOK (f83_p1_7_e6 x1 x2 x27 x28 x29 x30 x31 x32 x34 x35 x90 x91 x92 x95 x96 x97 x98) ⟨h25, h27, ch29, ch30, ch32, h33, h33, rfl, rfl, rfl, rfl, h71, h71, h71, h71, h71, h71, h71, h71, h71, h71, h71, h71, rfl, ch83, (by decide), ch87, trivial⟩) (f83_p1_7_ok F rec hrec x1 x2 k x95 x96 x30 x97 x91 x98 r h)
theorem f83_b_ok (F : Nat) (rec : Nat → Nat → Int → Int → Int → (List Int) → Option (List Int)) (hrec : ∀ (x1 x2 : Nat) (x3 x4 x5 : Int) (x6 : LI) (r : (List Int)), rec x1 x2 x3 x4 x5 x6 = some r → f83_C x1 x2 x3 x4 x5 x6 r) (x1 x2 : Nat) (x3 x4 x5 : Int) (x6 : LI) (r : (List Int)) (h : f83_b F rec x1 x2 x3 x4 x5 x6 = some r) : f83_C x1 x2 x3 x4 x5 x6 r := by
 unfold f83_b at h
 obtain ⟨x99, h88, h⟩ := bind_some h
 have ch88 := f83_p1_7_ok F rec hrec x1 x2 F x3 x4 x5 true true x6 _ h88
 try dsimp only at h
 obtain rfl := sI h
 exact callOK cxOK cxW Try.func83 (by kernel_rfl) (f83_e0 x1 x2 x3 x4 x5 x6 x99) ⟨ch88, trivial⟩
theorem f83_ok (F : Nat) : ∀ (k : Nat) (x1 x2 : Nat) (x3 x4 x5 : Int) (x6 : LI) (r : (List Int)), f83 F k x1 x2 x3 x4 x5 x6 = some r → f83_C x1 x2 x3 x4 x5 x6 r
 | 0, _, _, _, _, _, _, _, h => by cases h
 | k + 1, x1, x2, x3, x4, x5, x6, r, h => f83_b_ok F (f83 F k) (f83_ok F k) x1 x2 x3 x4 x5 x6 r h

theorem f49_ok (F : Nat) (x1 : LI) (r : (List Int)) (h : f49 F x1 = some r) : f49_C x1 r := by
 unfold f49 at h
 obtain ⟨x2, h1, h⟩ := bind_some h
 have ch1 := f84_ok F (IntKind.wrap .u64 ((((List.length x1) : Nat) : Int))) _ h1
 try dsimp only at h
 obtain ⟨x3, h2, h⟩ := bind_some h
 have ch2 := f83_ok F F 0 (List.length x1) 0 (((List.length x1) : Nat) : Int) x2 x1 _ h2
 try dsimp only at h
 obtain rfl := sI h
 exact callOK cxOK cxW Try.func49 (by kernel_rfl) (f49_e0 x1 x2 x3) ⟨ch1, ch2, trivial⟩

theorem f70_p7_1_ok (F : Nat) (x4 : LI) (x14 x13 : Int) : ∀ (k : Nat) (x16 : Int) (x15 : LI) (r : (List Int)), f70_p7_1 F x4 x14 x13 k x16 x15 = some r → f70_p7_1_P x4 x14 x13 x16 x15 r
 | 0, _, _, _, h => by cases h
 | k + 1, x16, x15, r, h => by
  unfold f70_p7_1 at h
  by_cases h16 : (decide (x16 < x14)) = true
  ·rw [if_pos h16] at h
   obtain ⟨h17, h⟩ := req_some h
   exact Lp.again (gRun_ok cxOK (f70_p7_1_e0 x4 x13 x14 x15 x16) ⟨h16, h17, rfl, trivial⟩) (f70_p7_1_ok F x4 x14 x13 k (w64 (x16 + ((List.length x4 : Nat) : Int))) (x15 ++ ([x16] : List Int)) r h)
  ·rw [if_neg h16] at h
   have h16 := eF h16
   obtain rfl := sI h
   exact Lp.out (gRun_ok cxOK (f70_p7_1_e1 x4 x13 x14 x15 x16) ⟨h16, trivial⟩) (by intro hh; cases hh)
theorem f70_p3_ok (F : Nat) (x4 : LI) : ∀ (k : Nat) (x13 : Int) (x12 : LI) (r : (List Int)), f70_p3 F x4 k x13 x12 = some r → f70_p3_P x4 x13 x12 r
 | 0, _, _, _, h => by cases h
 | k + 1, x13, x12, r, h => by
  unfold f70_p3 at h
  by_cases h14 : (decide (x13 < ((List.length x4 : Nat) : Int))) = true
  ·rw [if_pos h14] at h
   obtain ⟨x14, h15, h⟩ := bind_some h
   try dsimp only at h
   obtain ⟨x17, h18, h⟩ := bind_some h
   have ch18 := f70_p7_1_ok F x4 x14 x13 F x13 x12 _ h18
   try dsimp only at h
   exact Lp.again (gRun_ok cxOK (f70_p3_e0 x4 x12 x13 x14 x17) ⟨h14, ⟨(at?_spec h15).1, x14, (at?_spec h15).2, rfl⟩, ch18, trivial⟩) (f70_p3_ok F x4 k (w64 (x13 + 1)) x17 r h)
  ·rw [if_neg h14] at h
   have h14 := eF h14
   obtain rfl := sI h
   exact Lp.out (gRun_ok cxOK (f70_p3_e1 x4 x12 x13) ⟨h14, trivial⟩) (by intro hh; cases hh)
theorem f70_ok (F : Nat) (x1 : LI) (r : (List Int) × Int) (h : f70 F x1 = some r) : f70_C x1 r := by
 unfold f70 at h
 obtain ⟨x2, h1, h⟩ := bind_some h
 have ch1 := f26_ok F x1 _ h1
 try dsimp only at h
 by_cases h2 : (x2 != 0) = true
 ·rw [if_pos h2] at h
  obtain rfl := sI h
  exact callOK cxOK cxW Try.func70 (by kernel_rfl) (f70_e0 x1 x2) ⟨ch1, h2, trivial⟩
 ·rw [if_neg h2] at h
  have h2 := eF h2
  obtain ⟨x3, h3, h⟩ := bind_some h
  try dsimp only at h
  obtain ⟨x4, h4, h⟩ := bind_some h
  have ch4 := f68_ok F x1 x3 _ h4
  try dsimp only at h
  obtain ⟨x5, h5, h⟩ := bind_some h
  have ch5 := f91_ok F x4 (-1) _ h5
  try dsimp only at h
  by_cases h6 : x5 = true
  ·rw [if_pos h6] at h
   obtain rfl := sI h
   exact callOK cxOK cxW Try.func70 (by kernel_rfl) (f70_e1 x1 x2 x3 x4 x5) ⟨ch1, h2, ⟨(at?_spec h3).1, x3, (at?_spec h3).2, rfl⟩, ch4, ch5, h6, trivial⟩
  ·rw [if_neg h6] at h
   have h6 := eF h6
   obtain ⟨x18, h19, h⟩ := bind_some h
   have ch19 := f70_p3_ok F x4 F 0 ([] : List Int) _ h19
   try dsimp only at h
   obtain ⟨x19, h20, h⟩ := bind_some h
   have ch20 := f49_ok F x18 _ h20
   try dsimp only at h
   obtain ⟨h21, h⟩ := req_some h
   obtain rfl := sI h
   exact callOK cxOK cxW Try.func70 (by kernel_rfl) (f70_e2 x1 x2 x3 x4 x5 x18 x19) ⟨ch1, h2, ⟨(at?_spec h3).1, x3, (at?_spec h3).2, rfl⟩, ch4, ch5, h6, ch19, ch20, h21, trivial⟩

theorem f28_ok (F : Nat) (x1 : LI) (r : (List Int) × Int) (h : f28 F x1 = some r) : f28_C x1 r := by
 unfold f28 at h
 obtain ⟨rh1, h1, h⟩ := bind_some h
 have ch1 := f70_ok F x1 _ h1
 obtain ⟨x2, x3⟩ := rh1
 try dsimp only at h
 obtain rfl := sI h
 exact callOK cxOK cxW Try.func28 (by kernel_rfl) (f28_e0 x1 x2 x3) ⟨ch1, trivial⟩

theorem f30_ok (F : Nat) (x1 : LI) (r : Int × Int) (h : f30 F x1 = some r) : f30_C x1 r := by
 unfold f30 at h
 obtain ⟨rh1, h1, h⟩ := bind_some h
 have ch1 := f70_ok F x1 _ h1
 obtain ⟨x2, x3⟩ := rh1
 try dsimp only at h
 by_cases h2 : (x3 != 0) = true
 ·rw [if_pos h2] at h
  obtain rfl := sI h
  exact callOK cxOK cxW Try.func30 (by kernel_rfl) (f30_e0 x1 x2 x3) ⟨ch1, h2, trivial⟩
 ·rw [if_neg h2] at h
  have h2 := eF h2
  by_cases h3 : (((List.length x2 : Nat) : Int) == 0) = true
  ·rw [if_pos h3] at h
   obtain rfl := sI h
   exact callOK cxOK cxW Try.func30 (by kernel_rfl) (f30_e1 x1 x2 x3) ⟨ch1, h2, h3, trivial⟩
  ·rw [if_neg h3] at h
   have h3 := eF h3
   obtain ⟨x4, h4, h⟩ := bind_some h
   try dsimp only at h
   obtain rfl := sI h
   exact callOK cxOK cxW Try.func30 (by kernel_rfl) (f30_e2 x1 x2 x3 x4) ⟨ch1, h2, h3, ⟨(at?_spec h4).1, x4, (at?_spec h4).2, rfl⟩, trivial⟩

theorem f24_ok (F : Nat) (x1 : LI) (x2 : Int) (r : (List Int) × Int) (h : f24 F x1 x2 = some r) : f24_C x1 x2 r := by
 unfold f24 at h
 obtain ⟨x3, h1, h⟩ := bind_some h
 have ch1 := f26_ok F x1 _ h1
 try dsimp only at h
 by_cases h2 : (x3 != 0) = true
 ·rw [if_pos h2] at h
  obtain rfl := sI h
  exact callOK cxOK cxW Try.func24 (by kernel_rfl) (f24_e0 x1 x2 x3) ⟨ch1, h2, trivial⟩
 ·rw [if_neg h2] at h
  have h2 := eF h2
  obtain ⟨x4, h3, h⟩ := bind_some h
  have ch3 := f67_ok F x2 0 (w64 (((List.length x1 : Nat) : Int) - 1)) _ h3
  try dsimp only at h
  by_cases h4 : x4 = true
  ·rw [if_pos h4] at h
   obtain ⟨x5, h5, h⟩ := bind_some h
   try dsimp only at h
   obtain ⟨x6, h6, h⟩ := bind_some h
   have ch6 := f68_ok F x1 x5 _ h6
   try dsimp only at h
   obtain rfl := sI h
   exact callOK cxOK cxW Try.func24 (by kernel_rfl) (f24_e1 x1 x2 x3 x4 x5 x6) ⟨ch1, h2, ch3, (by rw [h4]; rfl), ⟨(at?_spec h5).1, x5, (at?_spec h5).2, rfl⟩, ch6, trivial⟩
  ·rw [if_neg h4] at h
   have h4 := eF h4
   obtain rfl := sI h
   exact callOK cxOK cxW Try.func24 (by kernel_rfl) (f24_e2 x1 x2 x3 x4) ⟨ch1, h2, ch3, (by rw [h4]; rfl), trivial⟩

theorem f60_ok (F : Nat) (x1 : LI) (x2 : Int) (r : (List Int) × Int) (h : f60 F x1 x2 = some r) : f60_C x1 x2 r := by
 unfold f60 at h
 obtain ⟨x3, h1, h⟩ := bind_some h
 have ch1 := f26_ok F x1 _ h1
 try dsimp only at h
 by_cases h2 : (x3 != 0) = true
 ·rw [if_pos h2] at h
  obtain rfl := sI h
  exact callOK cxOK cxW Try.func60 (by kernel_rfl) (f60_e0 x1 x2 x3) ⟨ch1, h2, trivial⟩
 ·rw [if_neg h2] at h
  have h2 := eF h2
  obtain ⟨x4, h3, h⟩ := bind_some h
  have ch3 := f67_ok F x2 0 1000 _ h3
  try dsimp only at h
  by_cases h4 : x4 = true
  ·rw [if_pos h4] at h
   obtain ⟨x5, h5, h⟩ := bind_some h
   try dsimp only at h
   obtain ⟨x6, h6, h⟩ := bind_some h
   have ch6 := f68_ok F x1 x5 _ h6
   try dsimp only at h
   obtain rfl := sI h
   exact callOK cxOK cxW Try.func60 (by kernel_rfl) (f60_e1 x1 x2 x3 x4 x5 x6) ⟨ch1, h2, ch3, (by rw [h4]; rfl), ⟨(at?_spec h5).1, x5, (at?_spec h5).2, rfl⟩, ch6, trivial⟩
  ·rw [if_neg h4] at h
   have h4 := eF h4
   obtain rfl := sI h
   exact callOK cxOK cxW Try.func60 (by kernel_rfl) (f60_e2 x1 x2 x3 x4) ⟨ch1, h2, ch3, (by rw [h4]; rfl), trivial⟩

theorem f61_ok (F : Nat) (x1 : LI) (x2 : Int) (r : Bool) (h : f61 F x1 x2 = some r) : f61_C x1 x2 r := by
 unfold f61 at h
 obtain ⟨h1, h⟩ := req_some h
 obtain ⟨x3, h2, h⟩ := bind_some h
 try dsimp only at h
 by_cases h3 : (decide (x3 ≥ 0)) = true
 ·rw [if_pos h3] at h
  obtain rfl := sI h
  exact callOK cxOK cxW Try.func61 (by kernel_rfl) (f61_e0 x1 x2 x3) ⟨h1, ⟨(at?_spec h2).1, x3, (at?_spec h2).2, rfl⟩, h3, h3, h3, h3, trivial⟩
 ·rw [if_neg h3] at h
  have h3 := eF h3
  obtain rfl := sI h
  exact callOK cxOK cxW Try.func61 (by kernel_rfl) (f61_e1 x1 x2 x3) ⟨h1, ⟨(at?_spec h2).1, x3, (at?_spec h2).2, rfl⟩, h3, h3, h3, h3, trivial⟩

theorem f17_ok (F : Nat) (x1 : LI) (x2 : Int) (r : Bool × Int) (h : f17 F x1 x2 = some r) : f17_C x1 x2 r := by
 unfold f17 at h
 obtain ⟨rh1, h1, h⟩ := bind_some h
 have ch1 := f60_ok F x1 x2 _ h1
 obtain ⟨x3, x4⟩ := rh1
 try dsimp only at h
 by_cases h2 : (x4 == 0) = true
 ·rw [if_pos h2] at h
  obtain ⟨x5, h3, h⟩ := bind_some h
  have ch3 := f61_ok F x3 x2 _ h3
  try dsimp only at h
  obtain rfl := sI h
  exact callOK cxOK cxW Try.func17 (by kernel_rfl) (f17_e0 x1 x2 x3 x4 x5) ⟨ch1, h2, h2, h2, ch3, h2, trivial⟩
 ·rw [if_neg h2] at h
  have h2 := eF h2
  obtain rfl := sI h
  exact callOK cxOK cxW Try.func17 (by kernel_rfl) (f17_e1 x1 x2 x3 x4) ⟨ch1, h2, h2, h2, h2, trivial⟩

theorem f21_ok (F : Nat) (x1 : LI) (x2 : Int) (r : Int × Int × Int) (h : f21 F x1 x2 = some r) : f21_C x1 x2 r := by
 unfold f21 at h
 obtain ⟨rh1, h1, h⟩ := bind_some h
 have ch1 := f60_ok F x1 x2 _ h1
 obtain ⟨x3, x4⟩ := rh1
 try dsimp only at h
 by_cases h2 : (x4 != 0) = true
 ·rw [if_pos h2] at h
  obtain rfl := sI h
  exact callOK cxOK cxW Try.func21 (by kernel_rfl) (f21_e0 x1 x2 x3 x4) ⟨ch1, h2, trivial⟩
 ·rw [if_neg h2] at h
  have h2 := eF h2
  obtain ⟨x5, h3, h⟩ := bind_some h
  have ch3 := f61_ok F x3 x2 _ h3
  try dsimp only at h
  by_cases h4 : x5 = true
  ·rw [if_pos h4] at h
   obtain rfl := sI h
   exact callOK cxOK cxW Try.func21 (by kernel_rfl) (f21_e1 x1 x2 x3 x4 x5) ⟨ch1, h2, ch3, h4, trivial⟩
  ·rw [if_neg h4] at h
   have h4 := eF h4
   obtain ⟨x6, h5, h⟩ := bind_some h
   try dsimp only at h
   obtain ⟨h6, h⟩ := req_some h
   obtain ⟨x7, h7, h⟩ := bind_some h
   try dsimp only at h
   obtain rfl := sI h
   exact callOK cxOK cxW Try.func21 (by kernel_rfl) (f21_e2 x1 x2 x3 x4 x5 x6 x7) ⟨ch1, h2, ch3, h4, ⟨(at?_spec h5).1, x6, (at?_spec h5).2, rfl⟩, h6, ⟨(at?_spec h7).1, x7, (at?_spec h7).2, rfl⟩, trivial⟩

theorem f89_1_ok (F : Nat) (x1 : Int) (x2 : LI) (x3 x4 x5 : Int) (r : Int) (h : f89_1 F x1 x2 x3 x4 x5 = some r) : f89_1_C x1 x2 x3 x4 x5 r := by
 unfold f89_1 at h
 obtain ⟨x6, h1, h⟩ := bind_some h
 try dsimp only at h
 obtain rfl := sI h
 exact callOK cxOK cxW Try.func89 (by kernel_rfl) (f89_1_e0 x1 x2 x3 x4 x5 x6) ⟨⟨(at?_spec h1).1, x6, (at?_spec h1).2, rfl⟩, trivial⟩

theorem f65_p1_ok (F : Nat) (x3 : Int) (x1 x2 : LI) : ∀ (k : Nat) (x6 : Int) (x5 : LI) (r : (List Int)), f65_p1 F x3 x1 x2 k x6 x5 = some r → f65_p1_P x3 x1 x2 x6 x5 r
 | 0, _, _, _, h => by cases h
 | k + 1, x6, x5, r, h => by
  unfold f65_p1 at h
  by_cases h5 : (decide (x6 < (((Int.toNat (w64 (x3 + 1))) : Nat) : Int))) = true
  ·rw [if_pos h5] at h
   obtain ⟨h6, h⟩ := req_some h
   obtain ⟨h7, h⟩ := req_some h
   exact Lp.again (gRun_ok cxOK (f65_p1_e0 x1 x2 x3 x5 x6) ⟨h5, h6, h7, trivial⟩) (f65_p1_ok F x3 x1 x2 k (w64 (x6 + 1)) (List.set x5 (0 + (Int.toNat x6)) 1001) r h)
  ·rw [if_neg h5] at h
   have h5 := eF h5
   obtain rfl := sI h
   exact Lp.out (gRun_ok cxOK (f65_p1_e1 x1 x2 x3 x5 x6) ⟨h5, trivial⟩) (by intro hh; cases hh)
theorem f65_p17_17_ok (F : Nat) (x3 : Int) (x1 : LI) (x134 x137 : Int) (x136 x167 : Int) (x2 x135 : LI) (x133 : LL) (x179 x180 : LI) (x182 : Int) : ∀ (k : Nat) (x183 : LI) (r : (List Int)), f65_p17_17 F x3 x1 x134 x137 x136 x167 x2 x135 x133 x179 x180 x182 k x183 = some r → f65_p17_17_P x3 x1 x134 x137 x136 x167 x2 x135 x133 x179 x180 x182 x183 r
 | 0, _, _, h => by cases h
 | k + 1, x183, r, h => by
  unfold f65_p17_17 at h
  by_cases h343 : (decide ((((List.length x183) : Nat) : Int) > 0)) = true
  ·rw [if_pos h343] at h
   obtain ⟨h344, h⟩ := req_some h
   obtain ⟨x184, h345, h⟩ := bind_some h
   try dsimp only at h
   obtain ⟨x185, h346, h⟩ := bind_some h
   have ch346 := f89_1_ok F x184 x135 x136 x167 x182 _ h346
   try dsimp only at h
   obtain ⟨x186, h347, h⟩ := bind_some h
   have ch347 := f89_1_ok F x182 x135 x136 x167 x182 _ h347
   try dsimp only at h
   by_cases h348 : (decide (x185 ≥ x186)) = true
   ·rw [if_pos h348] at h
    obtain ⟨h349, h⟩ := req_some h
    obtain ⟨h350, h⟩ := req_some h
    exact Lp.again (gRun_ok cxOK (f65_p17_17_e0 x1 x2 x3 x133 x134 x135 x136 x137 x167 x179 x180 x182 x183 x184 x185 x186) ⟨h343, h343, h343, h343, h343, h343, h344, h343, ⟨x184, h345, rfl⟩, h343, ch346, h343, h343, h343, ch347, h343, h343, h348, h349, (Nat.le_refl _), h350, trivial⟩) (f65_p17_17_ok F x3 x1 x134 x137 x136 x167 x2 x135 x133 x179 x180 x182 k (List.drop 0 (List.take (Int.toNat (w64 ((((List.length x183) : Nat) : Int) - 1))) x183)) r h)
   ·rw [if_neg h348] at h
    have h348 := eF h348
    obtain rfl := sI h
    exact Lp.out (gRun_ok cxOK (f65_p17_17_e1 x1 x2 x3 x133 x134 x135 x136 x137 x167 x179 x180 x182 x183 x184 x185 x186) ⟨h343, h343, h343, h343, h343, h343, h344, h343, ⟨x184, h345, rfl⟩, h343, ch346, h343, h343, h343, ch347, h343, h343, h348, trivial⟩) (by intro hh; cases hh)
  ·rw [if_neg h343] at h
   have h343 := eF h343
   obtain rfl := sI h
   exact Lp.out (gRun_ok cxOK (f65_p17_17_e2 x1 x2 x3 x133 x134 x135 x136 x137 x167 x179 x180 x182 x183) ⟨h343, h343, h343, h343, h343, h343, h343, h343, h343, h343, h343, h343, h343, rfl, trivial⟩) (by intro hh; cases hh)
theorem f65_p20_17_ok (F : Nat) (x3 : Int) (x1 : LI) (x134 x137 : Int) (x187 : LI) (x182 x136 : Int) (x167 x188 : Int) (x2 x135 : LI) (x133 : LL) (x179 x180 : LI) (r : (List Int)) (h : f65_p20_17 F x3 x1 x134 x137 x187 x182 x136 x167 x188 x2 x135 x133 x179 x180 = some r) : f65_p20_17_P x3 x1 x134 x137 x187 x182 x136 x167 x188 x2 x135 x133 x179 x180 r := by
 unfold f65_p20_17 at h
 by_cases h355 : (decide (x188 < (w64 (x182 - x137)))) = true
 ·rw [if_pos h355] at h
  obtain ⟨h356, h⟩ := req_some h
  obtain ⟨h357, h⟩ := req_some h
  obtain rfl := sI h
  exact gRun_ok cxOK (f65_p20_17_e0 x1 x2 x3 x133 x134 x135 x136 x137 x167 x179 x180 x182 x187 x188) ⟨h355, h356, (Nat.le_refl _), h357, trivial⟩
 ·rw [if_neg h355] at h
  have h355 := eF h355
  obtain rfl := sI h
  exact gRun_ok cxOK (f65_p20_17_e1 x1 x2 x3 x133 x134 x135 x136 x137 x167 x179 x180 x182 x187 x188) ⟨h355, trivial⟩
theorem f65_p13_5_ok (F : Nat) (x3 : Int) (x1 : LI) (x134 x137 : Int) (x136 x167 : Int) (x2 x135 : LI) (x133 : LL) : ∀ (k : Nat) (x179 x180 : LI) (x182 : Int) (x181 : LI) (r : (List Int) × (List Int)), f65_p13_5 F x3 x1 x134 x137 x136 x167 x2 x135 x133 k x179 x180 x182 x181 = some r → f65_p13_5_P x3 x1 x134 x137 x136 x167 x2 x135 x133 x179 x180 x182 x181 r
 | 0, _, _, _, _, _, h => by cases h
 | k + 1, x179, x180, x182, x181, r, h => by
  unfold f65_p13_5 at h
  by_cases h342 : (decide ((w64 (x167 + (w64 (x182 * x136)))) ≤ x3)) = true
  ·rw [if_pos h342] at h
   obtain ⟨x187, h351, h⟩ := bind_some h
   have ch351 := f65_p17_17_ok F x3 x1 x134 x137 x136 x167 x2 x135 x133 x179 x180 x182 F x181 _ h351
   try dsimp only at h
   obtain ⟨h352, h⟩ := req_some h
   obtain ⟨h353, h⟩ := req_some h
   obtain ⟨x188, h354, h⟩ := bind_some h
   try dsimp only at h
   obtain ⟨x189, h358, h⟩ := bind_some h
   have ch358 := f65_p20_17_ok F x3 x1 x134 x137 x187 x182 x136 x167 x188 x2 x135 x133 x179 x180 _ h358
   try dsimp only at h
   obtain ⟨h359, h⟩ := req_some h
   obtain ⟨x190, h360, h⟩ := bind_some h
   try dsimp only at h
   obtain ⟨x191, h361, h⟩ := bind_some h
   have ch361 := f89_1_ok F x190 x135 x136 x167 x182 _ h361
   try dsimp only at h
   obtain ⟨h362, h⟩ := req_some h
   obtain ⟨h363, h⟩ := req_some h
   obtain ⟨h364, h⟩ := req_some h
   exact Lp.again (gRun_ok cxOK (f65_p13_5_e0 x1 x2 x3 x133 x134 x135 x136 x137 x167 x179 x180 x181 x182 x187 x188 x189 x190 x191) ⟨h342, ch351, h352, rfl, h353, ⟨x188, h354, rfl⟩, ch358, h359, ⟨x190, h360, rfl⟩, ch361, h359, ⟨x190, h360, rfl⟩, h362, h363, h362, h364, trivial⟩) (f65_p13_5_ok F x3 x1 x134 x137 x136 x167 x2 x135 x133 k (List.set x179 (0 + (Int.toNat (w64 (x167 + (w64 (x182 * x136)))))) (if x191 < 1001 then x191 else 1001)) (List.set x180 (0 + (Int.toNat (w64 (x167 + (w64 (x182 * x136)))))) (w64 (x182 - x190))) (w64 (x182 + 1)) x189 r h)
  ·rw [if_neg h342] at h
   have h342 := eF h342
   obtain rfl := sI h
   exact Lp.out (gRun_ok cxOK (f65_p13_5_e1 x1 x2 x3 x133 x134 x135 x136 x137 x167 x179 x180 x181 x182) ⟨h342, trivial⟩) (by intro hh; cases hh)
theorem f65_p9_2_ok (F : Nat) (x3 : Int) (x1 : LI) (x134 x137 x136 : Int) (x2 x135 : LI) (x133 : LL) : ∀ (k : Nat) (x167 : Int) (x165 x166 : LI) (r : (List Int) × (List Int)), f65_p9_2 F x3 x1 x134 x137 x136 x2 x135 x133 k x167 x165 x166 = some r → f65_p9_2_P x3 x1 x134 x137 x136 x2 x135 x133 x167 x165 x166 r
 | 0, _, _, _, _, h => by cases h
 | k + 1, x167, x165, x166, r, h => by
  unfold f65_p9_2 at h
  by_cases h311 : (decide (x167 < (if (w64 (x3 + 1)) < x136 then (w64 (x3 + 1)) else x136))) = true
  ·rw [if_pos h311] at h
   obtain ⟨rh365, h365, h⟩ := bind_some h
   have ch365 := f65_p13_5_ok F x3 x1 x134 x137 x136 x167 x2 x135 x133 F x165 x166 0 ([] : List Int) _ h365
   obtain ⟨x192, x193⟩ := rh365
   try dsimp only at h
   exact Lp.again (gRun_ok cxOK (f65_p9_2_e0 x1 x2 x3 x133 x134 x135 x136 x137 x165 x166 x167 x192 x193) ⟨h311, ch365, trivial⟩) (f65_p9_2_ok F x3 x1 x134 x137 x136 x2 x135 x133 k (w64 (x167 + 1)) x192 x193 r h)
  ·rw [if_neg h311] at h
   have h311 := eF h311
   obtain rfl := sI h
   exact Lp.out (gRun_ok cxOK (f65_p9_2_e1 x1 x2 x3 x133 x134 x135 x136 x137 x165 x166 x167) ⟨h311, trivial⟩) (by intro hh; cases hh)
theorem f65_p5_ok (F : Nat) (x3 : Int) (x1 x2 : LI) : ∀ (k : Nat) (x134 : Int) (x135 : LI) (x133 : LL) (r : (List Int) × (List (List Int))), f65_p5 F x3 x1 x2 k x134 x135 x133 = some r → f65_p5_P x3 x1 x2 x134 x135 x133 r
 | 0, _, _, _, _, h => by cases h
 | k + 1, x134, x135, x133, r, h => by
  unfold f65_p5 at h
  by_cases h253 : (decide (x134 ≥ 0)) = true
  ·rw [if_pos h253] at h
   obtain ⟨x136, h254, h⟩ := bind_some h
   try dsimp only at h
   obtain ⟨x137, h255, h⟩ := bind_some h
   try dsimp only at h
   obtain ⟨h256, h⟩ := req_some h
   obtain ⟨rh366, h366, h⟩ := bind_some h
   have ch366 := f65_p9_2_ok F x3 x1 x134 x137 x136 x2 x135 x133 F 0 (List.replicate (Int.toNat (w64 (x3 + 1))) (0 : Int)) (List.replicate (Int.toNat (w64 (x3 + 1))) (0 : Int)) _ h366
   obtain ⟨x194, x195⟩ := rh366
   try dsimp only at h
   obtain ⟨h369, h⟩ := req_some h
   obtain ⟨h370, h⟩ := req_some h
   obtain ⟨h371, h⟩ := req_some h
   obtain ⟨h372, h⟩ := req_some h
   exact Lp.again (gRun_ok cxOK (f65_p5_e0 x1 x2 x3 x133 x134 x135 x136 x137 x194 x195) ⟨h253, ⟨(at?_spec h254).1, x136, (at?_spec h254).2, rfl⟩, ⟨(at?_spec h255).1, x137, (at?_spec h255).2, rfl⟩, h256, h256, ch366, h369, h370, h371, h372, trivial⟩) (f65_p5_ok F x3 x1 x2 k (w64 (x134 - 1)) (List.drop 0 (List.take (0 + (Int.toNat (w64 (x3 + 1)))) x194)) (List.set x133 (0 + (Int.toNat x134)) (List.drop 0 (List.take (0 + (Int.toNat (w64 (x3 + 1)))) x195))) r h)
  ·rw [if_neg h253] at h
   have h253 := eF h253
   obtain rfl := sI h
   exact Lp.out (gRun_ok cxOK (f65_p5_e1 x1 x2 x3 x133 x134 x135) ⟨h253, trivial⟩) (by intro hh; cases hh)
theorem f65_p23_ok (F : Nat) (x1 x2 : LI) (x197 : LL) : ∀ (k : Nat) (x205 x206 : Int) (x204 : LI) (r : (List Int)), f65_p23 F x1 x2 x197 k x205 x206 x204 = some r → f65_p23_P x1 x2 x197 x205 x206 x204 r
 | 0, _, _, _, _, h => by cases h
 | k + 1, x205, x206, x204, r, h => by
  unfold f65_p23 at h
  by_cases h382 : (decide (x206 < (((Int.toNat ((List.length x1 : Nat) : Int)) : Nat) : Int))) = true
  ·rw [if_pos h382] at h
   obtain ⟨h383, h⟩ := req_some h
   obtain ⟨x207, h384, h⟩ := bind_some h
   try dsimp only at h
   obtain ⟨x208, h385, h⟩ := bind_some h
   try dsimp only at h
   obtain ⟨h386, h⟩ := req_some h
   obtain ⟨x209, h387, h⟩ := bind_some h
   try dsimp only at h
   exact Lp.again (gRun_ok cxOK (f65_p23_e0 x1 x2 x197 x204 x205 x206 x207 x208 x209) ⟨h382, h383, ⟨x207, h384, rfl⟩, ⟨(at?_spec h385).1, x208, (at?_spec h385).2, rfl⟩, h386, rfl, ⟨(at?_spec h385).1, x208, (at?_spec h385).2, rfl⟩, ⟨(at?_spec h387).1, x209, (at?_spec h387).2, rfl⟩, trivial⟩) (f65_p23_ok F x1 x2 x197 k (w64 (x205 - (w64 (x208 * x209)))) (w64 (x206 + 1)) (x204 ++ ([x208] : List Int)) r h)
  ·rw [if_neg h382] at h
   have h382 := eF h382
   obtain rfl := sI h
   exact Lp.out (gRun_ok cxOK (f65_p23_e1 x1 x2 x197 x204 x205 x206) ⟨h382, trivial⟩) (by intro hh; cases hh)
theorem f65_ok (F : Nat) (x1 x2 : LI) (x3 : Int) (r : (List Int) × Int) (h : f65 F x1 x2 x3 = some r) : f65_C x1 x2 x3 r := by
 unfold f65 at h
 obtain ⟨h1, h⟩ := req_some h
 obtain ⟨x7, h8, h⟩ := bind_some h
 have ch8 := f65_p1_ok F x3 x1 x2 F 0 (List.replicate (Int.toNat (w64 (x3 + 1))) (0 : Int)) _ h8
 try dsimp only at h
 obtain ⟨h9, h⟩ := req_some h
 obtain ⟨h10, h⟩ := req_some h
 obtain ⟨h11, h⟩ := req_some h
 obtain ⟨h252, h⟩ := req_some h
 obtain ⟨rh373, h373, h⟩ := bind_some h
 have ch373 := f65_p5_ok F x3 x1 x2 F (w64 (((List.length x1 : Nat) : Int) - 1)) (List.drop 0 (List.take (0 + (Int.toNat (w64 (x3 + 1)))) (List.set x7 0 0))) (List.replicate (Int.toNat ((List.length x1 : Nat) : Int)) ([] : (List Int))) _ h373
 obtain ⟨x196, x197⟩ := rh373
 try dsimp only at h
 obtain ⟨x198, h374, h⟩ := bind_some h
 try dsimp only at h
 by_cases h375 : (x198 == 1001) = true
 ·rw [if_pos h375] at h
  obtain rfl := sI h
  exact callOK cxOK cxW Try.func65 (by kernel_rfl) (f65_e0 x1 x2 x3 x7 x196 x197 x198) ⟨h1, ch8, h9, h10, h11, h252, h252, ch373, ⟨(at?_spec h374).1, x198, (at?_spec h374).2, rfl⟩, h375, trivial⟩
 ·rw [if_neg h375] at h
  have h375 := eF h375
  obtain ⟨x210, h388, h⟩ := bind_some h
  have ch388 := f65_p23_ok F x1 x2 x197 F x3 0 ([] : List Int) _ h388
  try dsimp only at h
  obtain rfl := sI h
  exact callOK cxOK cxW Try.func65 (by kernel_rfl) (f65_e1 x1 x2 x3 x7 x196 x197 x198 x210) ⟨h1, ch8, h9, h10, h11, h252, h252, ch373, ⟨(at?_spec h374).1, x198, (at?_spec h374).2, rfl⟩, h375, ch388, (Nat.le_of_eq (Nat.zero_add _)), trivial⟩

theorem f19_p2_ok (F : Nat) (x2 : Int) (x1 : LI) : ∀ (k : Nat) (x11 : Int) (x12 x10 : LI) (r : (List Int) × (List Int)), f19_p2 F x2 x1 k x11 x12 x10 = some r → f19_p2_P x2 x1 x11 x12 x10 r
 | 0, _, _, _, _, h => by cases h
 | k + 1, x11, x12, x10, r, h => by
  unfold f19_p2 at h
  by_cases h11 : (decide (x11 < ((List.length x1 : Nat) : Int))) = true
  ·rw [if_pos h11] at h
   obtain ⟨x13, h12, h⟩ := bind_some h
   try dsimp only at h
   obtain ⟨h13, h⟩ := req_some h
   obtain ⟨h14, h⟩ := req_some h
   exact Lp.again (gRun_ok cxOK (f19_p2_e0 x1 x2 x10 x11 x12 x13) ⟨h11, ⟨(at?_spec h12).1, x13, (at?_spec h12).2, rfl⟩, h13, h14, rfl, trivial⟩) (f19_p2_ok F x2 x1 k (w64 (x11 + 1)) x12 (x10 ++ ([(w64 (Int.tdiv x2 x13))] : List Int)) r h)
  ·rw [if_neg h11] at h
   have h11 := eF h11
   obtain rfl := sI h
   exact Lp.out (gRun_ok cxOK (f19_p2_e1 x1 x2 x10 x11 x12) ⟨h11, trivial⟩) (by intro hh; cases hh)
theorem f19_ok (F : Nat) (x1 : LI) (x2 : Int) (r : (List Int) × Int) (h : f19 F x1 x2 = some r) : f19_C x1 x2 r := by
 unfold f19 at h
 obtain ⟨rh1, h1, h⟩ := bind_some h
 have ch1 := f60_ok F x1 x2 _ h1
 obtain ⟨x3, x4⟩ := rh1
 try dsimp only at h
 by_cases h2 : (x4 != 0) = true
 ·rw [if_pos h2] at h
  obtain rfl := sI h
  exact callOK cxOK cxW Try.func19 (by kernel_rfl) (f19_e0 x1 x2 x3 x4) ⟨ch1, h2, trivial⟩
 ·rw [if_neg h2] at h
  have h2 := eF h2
  obtain ⟨rh15, h15, h⟩ := bind_some h
  have ch15 := f19_p2_ok F x2 x1 F 0 x1 ([] : List Int) _ h15
  obtain ⟨x14, x15⟩ := rh15
  try dsimp only at h
  obtain ⟨rh16, h16, h⟩ := bind_some h
  have ch16 := f65_ok F x14 (List.drop 0 (List.take (0 + (List.length x15)) x15)) x2 _ h16
  obtain ⟨x16, x17⟩ := rh16
  try dsimp only at h
  obtain rfl := sI h
  exact callOK cxOK cxW Try.func19 (by kernel_rfl) (f19_e1 x1 x2 x3 x4 x14 x15 x16 x17) ⟨ch1, h2, ch15, (Nat.le_of_eq (Nat.zero_add _)), ch16, trivial⟩

theorem f34_p5_ok (F : Nat) (x1 x5 : LI) (x6 : Int) (x10 : Bool) (r : (List Int)) (h : f34_p5 F x1 x5 x6 x10 = some r) : f34_p5_P x1 x5 x6 x10 r := by
 unfold f34_p5 at h
 by_cases h15 : x10 = true
 ·rw [if_pos h15] at h
  obtain rfl := sI h
  exact gRun_ok cxOK (f34_p5_e0 x1 x5 x6 x10) ⟨(by rw [h15]; rfl), trivial⟩
 ·rw [if_neg h15] at h
  have h15 := eF h15
  obtain ⟨h16, h⟩ := req_some h
  obtain rfl := sI h
  exact gRun_ok cxOK (f34_p5_e1 x1 x5 x6 x10) ⟨(by rw [h15]; rfl), h16, rfl, trivial⟩
theorem f34_p2_ok (F : Nat) (x1 : LI) : ∀ (k : Nat) (x6 : Int) (x5 : LI) (r : (List Int)), f34_p2 F x1 k x6 x5 = some r → f34_p2_P x1 x6 x5 r
 | 0, _, _, _, h => by cases h
 | k + 1, x6, x5, r, h => by
  unfold f34_p2 at h
  by_cases h7 : (decide (x6 < ((List.length x1 : Nat) : Int))) = true
  ·rw [if_pos h7] at h
   obtain ⟨x7, h8, h⟩ := bind_some h
   try dsimp only at h
   by_cases h9 : (x6 == 0) = true
   ·rw [if_pos h9] at h
    obtain ⟨h10, h⟩ := req_some h
    exact Lp.again (gRun_ok cxOK (f34_p2_e0 x1 x5 x6 x7) ⟨h7, ⟨(at?_spec h8).1, x7, (at?_spec h8).2, rfl⟩, h9, h9, h9, h9, h9, h9, h9, h9, h9, h9, h9, rfl, h10, rfl, trivial⟩) (f34_p2_ok F x1 k (w64 (x6 + 1)) (x5 ++ ([x6] : List Int)) r h)
   ·rw [if_neg h9] at h
    have h9 := eF h9
    obtain ⟨h11, h⟩ := req_some h
    obtain ⟨x8, h12, h⟩ := bind_some h
    try dsimp only at h
    obtain ⟨x9, h13, h⟩ := bind_some h
    have ch13 := f68_ok F (List.drop 0 (List.take (Int.toNat x6) x1)) x8 _ h13
    try dsimp only at h
    obtain ⟨x10, h14, h⟩ := bind_some h
    have ch14 := f61_ok F x9 x7 _ h14
    try dsimp only at h
    obtain ⟨x11, h17, h⟩ := bind_some h
    have ch17 := f34_p5_ok F x1 x5 x6 x10 _ h17
    try dsimp only at h
    exact Lp.again (gRun_ok cxOK (f34_p2_e1 x1 x5 x6 x7 x8 x9 x10 x11) ⟨h7, ⟨(at?_spec h8).1, x7, (at?_spec h8).2, rfl⟩, h9, h9, h9, h11, h9, h9, ⟨(at?_spec h12).1, x8, (at?_spec h12).2, rfl⟩, h9, h9, ch13, h9, h9, ch14, h9, h9, ch17, trivial⟩) (f34_p2_ok F x1 k (w64 (x6 + 1)) x11 r h)
  ·rw [if_neg h7] at h
   have h7 := eF h7
   obtain rfl := sI h
   exact Lp.out (gRun_ok cxOK (f34_p2_e2 x1 x5 x6) ⟨h7, trivial⟩) (by intro hh; cases hh)
theorem f34_ok (F : Nat) (x1 : LI) (r : (List Int) × Int) (h : f34 F x1 = some r) : f34_C x1 r := by
 unfold f34 at h
 obtain ⟨x2, h1, h⟩ := bind_some h
 have ch1 := f26_ok F x1 _ h1
 try dsimp only at h
 by_cases h2 : (x2 != 0) = true
 ·rw [if_pos h2] at h
  obtain rfl := sI h
  exact callOK cxOK cxW Try.func34 (by kernel_rfl) (f34_e0 x1 x2) ⟨ch1, h2, trivial⟩
 ·rw [if_neg h2] at h
  have h2 := eF h2
  obtain ⟨x12, h18, h⟩ := bind_some h
  have ch18 := f34_p2_ok F x1 F 0 ([] : List Int) _ h18
  try dsimp only at h
  obtain rfl := sI h
  exact callOK cxOK cxW Try.func34 (by kernel_rfl) (f34_e1 x1 x2 x12) ⟨ch1, h2, ch18, (Nat.le_of_eq (Nat.zero_add _)), trivial⟩

theorem f32_ok (F : Nat) (x1 : LI) (r : Bool × Int) (h : f32 F x1 = some r) : f32_C x1 r := by
 unfold f32 at h
 obtain ⟨rh1, h1, h⟩ := bind_some h
 have ch1 := f70_ok F x1 _ h1
 obtain ⟨x2, x3⟩ := rh1
 try dsimp only at h
 by_cases h2 : (x3 != 0) = true
 ·rw [if_pos h2] at h
  obtain rfl := sI h
  exact callOK cxOK cxW Try.func32 (by kernel_rfl) (f32_e0 x1 x2 x3) ⟨ch1, h2, trivial⟩
 ·rw [if_neg h2] at h
  have h2 := eF h2
  by_cases h3 : (((List.length x2 : Nat) : Int) == 0) = true
  ·rw [if_pos h3] at h
   obtain rfl := sI h
   exact callOK cxOK cxW Try.func32 (by kernel_rfl) (f32_e1 x1 x2 x3) ⟨ch1, h2, h3, h3, h3, h3, h3, h3, h3, h3, h3, h3, h3, h3, trivial⟩
  ·rw [if_neg h3] at h
   have h3 := eF h3
   obtain ⟨x4, h4, h⟩ := bind_some h
   try dsimp only at h
   obtain rfl := sI h
   exact callOK cxOK cxW Try.func32 (by kernel_rfl) (f32_e2 x1 x2 x3 x4) ⟨ch1, h2, h3, h3, h3, h3, h3, h3, h3, h3, ⟨(at?_spec h4).1, x4, (at?_spec h4).2, rfl⟩, h3, h3, h3, h3, trivial⟩

theorem f92_p0_ok (F : Nat) (x1 : LI) (r : Unit) (h : f92_p0 F x1 = some r) : f92_p0_P x1 r := by
 unfold f92_p0 at h
 by_cases h1 : (decide (((List.length x1 : Nat) : Int) < 1)) = true
 ·rw [if_pos h1] at h
  cases h
 ·rw [if_neg h1] at h
  have h1 := eF h1
  obtain rfl := sI h
  exact gRun_ok cxOK (f92_p0_e0 x1) ⟨h1, trivial⟩
theorem f92_p2_ok (F : Nat) (x1 : LI) : ∀ (k : Nat) (x3 x4 : Int) (r : Int), f92_p2 F x1 k x3 x4 = some r → f92_p2_P x1 x3 x4 r
 | 0, _, _, _, h => by cases h
 | k + 1, x3, x4, r, h => by
  unfold f92_p2 at h
  by_cases h4 : (decide (x4 < ((List.length x1 : Nat) : Int))) = true
  ·rw [if_pos h4] at h
   obtain ⟨x5, h5, h⟩ := bind_some h
   try dsimp only at h
   exact Lp.again (gRun_ok cxOK (f92_p2_e0 x1 x3 x4 x5) ⟨h4, ⟨(at?_spec h5).1, x5, (at?_spec h5).2, rfl⟩, trivial⟩) (f92_p2_ok F x1 k (if x5 < x3 then x5 else x3) (w64 (x4 + 1)) r h)
  ·rw [if_neg h4] at h
   have h4 := eF h4
   obtain rfl := sI h
   exact Lp.out (gRun_ok cxOK (f92_p2_e1 x1 x3 x4) ⟨h4, trivial⟩) (by intro hh; cases hh)
theorem f92_ok (F : Nat) (x1 : LI) (r : Int) (h : f92 F x1 = some r) : f92_C x1 r := by
 unfold f92 at h
 obtain ⟨rh2, h2, h⟩ := bind_some h
 have ch2 := f92_p0_ok F x1 _ h2
 try dsimp only at h
 obtain ⟨x2, h3, h⟩ := bind_some h
 try dsimp only at h
 obtain ⟨x6, h6, h⟩ := bind_some h
 have ch6 := f92_p2_ok F x1 F x2 1 _ h6
 try dsimp only at h
 obtain rfl := sI h
 exact callOK cxOK cxW Try.func92 (by kernel_rfl) (f92_e0 x1 x2 x6) ⟨ch2, ⟨(at?_spec h3).1, x2, (at?_spec h3).2, rfl⟩, ch6, trivial⟩

theorem f85_p0_ok (F : Nat) (x1 : LI) (r : Unit) (h : f85_p0 F x1 = some r) : f85_p0_P x1 r := by
 unfold f85_p0 at h
 by_cases h1 : (decide (((List.length x1 : Nat) : Int) < 1)) = true
 ·rw [if_pos h1] at h
  cases h
 ·rw [if_neg h1] at h
  have h1 := eF h1
  obtain rfl := sI h
  exact gRun_ok cxOK (f85_p0_e0 x1) ⟨h1, trivial⟩
theorem f85_p2_ok (F : Nat) (x1 : LI) : ∀ (k : Nat) (x3 x4 : Int) (r : Int), f85_p2 F x1 k x3 x4 = some r → f85_p2_P x1 x3 x4 r
 | 0, _, _, _, h => by cases h
 | k + 1, x3, x4, r, h => by
  unfold f85_p2 at h
  by_cases h4 : (decide (x4 < ((List.length x1 : Nat) : Int))) = true
  ·rw [if_pos h4] at h
   obtain ⟨x5, h5, h⟩ := bind_some h
   try dsimp only at h
   exact Lp.again (gRun_ok cxOK (f85_p2_e0 x1 x3 x4 x5) ⟨h4, ⟨(at?_spec h5).1, x5, (at?_spec h5).2, rfl⟩, trivial⟩) (f85_p2_ok F x1 k (if x5 > x3 then x5 else x3) (w64 (x4 + 1)) r h)
  ·rw [if_neg h4] at h
   have h4 := eF h4
   obtain rfl := sI h
   exact Lp.out (gRun_ok cxOK (f85_p2_e1 x1 x3 x4) ⟨h4, trivial⟩) (by intro hh; cases hh)
theorem f85_ok (F : Nat) (x1 : LI) (r : Int) (h : f85 F x1 = some r) : f85_C x1 r := by
 unfold f85 at h
 obtain ⟨rh2, h2, h⟩ := bind_some h
 have ch2 := f85_p0_ok F x1 _ h2
 try dsimp only at h
 obtain ⟨x2, h3, h⟩ := bind_some h
 try dsimp only at h
 obtain ⟨x6, h6, h⟩ := bind_some h
 have ch6 := f85_p2_ok F x1 F x2 1 _ h6
 try dsimp only at h
 obtain rfl := sI h
 exact callOK cxOK cxW Try.func85 (by kernel_rfl) (f85_e0 x1 x2 x6) ⟨ch2, ⟨(at?_spec h3).1, x2, (at?_spec h3).2, rfl⟩, ch6, trivial⟩

theorem f77_ok (F : Nat) (x1 x2 : LI) (r : (List Int) × (List Int) × Int) (h : f77 F x1 x2 = some r) : f77_C x1 x2 r := by
 unfold f77 at h
 obtain ⟨x3, h1, h⟩ := bind_some h
 have ch1 := f26_ok F x1 _ h1
 try dsimp only at h
 by_cases h2 : (x3 != 0) = true
 ·rw [if_pos h2] at h
  obtain rfl := sI h
  exact callOK cxOK cxW Try.func77 (by kernel_rfl) (f77_e0 x1 x2 x3) ⟨ch1, h2, trivial⟩
 ·rw [if_neg h2] at h
  have h2 := eF h2
  by_cases h3 : (((List.length x2 : Nat) : Int) != ((List.length x1 : Nat) : Int)) = true
  ·rw [if_pos h3] at h
   obtain rfl := sI h
   exact callOK cxOK cxW Try.func77 (by kernel_rfl) (f77_e1 x1 x2 x3) ⟨ch1, h2, h3, trivial⟩
  ·rw [if_neg h3] at h
   have h3 := eF h3
   obtain ⟨x4, h4, h⟩ := bind_some h
   have ch4 := f92_ok F x2 _ h4
   try dsimp only at h
   by_cases h5 : (decide (x4 < 0)) = true
   ·rw [if_pos h5] at h
    obtain rfl := sI h
    exact callOK cxOK cxW Try.func77 (by kernel_rfl) (f77_e2 x1 x2 x3 x4) ⟨ch1, h2, h3, ch4, h5, h5, h5, h5, rfl, trivial⟩
   ·rw [if_neg h5] at h
    have h5 := eF h5
    obtain ⟨x5, h6, h⟩ := bind_some h
    have ch6 := f85_ok F x2 _ h6
    try dsimp only at h
    by_cases h7 : (decide (x5 > 40)) = true
    ·rw [if_pos h7] at h
     obtain rfl := sI h
     exact callOK cxOK cxW Try.func77 (by kernel_rfl) (f77_e3 x1 x2 x3 x4 x5) ⟨ch1, h2, h3, ch4, h5, h5, ch6, h5, h5, h7, trivial⟩
    ·rw [if_neg h7] at h
     have h7 := eF h7
     obtain rfl := sI h
     exact callOK cxOK cxW Try.func77 (by kernel_rfl) (f77_e4 x1 x2 x3 x4 x5) ⟨ch1, h2, h3, ch4, h5, h5, ch6, h5, h5, h7, trivial⟩

theorem f73_p0_ok (F : Nat) (x6 : Int) (x7 : Bool) (x4 x5 : LI) (r : Int) (h : f73_p0 F x6 x7 x4 x5 = some r) : f73_p0_P x6 x7 x4 x5 r := by
 unfold f73_p0 at h
 by_cases h4 : x7 = true
 ·rw [if_pos h4] at h
  obtain rfl := sI h
  exact gRun_ok cxOK (f73_p0_e0 x4 x5 x6 x7) ⟨(by rw [h4]; rfl), trivial⟩
 ·rw [if_neg h4] at h
  have h4 := eF h4
  obtain rfl := sI h
  exact gRun_ok cxOK (f73_p0_e1 x4 x5 x6 x7) ⟨(by rw [h4]; rfl), trivial⟩
theorem f73_ok (F : Nat) (x1 x2 : LI) (x3 : Int) (r : (List Int) × (List Int) × Int) (h : f73 F x1 x2 x3 = some r) : f73_C x1 x2 x3 r := by
 unfold f73 at h
 obtain ⟨rh1, h1, h⟩ := bind_some h
 have ch1 := f77_ok F x1 x2 _ h1
 obtain ⟨x4, x5, x6⟩ := rh1
 try dsimp only at h
 by_cases h2 : (x6 == 0) = true
 ·rw [if_pos h2] at h
  obtain ⟨x7, h3, h⟩ := bind_some h
  have ch3 := f67_ok F x3 0 1000 _ h3
  try dsimp only at h
  obtain ⟨x8, h5, h⟩ := bind_some h
  have ch5 := f73_p0_ok F x6 x7 x4 x5 _ h5
  try dsimp only at h
  obtain rfl := sI h
  exact callOK cxOK cxW Try.func73 (by kernel_rfl) (f73_e0 x1 x2 x3 x4 x5 x6 x7 x8) ⟨ch1, h2, h2, ch3, h2, h2, ch5, trivial⟩
 ·rw [if_neg h2] at h
  have h2 := eF h2
  obtain rfl := sI h
  exact callOK cxOK cxW Try.func73 (by kernel_rfl) (f73_e1 x1 x2 x3 x4 x5 x6) ⟨ch1, h2, h2, h2, h2, rfl, trivial⟩

theorem f51_ok (F : Nat) (x1 x2 : LI) (x3 : Int) (r : (List Int) × Int) (h : f51 F x1 x2 x3 = some r) : f51_C x1 x2 x3 r := by
 unfold f51 at h
 obtain ⟨rh1, h1, h⟩ := bind_some h
 have ch1 := f73_ok F x1 x2 x3 _ h1
 obtain ⟨x4, x5, x6⟩ := rh1
 try dsimp only at h
 by_cases h2 : (x6 != 0) = true
 ·rw [if_pos h2] at h
  obtain rfl := sI h
  exact callOK cxOK cxW Try.func51 (by kernel_rfl) (f51_e0 x1 x2 x3 x4 x5 x6) ⟨ch1, h2, trivial⟩
 ·rw [if_neg h2] at h
  have h2 := eF h2
  obtain ⟨rh3, h3, h⟩ := bind_some h
  have ch3 := f65_ok F x4 x5 x3 _ h3
  obtain ⟨x7, x8⟩ := rh3
  try dsimp only at h
  obtain rfl := sI h
  exact callOK cxOK cxW Try.func51 (by kernel_rfl) (f51_e1 x1 x2 x3 x4 x5 x6 x7 x8) ⟨ch1, h2, ch3, trivial⟩

theorem f47_ok (F : Nat) (x1 : Option (List Int)) (r : (List Int)) (h : f47 F x1 = some r) : f47_C x1 r := by
 unfold f47 at h
 by_cases h1 : (Option.isNone x1) = true
 ·rw [if_pos h1] at h
  obtain rfl := sI h
  exact callOK cxOK cxW Try.func47 (by kernel_rfl) (f47_e0 x1) ⟨h1, trivial⟩
 ·rw [if_neg h1] at h
  have h1 := eF h1
  obtain ⟨h2, h⟩ := req_some h
  obtain rfl := sI h
  exact callOK cxOK cxW Try.func47 (by kernel_rfl) (f47_e1 x1) ⟨h1, h2, (.inl rfl), trivial⟩

theorem f47m_ok (F : Nat) (x1 : LI) (r : (List Int)) (h : f47m F x1 = some r) : f47m_C x1 r :=
 CallOK.ofOpt fun o ho => f47_ok F o r (nilm_some h o ho)

theorem f74_p8_5_ok (F : Nat) (x33 : LI) (x34 x35 : Int) (x36 : LI) (x53 x56 : Int) (x1 x52 : LI) (x54 x55 : Int) (x2 : LI) (r : (List Int)) (h : f74_p8_5 F x33 x34 x35 x36 x53 x56 x1 x52 x54 x55 x2 = some r) : f74_p8_5_P x33 x34 x35 x36 x53 x56 x1 x52 x54 x55 x2 r := by
 unfold f74_p8_5 at h
 by_cases h88 : (decide ((w64 (x53 - (w64 ((w64 (x56 + 1)) * x35)))) ≥ 0)) = true
 ·rw [if_pos h88] at h
  obtain ⟨h89, h⟩ := req_some h
  obtain ⟨x57, h90, h⟩ := bind_some h
  try dsimp only at h
  obtain ⟨x58, h91, h⟩ := bind_some h
  try dsimp only at h
  obtain ⟨h92, h⟩ := req_some h
  obtain rfl := sI h
  exact gRun_ok cxOK (f74_p8_5_e0 x1 x2 x33 x34 x35 x36 x52 x53 x54 x55 x56 x57 x58) ⟨h88, h89, ⟨x57, h90, rfl⟩, ⟨(at?_spec h91).1, x58, (at?_spec h91).2, rfl⟩, h89, h92, trivial⟩
 ·rw [if_neg h88] at h
  have h88 := eF h88
  obtain rfl := sI h
  exact gRun_ok cxOK (f74_p8_5_e1 x1 x2 x33 x34 x35 x36 x52 x53 x54 x55 x56) ⟨h88, trivial⟩
theorem f74_p5_1_ok (F : Nat) (x33 : LI) (x34 x35 : Int) (x36 x1 x2 : LI) : ∀ (k : Nat) (x53 : Int) (x52 : LI) (r : (List Int)), f74_p5_1 F x33 x34 x35 x36 x1 x2 k x53 x52 = some r → f74_p5_1_P x33 x34 x35 x36 x1 x2 x53 x52 r
 | 0, _, _, _, h => by cases h
 | k + 1, x53, x52, r, h => by
  unfold f74_p5_1 at h
  by_cases h81 : (decide (x53 ≤ 1000)) = true
  ·rw [if_pos h81] at h
   obtain ⟨h82, h⟩ := req_some h
   obtain ⟨x54, h83, h⟩ := bind_some h
   try dsimp only at h
   obtain ⟨h84, h⟩ := req_some h
   obtain ⟨x55, h85, h⟩ := bind_some h
   try dsimp only at h
   obtain ⟨h86, h⟩ := req_some h
   obtain ⟨x56, h87, h⟩ := bind_some h
   try dsimp only at h
   obtain ⟨x59, h93, h⟩ := bind_some h
   have ch93 := f74_p8_5_ok F x33 x34 x35 x36 x53 x56 x1 x52 x54 x55 x2 _ h93
   try dsimp only at h
   exact Lp.again (gRun_ok cxOK (f74_p5_1_e0 x1 x2 x33 x34 x35 x36 x52 x53 x54 x55 x56 x59) ⟨h81, h82, ⟨x54, h83, rfl⟩, h84, ⟨x55, h85, rfl⟩, h82, h86, ⟨(at?_spec h87).1, x56, (at?_spec h87).2, rfl⟩, ch93, trivial⟩) (f74_p5_1_ok F x33 x34 x35 x36 x1 x2 k (w64 (x53 + 1)) x59 r h)
  ·rw [if_neg h81] at h
   have h81 := eF h81
   obtain rfl := sI h
   exact Lp.out (gRun_ok cxOK (f74_p5_1_e1 x1 x2 x33 x34 x35 x36 x52 x53) ⟨h81, trivial⟩) (by intro hh; cases hh)
theorem f74_p1_ok (F : Nat) (x1 x2 : LI) : ∀ (k : Nat) (x33 : LI) (x34 : Int) (r : (List Int)), f74_p1 F x1 x2 k x33 x34 = some r → f74_p1_P x1 x2 x33 x34 r
 | 0, _, _, _, h => by cases h
 | k + 1, x33, x34, r, h => by
  unfold f74_p1 at h
  by_cases h52 : (decide (x34 < ((List.length x1 : Nat) : Int))) = true
  ·rw [if_pos h52] at h
   obtain ⟨x35, h53, h⟩ := bind_some h
   try dsimp only at h
   obtain ⟨x36, h54, h⟩ := bind_some h
   have ch54 := f47m_ok F x33 _ h54
   try dsimp only at h
   obtain ⟨x60, h94, h⟩ := bind_some h
   have ch94 := f74_p5_1_ok F x33 x34 x35 x36 x1 x2 F x35 x36 _ h94
   try dsimp only at h
   obtain ⟨h95, h⟩ := req_some h
   exact Lp.again (gRun_ok cxOK (f74_p1_e0 x1 x2 x33 x34 x35 x36 x60) ⟨h52, ⟨(at?_spec h53).1, x35, (at?_spec h53).2, rfl⟩, ch54, ch94, h95, trivial⟩) (f74_p1_ok F x1 x2 k (List.drop 0 (List.take (0 + (List.length x36)) x60)) (w64 (x34 + 1)) r h)
  ·rw [if_neg h52] at h
   have h52 := eF h52
   obtain rfl := sI h
   exact Lp.out (gRun_ok cxOK (f74_p1_e1 x1 x2 x33 x34) ⟨h52, trivial⟩) (by intro hh; cases hh)
theorem f74_ok (F : Nat) (x1 x2 : LI) (r : (List Int)) (h : f74 F x1 x2 = some r) : f74_C x1 x2 r := by
 unfold f74 at h
 obtain ⟨h1, h⟩ := req_some h
 obtain ⟨h2, h⟩ := req_some h
 obtain ⟨h51, h⟩ := req_some h
 obtain ⟨x61, h96, h⟩ := bind_some h
 have ch96 := f74_p1_ok F x1 x2 F (List.drop 0 (List.take 1001 (List.set (List.replicate 1001 (0 : Int)) 0 1))) 0 _ h96
 try dsimp only at h
 obtain rfl := sI h
 exact callOK cxOK cxW Try.func74 (by kernel_rfl) (f74_e0 x1 x2 x61) ⟨(by decide), h1, h2, h51, h51, h51, ch96, trivial⟩

theorem f36_ok (F : Nat) (x1 x2 : LI) (x3 : Int) (r : Int × Int) (h : f36 F x1 x2 x3 = some r) : f36_C x1 x2 x3 r := by
 unfold f36 at h
 obtain ⟨rh1, h1, h⟩ := bind_some h
 have ch1 := f73_ok F x1 x2 x3 _ h1
 obtain ⟨x4, x5, x6⟩ := rh1
 try dsimp only at h
 by_cases h2 : (x6 != 0) = true
 ·rw [if_pos h2] at h
  obtain rfl := sI h
  exact callOK cxOK cxW Try.func36 (by kernel_rfl) (f36_e0 x1 x2 x3 x4 x5 x6) ⟨ch1, h2, trivial⟩
 ·rw [if_neg h2] at h
  have h2 := eF h2
  obtain ⟨x7, h3, h⟩ := bind_some h
  have ch3 := f74_ok F x4 x5 _ h3
  try dsimp only at h
  obtain ⟨x8, h4, h⟩ := bind_some h
  try dsimp only at h
  obtain rfl := sI h
  exact callOK cxOK cxW Try.func36 (by kernel_rfl) (f36_e1 x1 x2 x3 x4 x5 x6 x7 x8) ⟨ch1, h2, ch3, ⟨(at?_spec h4).1, x8, (at?_spec h4).2, rfl⟩, trivial⟩

theorem f47_1_ok (F : Nat) (x1 : Option (List Int)) (r : (List Int)) (h : f47_1 F x1 = some r) : f47_1_C x1 r := by
 unfold f47_1 at h
 by_cases h1 : (Option.isNone x1) = true
 ·rw [if_pos h1] at h
  obtain rfl := sI h
  exact callOK cxOK cxW Try.func47 (by kernel_rfl) (f47_1_e0 x1) ⟨h1, trivial⟩
 ·rw [if_neg h1] at h
  have h1 := eF h1
  obtain ⟨h2, h⟩ := req_some h
  obtain rfl := sI h
  exact callOK cxOK cxW Try.func47 (by kernel_rfl) (f47_1_e1 x1) ⟨h1, h2, (.inl rfl), trivial⟩

theorem f47_1m_ok (F : Nat) (x1 : LI) (r : (List Int)) (h : f47_1m F x1 = some r) : f47_1m_C x1 r :=
 CallOK.ofOpt fun o ho => f47_1_ok F o r (nilm_some h o ho)

theorem f42_p10_ok (F : Nat) (x3 x4 : Int) (x12 x14 : Int) (x10 : LI) (x15 x11 : Int) (x5 x6 : LI) (r : Int × Int) (h : f42_p10 F x3 x4 x12 x14 x10 x15 x11 x5 x6 = some r) : f42_p10_P x3 x4 x12 x14 x10 x15 x11 x5 x6 r := by
 unfold f42_p10 at h
 by_cases h16 : (x14 != 0) = true
 ·rw [if_pos h16] at h
  obtain rfl := sI h
  exact gRun_ok cxOK (f42_p10_e0 x3 x4 x5 x6 x10 x11 x12 x14 x15) ⟨h16, trivial⟩
 ·rw [if_neg h16] at h
  have h16 := eF h16
  obtain rfl := sI h
  exact gRun_ok cxOK (f42_p10_e1 x3 x4 x5 x6 x10 x11 x12 x14 x15) ⟨h16, trivial⟩
theorem f42_p4_ok (F : Nat) (x3 x4 : Int) (x10 : LI) (x11 : Int) (x5 x6 : LI) : ∀ (k : Nat) (x12 x13 : Int) (x14 x15 : Int) (r : Int × Int × Int), f42_p4 F x3 x4 x10 x11 x5 x6 k x12 x13 x14 x15 = some r → f42_p4_P x3 x4 x10 x11 x5 x6 x12 x13 x14 x15 r
 | 0, _, _, _, _, _, h => by cases h
 | k + 1, x12, x13, x14, x15, r, h => by
  unfold f42_p4 at h
  by_cases h11 : (decide (x15 < (w64 (x11 + 1)))) = true
  ·rw [if_pos h11] at h
   obtain ⟨x16, h12, h⟩ := bind_some h
   try dsimp only at h
   by_cases h13 : (decide ((w64 (x3 - (w64 (x15 * x16)))) < 0)) = true
   ·rw [if_pos h13] at h
    obtain rfl := sI h
    exact Lp.out (gRun_ok cxOK (f42_p4_e0 x3 x4 x5 x6 x10 x11 x12 x13 x14 x15 x16) ⟨h11, ⟨(at?_spec h12).1, x16, (at?_spec h12).2, rfl⟩, h13, trivial⟩) (by intro hh; cases hh)
   ·rw [if_neg h13] at h
    have h13 := eF h13
    obtain ⟨x17, h14, h⟩ := bind_some h
    try dsimp only at h
    by_cases h15 : (x17 == 0) = true
    ·rw [if_pos h15] at h
     exact Lp.again (gRun_ok cxOK (f42_p4_e1 x3 x4 x5 x6 x10 x11 x12 x13 x14 x15 x16 x17) ⟨h11, ⟨(at?_spec h12).1, x16, (at?_spec h12).2, rfl⟩, h13, ⟨(at?_spec h14).1, x17, (at?_spec h14).2, rfl⟩, h15, trivial⟩) (f42_p4_ok F x3 x4 x10 x11 x5 x6 k x12 x13 x14 (w64 (x15 + 1)) r h)
    ·rw [if_neg h15] at h
     have h15 := eF h15
     obtain ⟨rh17, h17, h⟩ := bind_some h
     have ch17 := f42_p10_ok F x3 x4 x12 x14 x10 x15 x11 x5 x6 _ h17
     obtain ⟨x18, x19⟩ := rh17
     try dsimp only at h
     exact Lp.again (gRun_ok cxOK (f42_p4_e2 x3 x4 x5 x6 x10 x11 x12 x13 x14 x15 x16 x17 x18 x19) ⟨h11, ⟨(at?_spec h12).1, x16, (at?_spec h12).2, rfl⟩, h13, ⟨(at?_spec h14).1, x17, (at?_spec h14).2, rfl⟩, h15, ch17, trivial⟩) (f42_p4_ok F x3 x4 x10 x11 x5 x6 k x18 x15 x19 (w64 (x15 + 1)) r h)
  ·rw [if_neg h11] at h
   have h11 := eF h11
   obtain rfl := sI h
   exact Lp.out (gRun_ok cxOK (f42_p4_e3 x3 x4 x5 x6 x10 x11 x12 x13 x14 x15) ⟨h11, trivial⟩) (by intro hh; cases hh)
theorem f42_ok (F : Nat) (x1 x2 : LI) (x3 x4 : Int) (r : Int × Int × Int) (h : f42 F x1 x2 x3 x4 = some r) : f42_C x1 x2 x3 x4 r := by
 unfold f42 at h
 obtain ⟨rh1, h1, h⟩ := bind_some h
 have ch1 := f73_ok F x1 x2 x3 _ h1
 obtain ⟨x5, x6, x7⟩ := rh1
 try dsimp only at h
 by_cases h2 : (x7 != 0) = true
 ·rw [if_pos h2] at h
  obtain rfl := sI h
  exact callOK cxOK cxW Try.func42 (by kernel_rfl) (f42_e0 x1 x2 x3 x4 x5 x6 x7) ⟨ch1, h2, trivial⟩
 ·rw [if_neg h2] at h
  have h2 := eF h2
  obtain ⟨x8, h3, h⟩ := bind_some h
  have ch3 := f67_ok F x4 0 (w64 (((List.length x1 : Nat) : Int) - 1)) _ h3
  try dsimp only at h
  by_cases h4 : x8 = true
  ·rw [if_pos h4] at h
   obtain ⟨x9, h5, h⟩ := bind_some h
   have ch5 := f47_1m_ok F x6 _ h5
   try dsimp only at h
   obtain ⟨h6, h⟩ := req_some h
   obtain ⟨h7, h⟩ := req_some h
   obtain ⟨h8, h⟩ := req_some h
   obtain ⟨x10, h9, h⟩ := bind_some h
   have ch9 := f74_ok F x5 (List.drop 0 (List.take (0 + (List.length x9)) (List.set x9 (0 + (Int.toNat x4)) 0))) _ h9
   try dsimp only at h
   obtain ⟨x11, h10, h⟩ := bind_some h
   try dsimp only at h
   obtain ⟨rh18, h18, h⟩ := bind_some h
   have ch18 := f42_p4_ok F x3 x4 x10 x11 x5 x6 F 0 0 12 0 _ h18
   obtain ⟨x20, x21, x22⟩ := rh18
   try dsimp only at h
   obtain rfl := sI h
   exact callOK cxOK cxW Try.func42 (by kernel_rfl) (f42_e1 x1 x2 x3 x4 x5 x6 x7 x8 x9 x10 x11 x20 x21 x22) ⟨ch1, h2, ch3, (by rw [h4]; rfl), ch5, h6, h7, h8, ch9, ⟨(at?_spec h10).1, x11, (at?_spec h10).2, rfl⟩, ch18, trivial⟩
  ·rw [if_neg h4] at h
   have h4 := eF h4
   obtain rfl := sI h
   exact callOK cxOK cxW Try.func42 (by kernel_rfl) (f42_e2 x1 x2 x3 x4 x5 x6 x7 x8) ⟨ch1, h2, ch3, (by rw [h4]; rfl), trivial⟩

theorem f79_ok (F : Nat) (x1 : Int) (x2 : LI) (r : Bool × (List Int)) (h : f79 F x1 x2 = some r) : f79_C x1 x2 r := by
 unfold f79 at h
 obtain ⟨h1, h⟩ := req_some h
 obtain rfl := sI h
 exact callOK cxOK cxW Try.func79 (by kernel_rfl) (f79_e0 x1 x2) ⟨h1, rfl, trivial⟩

theorem f78_p1_ok (F : Nat) (x4 : LI) : ∀ (k : Nat) (x10 : Int) (x9 : LI) (r : f78_p1_R), f78_p1 F x4 k x10 x9 = some r → f78_p1_P x4 x10 x9 r
 | 0, _, _, _, h => by cases h
 | k + 1, x10, x9, r, h => by
  unfold f78_p1 at h
  by_cases h7 : (decide (x10 < ((List.length x4 : Nat) : Int))) = true
  ·rw [if_pos h7] at h
   obtain ⟨x11, h8, h⟩ := bind_some h
   try dsimp only at h
   by_cases h9 : (decide (x11 > 0)) = true
   ·rw [if_pos h9] at h
    obtain ⟨rh10, h10, h⟩ := bind_some h
    have ch10 := f79_ok F x10 x9 _ h10
    obtain ⟨x12, x13⟩ := rh10
    try dsimp only at h
    by_cases h11 : x12 = true
    ·rw [if_pos h11] at h
     exact Lp.again (gRun_ok cxOK (f78_p1_e0 x4 x9 x10 x11 x12 x13) ⟨h7, ⟨(at?_spec h8).1, x11, (at?_spec h8).2, rfl⟩, h9, h9, h9, ch10, h9, h9, (by rw [h11]; rfl), trivial⟩) (f78_p1_ok F x4 k (w64 (x10 + 1)) x13 r h)
    ·rw [if_neg h11] at h
     have h11 := eF h11
     obtain rfl := sI h
     exact Lp.out (gRun_ok cxOK (f78_p1_e1 x4 x9 x10 x11 x12 x13) ⟨h7, ⟨(at?_spec h8).1, x11, (at?_spec h8).2, rfl⟩, h9, h9, h9, ch10, h9, h9, (by rw [h11]; rfl), trivial⟩) (by intro hh; cases hh)
   ·rw [if_neg h9] at h
    have h9 := eF h9
    exact Lp.again (gRun_ok cxOK (f78_p1_e2 x4 x9 x10 x11) ⟨h7, ⟨(at?_spec h8).1, x11, (at?_spec h8).2, rfl⟩, h9, h9, h9, h9, h9, rfl, trivial⟩) (f78_p1_ok F x4 k (w64 (x10 + 1)) x9 r h)
  ·rw [if_neg h7] at h
   have h7 := eF h7
   obtain rfl := sI h
   exact Lp.out (gRun_ok cxOK (f78_p1_e3 x4 x9 x10) ⟨h7, trivial⟩) (by intro hh; cases hh)
theorem f78_ok (F : Nat) (x1 x2 x3 : LI) (r : (List Int)) (h : f78 F x1 x2 x3 = some r) : f78_C x1 x2 x3 r := by
 unfold f78 at h
 obtain ⟨x4, h1, h⟩ := bind_some h
 have ch1 := f74_ok F x1 x2 _ h1
 try dsimp only at h
 obtain ⟨rh12, h12, h⟩ := bind_some h
 have ch12 := f78_p1_ok F x4 F 0 x3 _ h12
 cases rh12 with
 | c0 x14 =>
  try dsimp only at h
  obtain rfl := sI h
  exact callOK cxOK cxW Try.func78 (by kernel_rfl) (f78_e0 x1 x2 x3 x4 x14) ⟨ch1, ch12, trivial⟩
 | c1 x15 =>
  try dsimp only at h
  obtain rfl := sI h
  exact callOK cxOK cxW Try.func78 (by kernel_rfl) (f78_e1 x1 x2 x3 x4 x15) ⟨ch1, ch12, trivial⟩

theorem f38_ok (F : Nat) (x1 x2 : LI) (r : (List Int) × Int) (h : f38 F x1 x2 = some r) : f38_C x1 x2 r := by
 unfold f38 at h
 obtain ⟨rh1, h1, h⟩ := bind_some h
 have ch1 := f77_ok F x1 x2 _ h1
 obtain ⟨x3, x4, x5⟩ := rh1
 try dsimp only at h
 by_cases h2 : (x5 != 0) = true
 ·rw [if_pos h2] at h
  obtain rfl := sI h
  exact callOK cxOK cxW Try.func38 (by kernel_rfl) (f38_e0 x1 x2 x3 x4 x5) ⟨ch1, h2, trivial⟩
 ·rw [if_neg h2] at h
  have h2 := eF h2
  obtain ⟨x6, h3, h⟩ := bind_some h
  have ch3 := f78_ok F x3 x4 ([] : List Int) _ h3
  try dsimp only at h
  obtain rfl := sI h
  exact callOK cxOK cxW Try.func38 (by kernel_rfl) (f38_e1 x1 x2 x3 x4 x5 x6) ⟨ch1, h2, ch3, (Nat.le_of_eq (Nat.zero_add _)), trivial⟩

theorem f80_p0_ok (F : Nat) (x1 x2 : Int) (x3 x4 : Int) (r : Int × Int) (h : f80_p0 F x1 x2 x3 x4 = some r) : f80_p0_P x1 x2 x3 x4 r := by
 unfold f80_p0 at h
 by_cases h1 : (decide (x1 ≥ x2)) = true
 ·rw [if_pos h1] at h
  obtain rfl := sI h
  exact gRun_ok cxOK (f80_p0_e0 x1 x2 x3 x4) ⟨h1, trivial⟩
 ·rw [if_neg h1] at h
  have h1 := eF h1
  obtain rfl := sI h
  exact gRun_ok cxOK (f80_p0_e1 x1 x2 x3 x4) ⟨h1, trivial⟩
theorem f80_ok (F : Nat) (x1 x2 : Int) (x3 x4 : Int) (r : Bool × Int × Int) (h : f80 F x1 x2 x3 x4 = some r) : f80_C x1 x2 x3 x4 r := by
 unfold f80 at h
 obtain ⟨rh2, h2, h⟩ := bind_some h
 have ch2 := f80_p0_ok F x1 x2 x3 x4 _ h2
 obtain ⟨x5, x6⟩ := rh2
 try dsimp only at h
 obtain rfl := sI h
 exact callOK cxOK cxW Try.func80 (by kernel_rfl) (f80_e0 x1 x2 x3 x4 x5 x6) ⟨ch2, trivial⟩

theorem f78_1_p1_ok (F : Nat) (x6 : LI) (x3 : Int) : ∀ (k : Nat) (x12 x13 x14 : Int) (r : f78_1_p1_R), f78_1_p1 F x6 x3 k x12 x13 x14 = some r → f78_1_p1_P x6 x3 x12 x13 x14 r
 | 0, _, _, _, _, h => by cases h
 | k + 1, x12, x13, x14, r, h => by
  unfold f78_1_p1 at h
  by_cases h7 : (decide (x12 < ((List.length x6 : Nat) : Int))) = true
  ·rw [if_pos h7] at h
   obtain ⟨x15, h8, h⟩ := bind_some h
   try dsimp only at h
   by_cases h9 : (decide (x15 > 0)) = true
   ·rw [if_pos h9] at h
    obtain ⟨rh10, h10, h⟩ := bind_some h
    have ch10 := f80_ok F x12 x3 x13 x14 _ h10
    obtain ⟨x16, x17, x18⟩ := rh10
    try dsimp only at h
    by_cases h11 : x16 = true
    ·rw [if_pos h11] at h
     exact Lp.again (gRun_ok cxOK (f78_1_p1_e0 x3 x6 x12 x13 x14 x15 x16 x17 x18) ⟨h7, ⟨(at?_spec h8).1, x15, (at?_spec h8).2, rfl⟩, h9, h9, h9, ch10, h9, h9, (by rw [h11]; rfl), trivial⟩) (f78_1_p1_ok F x6 x3 k (w64 (x12 + 1)) x17 x18 r h)
    ·rw [if_neg h11] at h
     have h11 := eF h11
     obtain rfl := sI h
     exact Lp.out (gRun_ok cxOK (f78_1_p1_e1 x3 x6 x12 x13 x14 x15 x16 x17 x18) ⟨h7, ⟨(at?_spec h8).1, x15, (at?_spec h8).2, rfl⟩, h9, h9, h9, ch10, h9, h9, (by rw [h11]; rfl), trivial⟩) (by intro hh; cases hh)
   ·rw [if_neg h9] at h
    have h9 := eF h9
    exact Lp.again (gRun_ok cxOK (f78_1_p1_e2 x3 x6 x12 x13 x14 x15) ⟨h7, ⟨(at?_spec h8).1, x15, (at?_spec h8).2, rfl⟩, h9, h9, h9, h9, h9, rfl, trivial⟩) (f78_1_p1_ok F x6 x3 k (w64 (x12 + 1)) x13 x14 r h)
  ·rw [if_neg h7] at h
   have h7 := eF h7
   obtain rfl := sI h
   exact Lp.out (gRun_ok cxOK (f78_1_p1_e3 x3 x6 x12 x13 x14) ⟨h7, trivial⟩) (by intro hh; cases hh)
theorem f78_1_ok (F : Nat) (x1 x2 : LI) (x3 x4 x5 : Int) (r : Int × Int) (h : f78_1 F x1 x2 x3 x4 x5 = some r) : f78_1_C x1 x2 x3 x4 x5 r := by
 unfold f78_1 at h
 obtain ⟨x6, h1, h⟩ := bind_some h
 have ch1 := f74_ok F x1 x2 _ h1
 try dsimp only at h
 obtain ⟨rh12, h12, h⟩ := bind_some h
 have ch12 := f78_1_p1_ok F x6 x3 F 0 x4 x5 _ h12
 cases rh12 with
 | c0 x19 x20 =>
  try dsimp only at h
  obtain rfl := sI h
  exact callOK cxOK cxW Try.func78 (by kernel_rfl) (f78_1_e0 x1 x2 x3 x4 x5 x6 x19 x20) ⟨ch1, ch12, trivial⟩
 | c1 x21 x22 =>
  try dsimp only at h
  obtain rfl := sI h
  exact callOK cxOK cxW Try.func78 (by kernel_rfl) (f78_1_e1 x1 x2 x3 x4 x5 x6 x21 x22) ⟨ch1, ch12, trivial⟩

theorem f40_ok (F : Nat) (x1 x2 : LI) (x3 : Int) (r : Int × Int) (h : f40 F x1 x2 x3 = some r) : f40_C x1 x2 x3 r := by
 unfold f40 at h
 obtain ⟨rh1, h1, h⟩ := bind_some h
 have ch1 := f73_ok F x1 x2 x3 _ h1
 obtain ⟨x4, x5, x6⟩ := rh1
 try dsimp only at h
 by_cases h2 : (x6 != 0) = true
 ·rw [if_pos h2] at h
  obtain rfl := sI h
  exact callOK cxOK cxW Try.func40 (by kernel_rfl) (f40_e0 x1 x2 x3 x4 x5 x6) ⟨ch1, h2, trivial⟩
 ·rw [if_neg h2] at h
  have h2 := eF h2
  obtain ⟨rh3, h3, h⟩ := bind_some h
  have ch3 := f78_1_ok F x4 x5 x3 12 0 _ h3
  obtain ⟨x7, x8⟩ := rh3
  try dsimp only at h
  obtain rfl := sI h
  exact callOK cxOK cxW Try.func40 (by kernel_rfl) (f40_e1 x1 x2 x3 x4 x5 x6 x7 x8) ⟨ch1, h2, ch3, trivial⟩

theorem f23_p2_ok (F : Nat) (x1 x2 : LI) : ∀ (k : Nat) (x3 : Int) (r : f23_p2_R), f23_p2 F x1 x2 k x3 = some r → f23_p2_P x1 x2 x3 r
 | 0, _, _, h => by cases h
 | k + 1, x3, r, h => by
  unfold f23_p2 at h
  by_cases h2 : (decide (x3 < ((List.length x1 : Nat) : Int))) = true
  ·rw [if_pos h2] at h
   obtain ⟨x4, h3, h⟩ := bind_some h
   try dsimp only at h
   obtain ⟨x5, h4, h⟩ := bind_some h
   try dsimp only at h
   by_cases h5 : (x4 != x5) = true
   ·rw [if_pos h5] at h
    obtain rfl := sI h
    exact Lp.out (gRun_ok cxOK (f23_p2_e0 x1 x2 x3 x4 x5) ⟨h2, ⟨(at?_spec h3).1, x4, (at?_spec h3).2, rfl⟩, ⟨(at?_spec h4).1, x5, (at?_spec h4).2, rfl⟩, h5, trivial⟩) (by intro hh; cases hh)
   ·rw [if_neg h5] at h
    have h5 := eF h5
    exact Lp.again (gRun_ok cxOK (f23_p2_e1 x1 x2 x3 x4 x5) ⟨h2, ⟨(at?_spec h3).1, x4, (at?_spec h3).2, rfl⟩, ⟨(at?_spec h4).1, x5, (at?_spec h4).2, rfl⟩, h5, trivial⟩) (f23_p2_ok F x1 x2 k (w64 (x3 + 1)) r h)
  ·rw [if_neg h2] at h
   have h2 := eF h2
   obtain rfl := sI h
   exact Lp.out (gRun_ok cxOK (f23_p2_e2 x1 x2 x3) ⟨h2, trivial⟩) (by intro hh; cases hh)
theorem f23_ok (F : Nat) (x1 x2 : LI) (r : Bool) (h : f23 F x1 x2 = some r) : f23_C x1 x2 r := by
 unfold f23 at h
 by_cases h1 : (((List.length x1 : Nat) : Int) != ((List.length x2 : Nat) : Int)) = true
 ·rw [if_pos h1] at h
  obtain rfl := sI h
  exact callOK cxOK cxW Try.func23 (by kernel_rfl) (f23_e0 x1 x2) ⟨h1, trivial⟩
 ·rw [if_neg h1] at h
  have h1 := eF h1
  obtain ⟨rh6, h6, h⟩ := bind_some h
  have ch6 := f23_p2_ok F x1 x2 F 0 _ h6
  cases rh6 with
  | c0 =>
   try dsimp only at h
   obtain rfl := sI h
   exact callOK cxOK cxW Try.func23 (by kernel_rfl) (f23_e1 x1 x2) ⟨h1, ch6, trivial⟩
  | c1 =>
   try dsimp only at h
   obtain rfl := sI h
   exact callOK cxOK cxW Try.func23 (by kernel_rfl) (f23_e2 x1 x2) ⟨h1, ch6, trivial⟩

theorem f16_ok (F : Nat) (r : Bool) (h : f16 F = some r) : f16_C r := by
 unfold f16 at h
 obtain ⟨x1, h1, h⟩ := bind_some h
 have ch1 := f52_ok F ([3, 5] : List Int) _ h1
 try dsimp only at h
 obtain ⟨rh2, h2, h⟩ := bind_some h
 have ch2 := f28_ok F x1 _ h2
 obtain ⟨x2, x3⟩ := rh2
 try dsimp only at h
 obtain ⟨x4, h3, h⟩ := bind_some h
 have ch3 := f52_ok F ([6, 10, 15] : List Int) _ h3
 try dsimp only at h
 obtain ⟨rh4, h4, h⟩ := bind_some h
 have ch4 := f30_ok F x4 _ h4
 obtain ⟨x5, x6⟩ := rh4
 try dsimp only at h
 obtain ⟨x7, h5, h⟩ := bind_some h
 have ch5 := f52_ok F ([6, 10, 15] : List Int) _ h5
 try dsimp only at h
 obtain ⟨rh6, h6, h⟩ := bind_some h
 have ch6 := f24_ok F x7 0 _ h6
 obtain ⟨x8, x9⟩ := rh6
 try dsimp only at h
 obtain ⟨x10, h7, h⟩ := bind_some h
 have ch7 := f52_ok F ([6, 10, 15] : List Int) _ h7
 try dsimp only at h
 obtain ⟨rh8, h8, h⟩ := bind_some h
 have ch8 := f17_ok F x10 31 _ h8
 obtain ⟨x11, x12⟩ := rh8
 try dsimp only at h
 obtain ⟨x13, h9, h⟩ := bind_some h
 have ch9 := f52_ok F ([6, 10, 15] : List Int) _ h9
 try dsimp only at h
 obtain ⟨rh10, h10, h⟩ := bind_some h
 have ch10 := f21_ok F x13 29 _ h10
 obtain ⟨x14, x15, x16⟩ := rh10
 try dsimp only at h
 obtain ⟨x17, h11, h⟩ := bind_some h
 have ch11 := f52_ok F ([1, 4, 6] : List Int) _ h11
 try dsimp only at h
 obtain ⟨rh12, h12, h⟩ := bind_some h
 have ch12 := f19_ok F x17 8 _ h12
 obtain ⟨x18, x19⟩ := rh12
 try dsimp only at h
 obtain ⟨x20, h13, h⟩ := bind_some h
 have ch13 := f52_ok F ([3, 5, 6, 8] : List Int) _ h13
 try dsimp only at h
 obtain ⟨rh14, h14, h⟩ := bind_some h
 have ch14 := f34_ok F x20 _ h14
 obtain ⟨x21, x22⟩ := rh14
 try dsimp only at h
 by_cases h15 : (x3 != 0) = true
 ·rw [if_pos h15] at h
  cases h
 ·rw [if_neg h15] at h
  have h15 := eF h15
  by_cases h16 : (x6 != 0) = true
  ·rw [if_pos h16] at h
   cases h
  ·rw [if_neg h16] at h
   have h16 := eF h16
   by_cases h17 : (x9 != 0) = true
   ·rw [if_pos h17] at h
    cases h
   ·rw [if_neg h17] at h
    have h17 := eF h17
    by_cases h18 : (x12 != 0) = true
    ·rw [if_pos h18] at h
     cases h
    ·rw [if_neg h18] at h
     have h18 := eF h18
     by_cases h19 : (x16 != 0) = true
     ·rw [if_pos h19] at h
      cases h
     ·rw [if_neg h19] at h
      have h19 := eF h19
      by_cases h20 : (x19 != 0) = true
      ·rw [if_pos h20] at h
       cases h
      ·rw [if_neg h20] at h
       have h20 := eF h20
       by_cases h21 : (x22 != 0) = true
       ·rw [if_pos h21] at h
        cases h
       ·rw [if_neg h21] at h
        have h21 := eF h21
        obtain ⟨x23, h22, h⟩ := bind_some h
        have ch22 := f52_ok F ([3, 4, 5] : List Int) _ h22
        try dsimp only at h
        obtain ⟨rh23, h23, h⟩ := bind_some h
        have ch23 := f32_ok F x23 _ h23
        obtain ⟨x24, x25⟩ := rh23
        try dsimp only at h
        obtain ⟨x26, h24, h⟩ := bind_some h
        have ch24 := f52_ok F ([2, 5] : List Int) _ h24
        try dsimp only at h
        obtain ⟨x27, h25, h⟩ := bind_some h
        have ch25 := f52_ok F ([3, 2] : List Int) _ h25
        try dsimp only at h
        obtain ⟨rh26, h26, h⟩ := bind_some h
        have ch26 := f51_ok F x26 x27 11 _ h26
        obtain ⟨x28, x29⟩ := rh26
        try dsimp only at h
        obtain ⟨x30, h27, h⟩ := bind_some h
        have ch27 := f52_ok F ([2, 5] : List Int) _ h27
        try dsimp only at h
        obtain ⟨x31, h28, h⟩ := bind_some h
        have ch28 := f52_ok F ([5, 2] : List Int) _ h28
        try dsimp only at h
        obtain ⟨rh29, h29, h⟩ := bind_some h
        have ch29 := f36_ok F x30 x31 10 _ h29
        obtain ⟨x32, x33⟩ := rh29
        try dsimp only at h
        obtain ⟨x34, h30, h⟩ := bind_some h
        have ch30 := f52_ok F ([2, 5] : List Int) _ h30
        try dsimp only at h
        obtain ⟨x35, h31, h⟩ := bind_some h
        have ch31 := f52_ok F ([5, 2] : List Int) _ h31
        try dsimp only at h
        obtain ⟨rh32, h32, h⟩ := bind_some h
        have ch32 := f42_ok F x34 x35 10 0 _ h32
        obtain ⟨x36, x37, x38⟩ := rh32
        try dsimp only at h
        obtain ⟨x39, h33, h⟩ := bind_some h
        have ch33 := f52_ok F ([2, 5] : List Int) _ h33
        try dsimp only at h
        obtain ⟨x40, h34, h⟩ := bind_some h
        have ch34 := f52_ok F ([1, 1] : List Int) _ h34
        try dsimp only at h
        obtain ⟨rh35, h35, h⟩ := bind_some h
        have ch35 := f38_ok F x39 x40 _ h35
        obtain ⟨x41, x42⟩ := rh35
        try dsimp only at h
        obtain ⟨x43, h36, h⟩ := bind_some h
        have ch36 := f52_ok F ([2, 5] : List Int) _ h36
        try dsimp only at h
        obtain ⟨x44, h37, h⟩ := bind_some h
        have ch37 := f52_ok F ([1, 1] : List Int) _ h37
        try dsimp only at h
        obtain ⟨rh38, h38, h⟩ := bind_some h
        have ch38 := f40_ok F x43 x44 3 _ h38
        obtain ⟨x45, x46⟩ := rh38
        try dsimp only at h
        obtain ⟨x47, h39, h⟩ := bind_some h
        have ch39 := f52_ok F ([2, 5] : List Int) _ h39
        try dsimp only at h
        obtain ⟨x48, h40, h⟩ := bind_some h
        have ch40 := f52_ok F ([3, 2] : List Int) _ h40
        try dsimp only at h
        obtain ⟨rh41, h41, h⟩ := bind_some h
        have ch41 := f51_ok F x47 x48 13 _ h41
        obtain ⟨x49, x50⟩ := rh41
        try dsimp only at h
        by_cases h42 : (x25 == 0) = true
        ·rw [if_pos h42] at h
         by_cases h43 : (x29 == 0) = true
         ·rw [if_pos h43] at h
          by_cases h44 : (x33 == 0) = true
          ·rw [if_pos h44] at h
           by_cases h45 : (x38 == 0) = true
           ·rw [if_pos h45] at h
            by_cases h46 : (x42 == 0) = true
            ·rw [if_pos h46] at h
             by_cases h47 : (x46 == 0) = true
             ·rw [if_pos h47] at h
              by_cases h48 : (x50 == 12) = true
              ·rw [if_pos h48] at h
               obtain ⟨x51, h49, h⟩ := bind_some h
               have ch49 := f52_ok F ([1, 2, 4, 7] : List Int) _ h49
               try dsimp only at h
               obtain ⟨x52, h50, h⟩ := bind_some h
               have ch50 := f23_ok F x2 x51 _ h50
               try dsimp only at h
               by_cases h51 : x52 = true
               ·rw [if_pos h51] at h
                by_cases h52 : (x5 == 29) = true
                ·rw [if_pos h52] at h
                 obtain ⟨x53, h53, h⟩ := bind_some h
                 have ch53 := f52_ok F ([0, 25, 20, 15, 10, 35] : List Int) _ h53
                 try dsimp only at h
                 obtain ⟨x54, h54, h⟩ := bind_some h
                 have ch54 := f23_ok F x8 x53 _ h54
                 try dsimp only at h
                 by_cases h55 : x54 = true
                 ·rw [if_pos h55] at h
                  by_cases h56 : x11 = true
                  ·rw [if_pos h56] at h
                   by_cases h57 : (x14 == 5) = true
                   ·rw [if_pos h57] at h
                    by_cases h58 : (x15 == 35) = true
                    ·rw [if_pos h58] at h
                     obtain ⟨x55, h59, h⟩ := bind_some h
                     have ch59 := f52_ok F ([0, 2, 0] : List Int) _ h59
                     try dsimp only at h
                     obtain ⟨x56, h60, h⟩ := bind_some h
                     have ch60 := f23_ok F x18 x55 _ h60
                     try dsimp only at h
                     by_cases h61 : x56 = true
                     ·rw [if_pos h61] at h
                      obtain ⟨x57, h62, h⟩ := bind_some h
                      have ch62 := f52_ok F ([0, 1] : List Int) _ h62
                      try dsimp only at h
                      obtain ⟨x58, h63, h⟩ := bind_some h
                      have ch63 := f23_ok F x21 x57 _ h63
                      try dsimp only at h
                      by_cases h64 : x58 = true
                      ·rw [if_pos h64] at h
                       by_cases h65 : x24 = true
                       ·rw [if_pos h65] at h
                        cases h
                       ·rw [if_neg h65] at h
                        have h65 := eF h65
                        obtain ⟨x59, h66, h⟩ := bind_some h
                        have ch66 := f52_ok F ([3, 1] : List Int) _ h66
                        try dsimp only at h
                        obtain ⟨x60, h67, h⟩ := bind_some h
                        have ch67 := f23_ok F x28 x59 _ h67
                        try dsimp only at h
                        by_cases h68 : x60 = true
                        ·rw [if_pos h68] at h
                         by_cases h69 : (x32 == 2) = true
                         ·rw [if_pos h69] at h
                          by_cases h70 : (x36 == 0) = true
                          ·rw [if_pos h70] at h
                           by_cases h71 : (x37 == 5) = true
                           ·rw [if_pos h71] at h
                            obtain ⟨x61, h72, h⟩ := bind_some h
                            have ch72 := f52_ok F ([0, 2, 5, 7] : List Int) _ h72
                            try dsimp only at h
                            obtain ⟨x62, h73, h⟩ := bind_some h
                            have ch73 := f23_ok F x41 x61 _ h73
                            try dsimp only at h
                            by_cases h74 : x62 = true
                            ·rw [if_pos h74] at h
                             obtain rfl := sI h
                             exact callOK cxOK cxW Try.func16 (by kernel_rfl) (f16_e0 x1 x2 x3 x4 x5 x6 x7 x8 x9 x10 x11 x12 x13 x14 x15 x16 x17 x18 x19 x20 x21 x22 x23 x24 x25 x26 x27 x28 x29 x30 x31 x32 x33 x34 x35 x36 x37 x38 x39 x40 x41 x42 x43 x44 x45 x46 x47 x48 x49 x50 x51 x52 x53 x54 x55 x56 x57 x58 x59 x60 x61 x62) ⟨ch1, ch2, ch3, ch4, ch5, ch6, ch7, ch8, ch9, ch10, ch11, ch12, ch13, ch14, h15, h15, h15, h16, h16, h16, h17, h17, h17, h18, h18, h18, h19, h19, h19, h20, h20, h20, h21, ch22, ch23, ch24, ch25, ch26, ch27, ch28, ch29, ch30, ch31, ch32, ch33, ch34, ch35, ch36, ch37, ch38, ch39, ch40, ch41, h42, h42, h42, h43, h43, h43, h44, h44, h44, h45, h45, h45, h46, h46, h46, h47, h47, h47, h48, h48, h48, ch49, h48, ch50, h48, h51, h51, h51, h52, h52, h52, ch53, h52, ch54, h52, h55, h55, h56, h56, h56, h57, h57, h57, h58, h58, h58, ch59, h58, ch60, h58, h61, h61, h61, ch62, h61, ch63, h61, h64, h64, h64, (by rw [h65]; rfl), (by rw [h65]; rfl), (by rw [h65]; rfl), ch66, (by rw [h65]; rfl), ch67, (by rw [h65]; rfl), h68, h68, h68, h69, h69, h69, h70, h70, h70, h71, h71, h71, ch72, h71, ch73, h71, h74, h74, h74, trivial⟩
                            ·rw [if_neg h74] at h
                             have h74 := eF h74
                             cases h
                           ·rw [if_neg h71] at h
                            have h71 := eF h71
                            cases h
                          ·rw [if_neg h70] at h
                           have h70 := eF h70
                           cases h
                         ·rw [if_neg h69] at h
                          have h69 := eF h69
                          cases h
                        ·rw [if_neg h68] at h
                         have h68 := eF h68
                         cases h
                      ·rw [if_neg h64] at h
                       have h64 := eF h64
                       cases h
                     ·rw [if_neg h61] at h
                      have h61 := eF h61
                      cases h
                    ·rw [if_neg h58] at h
                     have h58 := eF h58
                     cases h
                   ·rw [if_neg h57] at h
                    have h57 := eF h57
                    cases h
                  ·rw [if_neg h56] at h
                   have h56 := eF h56
                   cases h
                 ·rw [if_neg h55] at h
                  have h55 := eF h55
                  cases h
                ·rw [if_neg h52] at h
                 have h52 := eF h52
                 cases h
               ·rw [if_neg h51] at h
                have h51 := eF h51
                cases h
              ·rw [if_neg h48] at h
               have h48 := eF h48
               cases h
             ·rw [if_neg h47] at h
              have h47 := eF h47
              cases h
            ·rw [if_neg h46] at h
             have h46 := eF h46
             cases h
           ·rw [if_neg h45] at h
            have h45 := eF h45
            cases h
          ·rw [if_neg h44] at h
           have h44 := eF h44
           cases h
         ·rw [if_neg h43] at h
          have h43 := eF h43
          cases h
        ·rw [if_neg h42] at h
         have h42 := eF h42
         cases h

theorem f69_ok (F : Nat) (x1 x2 x3 : Int) (r : Bool) (h : f69 F x1 x2 x3 = some r) : f69_C x1 x2 x3 r := by
 unfold f69 at h
 by_cases h1 : (decide (x1 ≥ x2)) = true
 ·rw [if_pos h1] at h
  obtain rfl := sI h
  exact callOK cxOK cxW Try.func69 (by kernel_rfl) (f69_e0 x1 x2 x3) ⟨h1, h1, h1, h1, trivial⟩
 ·rw [if_neg h1] at h
  have h1 := eF h1
  obtain rfl := sI h
  exact callOK cxOK cxW Try.func69 (by kernel_rfl) (f69_e1 x1 x2 x3) ⟨h1, h1, h1, h1, trivial⟩

theorem f27_p3_ok (F : Nat) (x1 : LI) : ∀ (k : Nat) (x2 : Int) (r : f27_p3_R), f27_p3 F x1 k x2 = some r → f27_p3_P x1 x2 r
 | 0, _, _, h => by cases h
 | k + 1, x2, r, h => by
  unfold f27_p3 at h
  by_cases h3 : (decide (x2 < ((List.length x1 : Nat) : Int))) = true
  ·rw [if_pos h3] at h
   obtain ⟨x3, h4, h⟩ := bind_some h
   try dsimp only at h
   obtain ⟨x4, h5, h⟩ := bind_some h
   have ch5 := f69_ok F x3 1 30 _ h5
   try dsimp only at h
   by_cases h6 : x4 = true
   ·rw [if_pos h6] at h
    by_cases h7 : (decide (x2 > 0)) = true
    ·rw [if_pos h7] at h
     obtain ⟨x5, h8, h⟩ := bind_some h
     try dsimp only at h
     by_cases h9 : (decide (x3 ≤ x5)) = true
     ·rw [if_pos h9] at h
      obtain rfl := sI h
      exact Lp.out (gRun_ok cxOK (f27_p3_e0 x1 x2 x3 x4 x5) ⟨h3, ⟨(at?_spec h4).1, x3, (at?_spec h4).2, rfl⟩, ch5, (by rw [h6]; rfl), h7, h7, h7, ⟨(at?_spec h4).1, x3, (at?_spec h4).2, rfl⟩, h7, h7, h7, h7, h7, ⟨(at?_spec h8).1, x5, (at?_spec h8).2, rfl⟩, h7, h7, h7, h9, trivial⟩) (by intro hh; cases hh)
     ·rw [if_neg h9] at h
      have h9 := eF h9
      exact Lp.again (gRun_ok cxOK (f27_p3_e1 x1 x2 x3 x4 x5) ⟨h3, ⟨(at?_spec h4).1, x3, (at?_spec h4).2, rfl⟩, ch5, (by rw [h6]; rfl), h7, h7, h7, ⟨(at?_spec h4).1, x3, (at?_spec h4).2, rfl⟩, h7, h7, h7, h7, h7, ⟨(at?_spec h8).1, x5, (at?_spec h8).2, rfl⟩, h7, h7, h7, h9, trivial⟩) (f27_p3_ok F x1 k (w64 (x2 + 1)) r h)
    ·rw [if_neg h7] at h
     have h7 := eF h7
     exact Lp.again (gRun_ok cxOK (f27_p3_e2 x1 x2 x3 x4) ⟨h3, ⟨(at?_spec h4).1, x3, (at?_spec h4).2, rfl⟩, ch5, (by rw [h6]; rfl), h7, h7, h7, h7, h7, h7, h7, h7, h7, h7, h7, rfl, trivial⟩) (f27_p3_ok F x1 k (w64 (x2 + 1)) r h)
   ·rw [if_neg h6] at h
    have h6 := eF h6
    obtain rfl := sI h
    exact Lp.out (gRun_ok cxOK (f27_p3_e3 x1 x2 x3 x4) ⟨h3, ⟨(at?_spec h4).1, x3, (at?_spec h4).2, rfl⟩, ch5, (by rw [h6]; rfl), trivial⟩) (by intro hh; cases hh)
  ·rw [if_neg h3] at h
   have h3 := eF h3
   obtain rfl := sI h
   exact Lp.out (gRun_ok cxOK (f27_p3_e4 x1 x2) ⟨h3, trivial⟩) (by intro hh; cases hh)
theorem f27_ok (F : Nat) (x1 : LI) (r : Int) (h : f27 F x1 = some r) : f27_C x1 r := by
 unfold f27 at h
 by_cases h1 : (((List.length x1 : Nat) : Int) == 0) = true
 ·rw [if_pos h1] at h
  obtain rfl := sI h
  exact callOK cxOK cxW Try.func27 (by kernel_rfl) (f27_e0 x1) ⟨h1, trivial⟩
 ·rw [if_neg h1] at h
  have h1 := eF h1
  by_cases h2 : (decide (((List.length x1 : Nat) : Int) > 5)) = true
  ·rw [if_pos h2] at h
   obtain rfl := sI h
   exact callOK cxOK cxW Try.func27 (by kernel_rfl) (f27_e1 x1) ⟨h1, h2, trivial⟩
  ·rw [if_neg h2] at h
   have h2 := eF h2
   obtain ⟨rh10, h10, h⟩ := bind_some h
   have ch10 := f27_p3_ok F x1 F 0 _ h10
   cases rh10 with
   | c0 x6 =>
    try dsimp only at h
    obtain rfl := sI h
    exact callOK cxOK cxW Try.func27 (by kernel_rfl) (f27_e2 x1 x6) ⟨h1, h2, ch10, trivial⟩
   | c1 =>
    try dsimp only at h
    obtain rfl := sI h
    exact callOK cxOK cxW Try.func27 (by kernel_rfl) (f27_e3 x1) ⟨h1, h2, ch10, trivial⟩

theorem f62_p0_ok (F : Nat) (x1 : Int) (x3 : Bool) (r : Int) (h : f62_p0 F x1 x3 = some r) : f62_p0_P x1 x3 r := by
 unfold f62_p0 at h
 by_cases h3 : x3 = true
 ·rw [if_pos h3] at h
  obtain rfl := sI h
  exact gRun_ok cxOK (f62_p0_e0 x1 x3) ⟨(by rw [h3]; rfl), trivial⟩
 ·rw [if_neg h3] at h
  have h3 := eF h3
  obtain rfl := sI h
  exact gRun_ok cxOK (f62_p0_e1 x1 x3) ⟨(by rw [h3]; rfl), trivial⟩
theorem f62_ok (F : Nat) (x1 x2 : Int) (r : Int) (h : f62 F x1 x2 = some r) : f62_C x1 x2 r := by
 unfold f62 at h
 by_cases h1 : (x1 == 0) = true
 ·rw [if_pos h1] at h
  obtain ⟨x3, h2, h⟩ := bind_some h
  have ch2 := f69_ok F x2 0 1000 _ h2
  try dsimp only at h
  obtain ⟨x4, h4, h⟩ := bind_some h
  have ch4 := f62_p0_ok F x1 x3 _ h4
  try dsimp only at h
  obtain rfl := sI h
  exact callOK cxOK cxW Try.func62 (by kernel_rfl) (f62_e0 x1 x2 x3 x4) ⟨h1, h1, ch2, h1, h1, ch4, trivial⟩
 ·rw [if_neg h1] at h
  have h1 := eF h1
  obtain rfl := sI h
  exact callOK cxOK cxW Try.func62 (by kernel_rfl) (f62_e1 x1 x2) ⟨h1, h1, h1, h1, rfl, trivial⟩

end Go.Gh.Pack
