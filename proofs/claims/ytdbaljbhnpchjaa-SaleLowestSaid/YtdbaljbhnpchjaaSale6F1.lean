/- Sale6F1: printed by wip/tool/gx.py -/
import Derived.Test.YtdbaljbhnpchjaaSale6F0
namespace Go.Gh.Sale
set_option linter.unusedVariables false
set_option linter.unusedSimpArgs false
open Go.Proofs

theorem f86_1_p1_ok (F : Nat) (x1 : LL) (x2 x3 : Nat) (x4 : Int) (x5 : LI) : ∀ (k : Nat) (x6 x7 : Int) (r : Int), f86_1_p1 F x1 x2 x3 x4 x5 k x6 x7 = some r → f86_1_p1_P x1 x2 x3 x4 x5 x6 x7 r
 | 0, _, _, _, h => by cases h
 | k + 1, x6, x7, r, h => by
  unfold f86_1_p1 at h
  by_cases h1 : (decide (x7 < ((x3 : Nat) : Int))) = true
  ·rw [if_pos h1] at h
   obtain ⟨x8, h2, h⟩ := bind_some h
   try dsimp only at h
   obtain ⟨x9, h3, h⟩ := bind_some h
   try dsimp only at h
   obtain ⟨h4, h⟩ := req_some h
   obtain ⟨x10, h5, h⟩ := bind_some h
   try dsimp only at h
   exact Lp.again (gRun_ok cxOK (f86_1_p1_e0 x1 x2 x3 x4 x5 x6 x7 x8 x9 x10) ⟨h1, ⟨(at?_spec h2).1, x8, (at?_spec h2).2, rfl⟩, ⟨(at?_spec h3).1, x9, (at?_spec h3).2, rfl⟩, h4, ⟨x10, h5, rfl⟩, trivial⟩) (f86_1_p1_ok F x1 x2 x3 x4 x5 k (if (w64 (x9 - x10)) > x6 then (w64 (x9 - x10)) else x6) (w64 (x7 + 1)) r h)
  ·rw [if_neg h1] at h
   have h1 := eF h1
   obtain rfl := sI h
   exact Lp.out (gRun_ok cxOK (f86_1_p1_e1 x1 x2 x3 x4 x5 x6 x7) ⟨h1, trivial⟩) (by intro hh; cases hh)
theorem f86_1_p4_ok (F : Nat) (x1 : LL) (x2 x3 : Nat) (x4 x11 : Int) (x5 : LI) (r : f86_1_p4_R) (h : f86_1_p4 F x1 x2 x3 x4 x11 x5 = some r) : f86_1_p4_P x1 x2 x3 x4 x11 x5 r := by
 unfold f86_1_p4 at h
 by_cases h7 : (x11 == 0) = true
 ·rw [if_pos h7] at h
  obtain ⟨h8, h⟩ := req_some h
  obtain rfl := sI h
  exact gRun_ok cxOK (f86_1_p4_e0 x1 x2 x3 x4 x5 x11) ⟨h7, h8, trivial⟩
 ·rw [if_neg h7] at h
  have h7 := eF h7
  obtain rfl := sI h
  exact gRun_ok cxOK (f86_1_p4_e1 x1 x2 x3 x4 x5 x11) ⟨h7, trivial⟩
theorem f86_1_p9_ok (F : Nat) (x1 : LL) (x2 x3 : Nat) (x4 x11 : Int) (x12 : LI) (x13 x15 x16 : Int) (x5 : LI) (r : (List Int)) (h : f86_1_p9 F x1 x2 x3 x4 x11 x12 x13 x15 x16 x5 = some r) : f86_1_p9_P x1 x2 x3 x4 x11 x12 x13 x15 x16 x5 r := by
 unfold f86_1_p9 at h
 by_cases h15 : ((w64 (x15 - x16)) == x11) = true
 ·rw [if_pos h15] at h
  obtain ⟨h16, h⟩ := req_some h
  obtain rfl := sI h
  exact gRun_ok cxOK (f86_1_p9_e0 x1 x2 x3 x4 x5 x11 x12 x13 x15 x16) ⟨h15, h16, rfl, trivial⟩
 ·rw [if_neg h15] at h
  have h15 := eF h15
  obtain rfl := sI h
  exact gRun_ok cxOK (f86_1_p9_e1 x1 x2 x3 x4 x5 x11 x12 x13 x15 x16) ⟨h15, trivial⟩
theorem f86_1_p6_ok (F : Nat) (x1 : LL) (x2 x3 : Nat) (x4 x11 : Int) (x5 : LI) : ∀ (k : Nat) (x13 : Int) (x12 : LI) (r : (List Int)), f86_1_p6 F x1 x2 x3 x4 x11 x5 k x13 x12 = some r → f86_1_p6_P x1 x2 x3 x4 x11 x5 x13 x12 r
 | 0, _, _, _, h => by cases h
 | k + 1, x13, x12, r, h => by
  unfold f86_1_p6 at h
  by_cases h10 : (decide (x13 < ((x3 : Nat) : Int))) = true
  ·rw [if_pos h10] at h
   obtain ⟨x14, h11, h⟩ := bind_some h
   try dsimp only at h
   obtain ⟨x15, h12, h⟩ := bind_some h
   try dsimp only at h
   obtain ⟨h13, h⟩ := req_some h
   obtain ⟨x16, h14, h⟩ := bind_some h
   try dsimp only at h
   obtain ⟨x17, h17, h⟩ := bind_some h
   have ch17 := f86_1_p9_ok F x1 x2 x3 x4 x11 x12 x13 x15 x16 x5 _ h17
   try dsimp only at h
   exact Lp.again (gRun_ok cxOK (f86_1_p6_e0 x1 x2 x3 x4 x5 x11 x12 x13 x14 x15 x16 x17) ⟨h10, ⟨(at?_spec h11).1, x14, (at?_spec h11).2, rfl⟩, ⟨(at?_spec h12).1, x15, (at?_spec h12).2, rfl⟩, h13, ⟨x16, h14, rfl⟩, ch17, trivial⟩) (f86_1_p6_ok F x1 x2 x3 x4 x11 x5 k (w64 (x13 + 1)) x17 r h)
  ·rw [if_neg h10] at h
   have h10 := eF h10
   obtain rfl := sI h
   exact Lp.out (gRun_ok cxOK (f86_1_p6_e1 x1 x2 x3 x4 x5 x11 x12 x13) ⟨h10, trivial⟩) (by intro hh; cases hh)
theorem f86_1_p9_2_ok (F : Nat) (x1 : LL) (x2 x3 : Nat) (x4 x11 : Int) (x23 : LI) (x24 x26 x27 : Int) (x5 : LI) (r : (List Int)) (h : f86_1_p9_2 F x1 x2 x3 x4 x11 x23 x24 x26 x27 x5 = some r) : f86_1_p9_2_P x1 x2 x3 x4 x11 x23 x24 x26 x27 x5 r := by
 unfold f86_1_p9_2 at h
 by_cases h32 : ((w64 (x26 - x27)) == x11) = true
 ·rw [if_pos h32] at h
  obtain ⟨h33, h⟩ := req_some h
  obtain rfl := sI h
  exact gRun_ok cxOK (f86_1_p9_2_e0 x1 x2 x3 x4 x5 x11 x23 x24 x26 x27) ⟨h32, h33, rfl, trivial⟩
 ·rw [if_neg h32] at h
  have h32 := eF h32
  obtain rfl := sI h
  exact gRun_ok cxOK (f86_1_p9_2_e1 x1 x2 x3 x4 x5 x11 x23 x24 x26 x27) ⟨h32, trivial⟩
theorem f86_1_p6_1_ok (F : Nat) (x1 : LL) (x2 x3 : Nat) (x4 x11 : Int) (x5 : LI) : ∀ (k : Nat) (x24 : Int) (x23 : LI) (r : (List Int)), f86_1_p6_1 F x1 x2 x3 x4 x11 x5 k x24 x23 = some r → f86_1_p6_1_P x1 x2 x3 x4 x11 x5 x24 x23 r
 | 0, _, _, _, h => by cases h
 | k + 1, x24, x23, r, h => by
  unfold f86_1_p6_1 at h
  by_cases h27 : (decide (x24 < ((x3 : Nat) : Int))) = true
  ·rw [if_pos h27] at h
   obtain ⟨x25, h28, h⟩ := bind_some h
   try dsimp only at h
   obtain ⟨x26, h29, h⟩ := bind_some h
   try dsimp only at h
   obtain ⟨h30, h⟩ := req_some h
   obtain ⟨x27, h31, h⟩ := bind_some h
   try dsimp only at h
   obtain ⟨x28, h34, h⟩ := bind_some h
   have ch34 := f86_1_p9_2_ok F x1 x2 x3 x4 x11 x23 x24 x26 x27 x5 _ h34
   try dsimp only at h
   exact Lp.again (gRun_ok cxOK (f86_1_p6_1_e0 x1 x2 x3 x4 x5 x11 x23 x24 x25 x26 x27 x28) ⟨h27, ⟨(at?_spec h28).1, x25, (at?_spec h28).2, rfl⟩, ⟨(at?_spec h29).1, x26, (at?_spec h29).2, rfl⟩, h30, ⟨x27, h31, rfl⟩, ch34, trivial⟩) (f86_1_p6_1_ok F x1 x2 x3 x4 x11 x5 k (w64 (x24 + 1)) x28 r h)
  ·rw [if_neg h27] at h
   have h27 := eF h27
   obtain rfl := sI h
   exact Lp.out (gRun_ok cxOK (f86_1_p6_1_e1 x1 x2 x3 x4 x5 x11 x23 x24) ⟨h27, trivial⟩) (by intro hh; cases hh)
theorem f86_1_ok (F : Nat) (x1 : LL) (x2 x3 : Nat) (x4 : Int) (x5 : LI) (r : (List Int)) (h : f86_1 F x1 x2 x3 x4 x5 = some r) : f86_1_C x1 x2 x3 x4 x5 r := by
 unfold f86_1 at h
 obtain ⟨x11, h6, h⟩ := bind_some h
 have ch6 := f86_1_p1_ok F x1 x2 x3 x4 x5 F 0 0 _ h6
 try dsimp only at h
 obtain ⟨rh9, h9, h⟩ := bind_some h
 have ch9 := f86_1_p4_ok F x1 x2 x3 x4 x11 x5 _ h9
 cases rh9 with
 | c0 =>
  try dsimp only at h
  obtain ⟨x18, h18, h⟩ := bind_some h
  have ch18 := f86_1_p6_ok F x1 x2 x3 x4 x11 x5 F 0 ([(-1)] : List Int) _ h18
  try dsimp only at h
  obtain rfl := sI h
  exact callOK cxOK cxW Try.func86 (by kernel_rfl) (f86_1_e0 x1 x2 x3 x4 x5 x11 x18) ⟨ch6, ch9, ch18, (Nat.le_of_eq (Nat.zero_add _)), trivial⟩
 | c1 =>
  try dsimp only at h
  obtain ⟨x29, h35, h⟩ := bind_some h
  have ch35 := f86_1_p6_1_ok F x1 x2 x3 x4 x11 x5 F 0 ([] : List Int) _ h35
  try dsimp only at h
  obtain rfl := sI h
  exact callOK cxOK cxW Try.func86 (by kernel_rfl) (f86_1_e1 x1 x2 x3 x4 x5 x11 x29) ⟨ch6, ch9, ch35, (Nat.le_of_eq (Nat.zero_add _)), trivial⟩

theorem f90_1_p8_3_ok (F : Nat) (x1 : LL) (x2 x3 : Nat) (x4 x31 : LI) (x30 x33 : Int) (x37 : Bool) (x5 : LI) (r : (List Int)) (h : f90_1_p8_3 F x1 x2 x3 x4 x31 x30 x33 x37 x5 = some r) : f90_1_p8_3_P x1 x2 x3 x4 x31 x30 x33 x37 x5 r := by
 unfold f90_1_p8_3 at h
 by_cases h38 : x37 = true
 ·rw [if_pos h38] at h
  obtain rfl := sI h
  exact gRun_ok cxOK (f90_1_p8_3_e0 x1 x2 x3 x4 x5 x30 x31 x33 x37) ⟨(by rw [h38]; rfl), trivial⟩
 ·rw [if_neg h38] at h
  have h38 := eF h38
  obtain ⟨h39, h⟩ := req_some h
  obtain rfl := sI h
  exact gRun_ok cxOK (f90_1_p8_3_e1 x1 x2 x3 x4 x5 x30 x31 x33 x37) ⟨(by rw [h38]; rfl), h39, rfl, trivial⟩
theorem f90_1_p8_4_ok (F : Nat) (x1 : LL) (x2 x3 : Nat) (x4 x31 : LI) (x39 : Bool) (x30 x33 : Int) (x41 : Bool) (x5 : LI) (r : (List Int)) (h : f90_1_p8_4 F x1 x2 x3 x4 x31 x39 x30 x33 x41 x5 = some r) : f90_1_p8_4_P x1 x2 x3 x4 x31 x39 x30 x33 x41 x5 r := by
 unfold f90_1_p8_4 at h
 by_cases h45 : x41 = true
 ·rw [if_pos h45] at h
  obtain rfl := sI h
  exact gRun_ok cxOK (f90_1_p8_4_e0 x1 x2 x3 x4 x5 x30 x31 x33 x39 x41) ⟨(by rw [h45]; rfl), trivial⟩
 ·rw [if_neg h45] at h
  have h45 := eF h45
  obtain ⟨h46, h⟩ := req_some h
  obtain rfl := sI h
  exact gRun_ok cxOK (f90_1_p8_4_e1 x1 x2 x3 x4 x5 x30 x31 x33 x39 x41) ⟨(by rw [h45]; rfl), h46, rfl, trivial⟩
theorem f90_1_p5_1_ok (F : Nat) (x1 : LL) (x2 x3 : Nat) (x4 : LI) (x30 : Int) (x5 : LI) : ∀ (k : Nat) (x32 : Bool) (x33 : Int) (x31 : LI) (r : Bool × (List Int)), f90_1_p5_1 F x1 x2 x3 x4 x30 x5 k x32 x33 x31 = some r → f90_1_p5_1_P x1 x2 x3 x4 x30 x5 x32 x33 x31 r
 | 0, _, _, _, _, h => by cases h
 | k + 1, x32, x33, x31, r, h => by
  unfold f90_1_p5_1 at h
  by_cases h31 : (decide (x33 < ((List.length x4 : Nat) : Int))) = true
  ·rw [if_pos h31] at h
   obtain ⟨x34, h32, h⟩ := bind_some h
   try dsimp only at h
   obtain ⟨x35, h33, h⟩ := bind_some h
   have ch33 := f86_1_ok F x1 x2 x3 x34 x5 _ h33
   try dsimp only at h
   by_cases h34 : x32 = true
   ·rw [if_pos h34] at h
    obtain ⟨x36, h35, h⟩ := bind_some h
    have ch35 := f74_ok F x35 x30 _ h35
    try dsimp only at h
    by_cases h36 : x36 = true
    ·rw [if_pos h36] at h
     obtain ⟨x37, h37, h⟩ := bind_some h
     have ch37 := f74_ok F (List.drop 0 (List.take (0 + (List.length x31)) x31)) x30 _ h37
     try dsimp only at h
     obtain ⟨x38, h40, h⟩ := bind_some h
     have ch40 := f90_1_p8_3_ok F x1 x2 x3 x4 x31 x30 x33 x37 x5 _ h40
     try dsimp only at h
     exact Lp.again (gRun_ok cxOK (f90_1_p5_1_e0 x1 x2 x3 x4 x5 x30 x31 x32 x33 x34 x35 x36 x37 x38) ⟨h31, ⟨(at?_spec h32).1, x34, (at?_spec h32).2, rfl⟩, ch33, h34, h34, h34, ch35, h36, h36, h36, ch37, (Nat.le_of_eq (Nat.zero_add _)), h36, h36, ch40, trivial⟩) (f90_1_p5_1_ok F x1 x2 x3 x4 x30 x5 k true (w64 (x33 + 1)) x38 r h)
    ·rw [if_neg h36] at h
     have h36 := eF h36
     exact Lp.again (gRun_ok cxOK (f90_1_p5_1_e1 x1 x2 x3 x4 x5 x30 x31 x32 x33 x34 x35 x36) ⟨h31, ⟨(at?_spec h32).1, x34, (at?_spec h32).2, rfl⟩, ch33, h34, h34, h34, ch35, h36, h36, h36, h36, h36, rfl, trivial⟩) (f90_1_p5_1_ok F x1 x2 x3 x4 x30 x5 k true (w64 (x33 + 1)) x31 r h)
   ·rw [if_neg h34] at h
    have h34 := eF h34
    obtain ⟨x39, h41, h⟩ := bind_some h
    have ch41 := f74_ok F x35 (-1) _ h41
    try dsimp only at h
    obtain ⟨x40, h42, h⟩ := bind_some h
    have ch42 := f74_ok F x35 x30 _ h42
    try dsimp only at h
    by_cases h43 : x40 = true
    ·rw [if_pos h43] at h
     obtain ⟨x41, h44, h⟩ := bind_some h
     have ch44 := f74_ok F (List.drop 0 (List.take (0 + (List.length x31)) x31)) x30 _ h44
     try dsimp only at h
     obtain ⟨x42, h47, h⟩ := bind_some h
     have ch47 := f90_1_p8_4_ok F x1 x2 x3 x4 x31 x39 x30 x33 x41 x5 _ h47
     try dsimp only at h
     exact Lp.again (gRun_ok cxOK (f90_1_p5_1_e2 x1 x2 x3 x4 x5 x30 x31 x32 x33 x34 x35 x39 x40 x41 x42) ⟨h31, ⟨(at?_spec h32).1, x34, (at?_spec h32).2, rfl⟩, ch33, h34, h34, ch41, h34, ch42, h43, h43, h43, ch44, (Nat.le_of_eq (Nat.zero_add _)), h43, h43, ch47, trivial⟩) (f90_1_p5_1_ok F x1 x2 x3 x4 x30 x5 k x39 (w64 (x33 + 1)) x42 r h)
    ·rw [if_neg h43] at h
     have h43 := eF h43
     exact Lp.again (gRun_ok cxOK (f90_1_p5_1_e3 x1 x2 x3 x4 x5 x30 x31 x32 x33 x34 x35 x39 x40) ⟨h31, ⟨(at?_spec h32).1, x34, (at?_spec h32).2, rfl⟩, ch33, h34, h34, ch41, h34, ch42, h43, h43, h43, h43, h43, rfl, trivial⟩) (f90_1_p5_1_ok F x1 x2 x3 x4 x30 x5 k x39 (w64 (x33 + 1)) x31 r h)
  ·rw [if_neg h31] at h
   have h31 := eF h31
   obtain rfl := sI h
   exact Lp.out (gRun_ok cxOK (f90_1_p5_1_e4 x1 x2 x3 x4 x5 x30 x31 x32 x33) ⟨h31, trivial⟩) (by intro hh; cases hh)
theorem f90_1_p1_ok (F : Nat) (x1 : LL) (x2 x3 : Nat) (x4 x5 : LI) : ∀ (k : Nat) (x29 : Bool) (x30 : Int) (x28 : LI) (r : Bool × (List Int)), f90_1_p1 F x1 x2 x3 x4 x5 k x29 x30 x28 = some r → f90_1_p1_P x1 x2 x3 x4 x5 x29 x30 x28 r
 | 0, _, _, _, _, h => by cases h
 | k + 1, x29, x30, x28, r, h => by
  unfold f90_1_p1 at h
  by_cases h30 : (decide (x30 < ((x3 : Nat) : Int))) = true
  ·rw [if_pos h30] at h
   obtain ⟨rh48, h48, h⟩ := bind_some h
   have ch48 := f90_1_p5_1_ok F x1 x2 x3 x4 x30 x5 F x29 0 x28 _ h48
   obtain ⟨x43, x44⟩ := rh48
   try dsimp only at h
   exact Lp.again (gRun_ok cxOK (f90_1_p1_e0 x1 x2 x3 x4 x5 x28 x29 x30 x43 x44) ⟨h30, ch48, trivial⟩) (f90_1_p1_ok F x1 x2 x3 x4 x5 k x43 (w64 (x30 + 1)) x44 r h)
  ·rw [if_neg h30] at h
   have h30 := eF h30
   obtain rfl := sI h
   exact Lp.out (gRun_ok cxOK (f90_1_p1_e1 x1 x2 x3 x4 x5 x28 x29 x30) ⟨h30, trivial⟩) (by intro hh; cases hh)
theorem f90_1_ok (F : Nat) (x1 : LL) (x2 x3 : Nat) (x4 x5 : LI) (r : (List Int) × Bool) (h : f90_1 F x1 x2 x3 x4 x5 = some r) : f90_1_C x1 x2 x3 x4 x5 r := by
 unfold f90_1 at h
 obtain ⟨rh49, h49, h⟩ := bind_some h
 have ch49 := f90_1_p1_ok F x1 x2 x3 x4 x5 F false 0 ([] : List Int) _ h49
 obtain ⟨x45, x46⟩ := rh49
 try dsimp only at h
 obtain rfl := sI h
 exact callOK cxOK cxW Try.func90 (by kernel_rfl) (f90_1_e0 x1 x2 x3 x4 x5 x45 x46) ⟨ch49, (Nat.le_of_eq (Nat.zero_add _)), trivial⟩

theorem f103_1_p2_ok (F : Nat) (x1 : LL) (x2 x3 : Nat) (x4 : LI) (x5 : Int) (x6 : LI) (r : Int) (h : f103_1_p2 F x1 x2 x3 x4 x5 x6 = some r) : f103_1_p2_P x1 x2 x3 x4 x5 x6 r := by
 unfold f103_1_p2 at h
 by_cases h5 : (decide (((List.length x4 : Nat) : Int) > 0)) = true
 ·rw [if_pos h5] at h
  obtain ⟨x9, h6, h⟩ := bind_some h
  try dsimp only at h
  obtain rfl := sI h
  exact gRun_ok cxOK (f103_1_p2_e0 x1 x2 x3 x4 x5 x6 x9) ⟨h5, ⟨(at?_spec h6).1, x9, (at?_spec h6).2, rfl⟩, trivial⟩
 ·rw [if_neg h5] at h
  have h5 := eF h5
  obtain rfl := sI h
  exact gRun_ok cxOK (f103_1_p2_e1 x1 x2 x3 x4 x5 x6) ⟨h5, trivial⟩
theorem f103_1_p4_ok (F : Nat) (rec : (List (List Int)) → Nat → Nat → (List Int) → Int → (List Int) → Option f103_1_R) (hrec : ∀ (x1 : LL) (x2 x3 : Nat) (x4 : LI) (x5 : Int) (x6 : LI) (r : f103_1_R), rec x1 x2 x3 x4 x5 x6 = some r → f103_1_C x1 x2 x3 x4 x5 x6 r) (x1 : LL) (x2 x3 : Nat) (x4 : LI) (x5 : Int) (x6 : LI) : ∀ (k : Nat) (x11 : Int) (r : f103_1_p4_R), f103_1_p4 F rec x1 x2 x3 x4 x5 x6 k x11 = some r → f103_1_p4_P x1 x2 x3 x4 x5 x6 x11 r
 | 0, _, _, h => by cases h
 | k + 1, x11, r, h => by
  unfold f103_1_p4 at h
  by_cases h8 : (decide (x11 < ((List.length x1 : Nat) : Int))) = true
  ·rw [if_pos h8] at h
   obtain ⟨h11, h⟩ := req_some h
   obtain ⟨h12, h⟩ := req_some h
   obtain ⟨rh13, h13, h⟩ := bind_some h
   have ch13 := hrec x1 x2 x3 (List.drop 0 (List.take (0 + (List.length ((([] : List Int) ++ x4) ++ ([x11] : List Int)))) ((([] : List Int) ++ x4) ++ ([x11] : List Int)))) (w64 (x5 - 1)) x6 _ h13
   cases rh13 with
   | c0 =>
    try dsimp only at h
    exact Lp.again (gRun_ok cxOK (f103_1_p4_e0 x1 x2 x3 x4 x5 x6 x11) ⟨h8, h11, (.inl rfl), h12, rfl, (Nat.le_of_eq (Nat.zero_add _)), ch13, rfl, trivial⟩) (f103_1_p4_ok F rec hrec x1 x2 x3 x4 x5 x6 k (w64 (x11 + 1)) r h)
   | c1 x12 =>
    try dsimp only at h
    obtain ⟨h14, h⟩ := req_some h
    obtain rfl := sI h
    exact Lp.out (gRun_ok cxOK (f103_1_p4_e1 x1 x2 x3 x4 x5 x6 x11 x12) ⟨h8, h11, (.inl rfl), h12, rfl, (Nat.le_of_eq (Nat.zero_add _)), ch13, h14, rfl, trivial⟩) (by intro hh; cases hh)
  ·rw [if_neg h8] at h
   have h8 := eF h8
   obtain rfl := sI h
   exact Lp.out (gRun_ok cxOK (f103_1_p4_e2 x1 x2 x3 x4 x5 x6 x11) ⟨h8, trivial⟩) (by intro hh; cases hh)
theorem f103_1_b_ok (F : Nat) (rec : (List (List Int)) → Nat → Nat → (List Int) → Int → (List Int) → Option f103_1_R) (hrec : ∀ (x1 : LL) (x2 x3 : Nat) (x4 : LI) (x5 : Int) (x6 : LI) (r : f103_1_R), rec x1 x2 x3 x4 x5 x6 = some r → f103_1_C x1 x2 x3 x4 x5 x6 r) (x1 : LL) (x2 x3 : Nat) (x4 : LI) (x5 : Int) (x6 : LI) (r : f103_1_R) (h : f103_1_b F rec x1 x2 x3 x4 x5 x6 = some r) : f103_1_C x1 x2 x3 x4 x5 x6 r := by
 unfold f103_1_b at h
 by_cases h1 : (x5 == 0) = true
 ·rw [if_pos h1] at h
  obtain ⟨rh2, h2, h⟩ := bind_some h
  have ch2 := f90_1_ok F x1 x2 x3 x4 x6 _ h2
  obtain ⟨x7, x8⟩ := rh2
  try dsimp only at h
  by_cases h3 : x8 = true
  ·rw [if_pos h3] at h
   obtain rfl := sI h
   exact callOK cxOK cxW Try.func103 (by kernel_rfl) (f103_1_e0 x1 x2 x3 x4 x5 x6 x7 x8) ⟨h1, ch2, (by rw [h3]; rfl), (by rw [h3]; rfl), (by rw [h3]; rfl), (by rw [h3]; rfl), (by rw [h3]; rfl), (by rw [h3]; rfl), rfl, trivial⟩
  ·rw [if_neg h3] at h
   have h3 := eF h3
   by_cases h4 : (decide (((List.length x7 : Nat) : Int) < ((List.length x4 : Nat) : Int))) = true
   ·rw [if_pos h4] at h
    obtain rfl := sI h
    exact callOK cxOK cxW Try.func103 (by kernel_rfl) (f103_1_e1 x1 x2 x3 x4 x5 x6 x7 x8) ⟨h1, ch2, (by rw [h3]; rfl), (by rw [h3]; rfl), (by rw [h3]; rfl), (by rw [h3]; rfl), (by rw [h3]; rfl), (by rw [h3]; rfl), h4, trivial⟩
   ·rw [if_neg h4] at h
    have h4 := eF h4
    obtain rfl := sI h
    exact callOK cxOK cxW Try.func103 (by kernel_rfl) (f103_1_e2 x1 x2 x3 x4 x5 x6 x7 x8) ⟨h1, ch2, (by rw [h3]; rfl), (by rw [h3]; rfl), (by rw [h3]; rfl), (by rw [h3]; rfl), (by rw [h3]; rfl), (by rw [h3]; rfl), h4, trivial⟩
 ·rw [if_neg h1] at h
  have h1 := eF h1
  obtain ⟨x10, h7, h⟩ := bind_some h
  have ch7 := f103_1_p2_ok F x1 x2 x3 x4 x5 x6 _ h7
  try dsimp only at h
  obtain ⟨rh15, h15, h⟩ := bind_some h
  have ch15 := f103_1_p4_ok F rec hrec x1 x2 x3 x4 x5 x6 F x10 _ h15
  cases rh15 with
  | c0 x13 =>
   try dsimp only at h
   obtain rfl := sI h
   exact callOK cxOK cxW Try.func103 (by kernel_rfl) (f103_1_e3 x1 x2 x3 x4 x5 x6 x10 x13) ⟨h1, ch7, ch15, trivial⟩
  | c1 =>
   try dsimp only at h
   obtain rfl := sI h
   exact callOK cxOK cxW Try.func103 (by kernel_rfl) (f103_1_e4 x1 x2 x3 x4 x5 x6 x10) ⟨h1, ch7, ch15, trivial⟩
theorem f103_1_ok (F : Nat) : ∀ (k : Nat) (x1 : LL) (x2 x3 : Nat) (x4 : LI) (x5 : Int) (x6 : LI) (r : f103_1_R), f103_1 F k x1 x2 x3 x4 x5 x6 = some r → f103_1_C x1 x2 x3 x4 x5 x6 r
 | 0, _, _, _, _, _, _, _, h => by cases h
 | k + 1, x1, x2, x3, x4, x5, x6, r, h => f103_1_b_ok F (f103_1 F k) (f103_1_ok F k) x1 x2 x3 x4 x5 x6 r h

theorem f87_1_p1_ok (F : Nat) (x1 : LL) (x2 x3 : Nat) (x4 : LI) : ∀ (k : Nat) (x5 : Int) (r : f87_1_p1_R), f87_1_p1 F x1 x2 x3 x4 k x5 = some r → f87_1_p1_P x1 x2 x3 x4 x5 r
 | 0, _, _, h => by cases h
 | k + 1, x5, r, h => by
  unfold f87_1_p1 at h
  by_cases h1 : (decide (x5 ≤ ((List.length x1 : Nat) : Int))) = true
  ·rw [if_pos h1] at h
   by_cases h2 : (decide (((x3 : Nat) : Int) > 0)) = true
   ·rw [if_pos h2] at h
    obtain ⟨rh3, h3, h⟩ := bind_some h
    have ch3 := f103_1_ok F F x1 x2 x3 ([] : List Int) x5 x4 _ h3
    cases rh3 with
    | c0 =>
     try dsimp only at h
     exact Lp.again (gRun_ok cxOK (f87_1_p1_e0 x1 x2 x3 x4 x5) ⟨h1, h1, h1, h1, h2, ch3, rfl, trivial⟩) (f87_1_p1_ok F x1 x2 x3 x4 k (w64 (x5 + 1)) r h)
    | c1 x6 =>
     try dsimp only at h
     obtain ⟨h4, h⟩ := req_some h
     obtain rfl := sI h
     exact Lp.out (gRun_ok cxOK (f87_1_p1_e1 x1 x2 x3 x4 x5 x6) ⟨h1, h1, h1, h1, h2, ch3, h4, rfl, trivial⟩) (by intro hh; cases hh)
   ·rw [if_neg h2] at h
    have h2 := eF h2
    obtain rfl := sI h
    exact Lp.out (gRun_ok cxOK (f87_1_p1_e2 x1 x2 x3 x4 x5) ⟨h1, h1, h1, h1, h2, trivial⟩) (by intro hh; cases hh)
  ·rw [if_neg h1] at h
   have h1 := eF h1
   obtain rfl := sI h
   exact Lp.out (gRun_ok cxOK (f87_1_p1_e3 x1 x2 x3 x4 x5) ⟨h1, h1, h1, h1, rfl, trivial⟩) (by intro hh; cases hh)
theorem f87_1_ok (F : Nat) (x1 : LL) (x2 x3 : Nat) (x4 : LI) (r : f87_1_R) (h : f87_1 F x1 x2 x3 x4 = some r) : f87_1_C x1 x2 x3 x4 r := by
 unfold f87_1 at h
 obtain ⟨rh5, h5, h⟩ := bind_some h
 have ch5 := f87_1_p1_ok F x1 x2 x3 x4 F 1 _ h5
 cases rh5 with
 | c0 x7 =>
  try dsimp only at h
  obtain rfl := sI h
  exact callOK cxOK cxW Try.func87 (by kernel_rfl) (f87_1_e0 x1 x2 x3 x4 x7) ⟨ch5, trivial⟩
 | c1 =>
  try dsimp only at h
  obtain rfl := sI h
  exact callOK cxOK cxW Try.func87 (by kernel_rfl) (f87_1_e1 x1 x2 x3 x4) ⟨ch5, trivial⟩

theorem f90_2_p8_3_ok (F : Nat) (x1 : LL) (x2 x3 : Nat) (x4 : Option (List Int)) (x31 : LI) (x30 x33 : Int) (x37 : Bool) (x5 : LI) (r : (List Int)) (h : f90_2_p8_3 F x1 x2 x3 x4 x31 x30 x33 x37 x5 = some r) : f90_2_p8_3_P x1 x2 x3 x4 x31 x30 x33 x37 x5 r := by
 unfold f90_2_p8_3 at h
 by_cases h38 : x37 = true
 ·rw [if_pos h38] at h
  obtain rfl := sI h
  exact gRun_ok cxOK (f90_2_p8_3_e0 x1 x2 x3 x4 x5 x30 x31 x33 x37) ⟨(by rw [h38]; rfl), trivial⟩
 ·rw [if_neg h38] at h
  have h38 := eF h38
  obtain ⟨h39, h⟩ := req_some h
  obtain rfl := sI h
  exact gRun_ok cxOK (f90_2_p8_3_e1 x1 x2 x3 x4 x5 x30 x31 x33 x37) ⟨(by rw [h38]; rfl), h39, rfl, trivial⟩
theorem f90_2_p8_4_ok (F : Nat) (x1 : LL) (x2 x3 : Nat) (x4 : Option (List Int)) (x31 : LI) (x39 : Bool) (x30 x33 : Int) (x41 : Bool) (x5 : LI) (r : (List Int)) (h : f90_2_p8_4 F x1 x2 x3 x4 x31 x39 x30 x33 x41 x5 = some r) : f90_2_p8_4_P x1 x2 x3 x4 x31 x39 x30 x33 x41 x5 r := by
 unfold f90_2_p8_4 at h
 by_cases h45 : x41 = true
 ·rw [if_pos h45] at h
  obtain rfl := sI h
  exact gRun_ok cxOK (f90_2_p8_4_e0 x1 x2 x3 x4 x5 x30 x31 x33 x39 x41) ⟨(by rw [h45]; rfl), trivial⟩
 ·rw [if_neg h45] at h
  have h45 := eF h45
  obtain ⟨h46, h⟩ := req_some h
  obtain rfl := sI h
  exact gRun_ok cxOK (f90_2_p8_4_e1 x1 x2 x3 x4 x5 x30 x31 x33 x39 x41) ⟨(by rw [h45]; rfl), h46, rfl, trivial⟩
theorem f90_2_p5_1_ok (F : Nat) (x1 : LL) (x2 x3 : Nat) (x4 : Option (List Int)) (x30 : Int) (x5 : LI) : ∀ (k : Nat) (x32 : Bool) (x33 : Int) (x31 : LI) (r : Bool × (List Int)), f90_2_p5_1 F x1 x2 x3 x4 x30 x5 k x32 x33 x31 = some r → f90_2_p5_1_P x1 x2 x3 x4 x30 x5 x32 x33 x31 r
 | 0, _, _, _, _, h => by cases h
 | k + 1, x32, x33, x31, r, h => by
  unfold f90_2_p5_1 at h
  by_cases h31 : (decide (x33 < ((List.length ((x4).getD []) : Nat) : Int))) = true
  ·rw [if_pos h31] at h
   obtain ⟨x34, h32, h⟩ := bind_some h
   try dsimp only at h
   obtain ⟨x35, h33, h⟩ := bind_some h
   have ch33 := f86_1_ok F x1 x2 x3 x34 x5 _ h33
   try dsimp only at h
   by_cases h34 : x32 = true
   ·rw [if_pos h34] at h
    obtain ⟨x36, h35, h⟩ := bind_some h
    have ch35 := f74_ok F x35 x30 _ h35
    try dsimp only at h
    by_cases h36 : x36 = true
    ·rw [if_pos h36] at h
     obtain ⟨x37, h37, h⟩ := bind_some h
     have ch37 := f74_ok F (List.drop 0 (List.take (0 + (List.length x31)) x31)) x30 _ h37
     try dsimp only at h
     obtain ⟨x38, h40, h⟩ := bind_some h
     have ch40 := f90_2_p8_3_ok F x1 x2 x3 x4 x31 x30 x33 x37 x5 _ h40
     try dsimp only at h
     exact Lp.again (gRun_ok cxOK (f90_2_p5_1_e0 x1 x2 x3 x4 x5 x30 x31 x32 x33 x34 x35 x36 x37 x38) ⟨h31, ⟨(at?_spec h32).1, x34, (at?_spec h32).2, rfl⟩, ch33, h34, h34, h34, ch35, h36, h36, h36, ch37, (Nat.le_of_eq (Nat.zero_add _)), h36, h36, ch40, trivial⟩) (f90_2_p5_1_ok F x1 x2 x3 x4 x30 x5 k true (w64 (x33 + 1)) x38 r h)
    ·rw [if_neg h36] at h
     have h36 := eF h36
     exact Lp.again (gRun_ok cxOK (f90_2_p5_1_e1 x1 x2 x3 x4 x5 x30 x31 x32 x33 x34 x35 x36) ⟨h31, ⟨(at?_spec h32).1, x34, (at?_spec h32).2, rfl⟩, ch33, h34, h34, h34, ch35, h36, h36, h36, h36, h36, rfl, trivial⟩) (f90_2_p5_1_ok F x1 x2 x3 x4 x30 x5 k true (w64 (x33 + 1)) x31 r h)
   ·rw [if_neg h34] at h
    have h34 := eF h34
    obtain ⟨x39, h41, h⟩ := bind_some h
    have ch41 := f74_ok F x35 (-1) _ h41
    try dsimp only at h
    obtain ⟨x40, h42, h⟩ := bind_some h
    have ch42 := f74_ok F x35 x30 _ h42
    try dsimp only at h
    by_cases h43 : x40 = true
    ·rw [if_pos h43] at h
     obtain ⟨x41, h44, h⟩ := bind_some h
     have ch44 := f74_ok F (List.drop 0 (List.take (0 + (List.length x31)) x31)) x30 _ h44
     try dsimp only at h
     obtain ⟨x42, h47, h⟩ := bind_some h
     have ch47 := f90_2_p8_4_ok F x1 x2 x3 x4 x31 x39 x30 x33 x41 x5 _ h47
     try dsimp only at h
     exact Lp.again (gRun_ok cxOK (f90_2_p5_1_e2 x1 x2 x3 x4 x5 x30 x31 x32 x33 x34 x35 x39 x40 x41 x42) ⟨h31, ⟨(at?_spec h32).1, x34, (at?_spec h32).2, rfl⟩, ch33, h34, h34, ch41, h34, ch42, h43, h43, h43, ch44, (Nat.le_of_eq (Nat.zero_add _)), h43, h43, ch47, trivial⟩) (f90_2_p5_1_ok F x1 x2 x3 x4 x30 x5 k x39 (w64 (x33 + 1)) x42 r h)
    ·rw [if_neg h43] at h
     have h43 := eF h43
     exact Lp.again (gRun_ok cxOK (f90_2_p5_1_e3 x1 x2 x3 x4 x5 x30 x31 x32 x33 x34 x35 x39 x40) ⟨h31, ⟨(at?_spec h32).1, x34, (at?_spec h32).2, rfl⟩, ch33, h34, h34, ch41, h34, ch42, h43, h43, h43, h43, h43, rfl, trivial⟩) (f90_2_p5_1_ok F x1 x2 x3 x4 x30 x5 k x39 (w64 (x33 + 1)) x31 r h)
  ·rw [if_neg h31] at h
   have h31 := eF h31
   obtain rfl := sI h
   exact Lp.out (gRun_ok cxOK (f90_2_p5_1_e4 x1 x2 x3 x4 x5 x30 x31 x32 x33) ⟨h31, trivial⟩) (by intro hh; cases hh)
theorem f90_2_p1_ok (F : Nat) (x1 : LL) (x2 x3 : Nat) (x4 : Option (List Int)) (x5 : LI) : ∀ (k : Nat) (x29 : Bool) (x30 : Int) (x28 : LI) (r : Bool × (List Int)), f90_2_p1 F x1 x2 x3 x4 x5 k x29 x30 x28 = some r → f90_2_p1_P x1 x2 x3 x4 x5 x29 x30 x28 r
 | 0, _, _, _, _, h => by cases h
 | k + 1, x29, x30, x28, r, h => by
  unfold f90_2_p1 at h
  by_cases h30 : (decide (x30 < ((x3 : Nat) : Int))) = true
  ·rw [if_pos h30] at h
   obtain ⟨rh48, h48, h⟩ := bind_some h
   have ch48 := f90_2_p5_1_ok F x1 x2 x3 x4 x30 x5 F x29 0 x28 _ h48
   obtain ⟨x43, x44⟩ := rh48
   try dsimp only at h
   exact Lp.again (gRun_ok cxOK (f90_2_p1_e0 x1 x2 x3 x4 x5 x28 x29 x30 x43 x44) ⟨h30, ch48, trivial⟩) (f90_2_p1_ok F x1 x2 x3 x4 x5 k x43 (w64 (x30 + 1)) x44 r h)
  ·rw [if_neg h30] at h
   have h30 := eF h30
   obtain rfl := sI h
   exact Lp.out (gRun_ok cxOK (f90_2_p1_e1 x1 x2 x3 x4 x5 x28 x29 x30) ⟨h30, trivial⟩) (by intro hh; cases hh)
theorem f90_2_ok (F : Nat) (x1 : LL) (x2 x3 : Nat) (x4 : Option (List Int)) (x5 : LI) (r : (List Int) × Bool) (h : f90_2 F x1 x2 x3 x4 x5 = some r) : f90_2_C x1 x2 x3 x4 x5 r := by
 unfold f90_2 at h
 obtain ⟨rh49, h49, h⟩ := bind_some h
 have ch49 := f90_2_p1_ok F x1 x2 x3 x4 x5 F false 0 ([] : List Int) _ h49
 obtain ⟨x45, x46⟩ := rh49
 try dsimp only at h
 obtain rfl := sI h
 exact callOK cxOK cxW Try.func90 (by kernel_rfl) (f90_2_e0 x1 x2 x3 x4 x5 x45 x46) ⟨ch49, (Nat.le_of_eq (Nat.zero_add _)), trivial⟩

theorem f40_p6_1_ok (F : Nat) (x1 : LL) (x3 : LI) (x19 : LI) : ∀ (k : Nat) (x25 : Int) (x24 : LI) (r : (List Int)), f40_p6_1 F x1 x3 x19 k x25 x24 = some r → f40_p6_1_P x1 x3 x19 x25 x24 r
 | 0, _, _, _, h => by cases h
 | k + 1, x25, x24, r, h => by
  unfold f40_p6_1 at h
  by_cases h29 : (decide (x25 < ((List.length x19 : Nat) : Int))) = true
  ·rw [if_pos h29] at h
   obtain ⟨x26, h30, h⟩ := bind_some h
   try dsimp only at h
   obtain ⟨h31, h⟩ := req_some h
   obtain ⟨x27, h32, h⟩ := bind_some h
   try dsimp only at h
   obtain ⟨h33, h⟩ := req_some h
   exact Lp.again (gRun_ok cxOK (f40_p6_1_e0 x1 x3 x19 x24 x25 x26 x27) ⟨h29, ⟨(at?_spec h30).1, x26, (at?_spec h30).2, rfl⟩, h31, ⟨x27, h32, rfl⟩, h31, h33, trivial⟩) (f40_p6_1_ok F x1 x3 x19 k (w64 (x25 + 1)) (List.set x24 (0 + (Int.toNat x26)) (w64 (x27 + 1))) r h)
  ·rw [if_neg h29] at h
   have h29 := eF h29
   obtain rfl := sI h
   exact Lp.out (gRun_ok cxOK (f40_p6_1_e1 x1 x3 x19 x24 x25) ⟨h29, trivial⟩) (by intro hh; cases hh)
theorem f40_p2_ok (F : Nat) (x1 : LL) (x3 : LI) : ∀ (k : Nat) (x18 : Option (List Int)) (x17 : LI) (r : (List Int)), f40_p2 F x1 x3 k x18 x17 = some r → f40_p2_P x1 x3 x18 x17 r
 | 0, _, _, _, h => by cases h
 | k + 1, x18, x17, r, h => by
  unfold f40_p2 at h
  by_cases h22 : (Option.isNone x18) = true
  ·rw [if_pos h22] at h
   obtain rfl := sI h
   exact Lp.out (gRun_ok cxOK (f40_p2_e0 x1 x3 x17 x18) ⟨(by rw [h22]; rfl), trivial⟩) (by intro hh; cases hh)
  ·rw [if_neg h22] at h
   have h22 := eF h22
   obtain ⟨rh23, h23, h⟩ := bind_some h
   have ch23 := f90_2_ok F x1 0 (Int.toNat ((List.length x3 : Nat) : Int)) x18 x17 _ h23
   obtain ⟨x19, x20⟩ := rh23
   try dsimp only at h
   obtain ⟨x28, h34, h⟩ := bind_some h
   have ch34 := f40_p6_1_ok F x1 x3 x19 F 0 x17 _ h34
   try dsimp only at h
   obtain ⟨rh35, h35, h⟩ := bind_some h
   have ch35 := f87_1_ok F x1 0 (Int.toNat ((List.length x3 : Nat) : Int)) x28 _ h35
   cases rh35 with
   | c0 x29 =>
    try dsimp only at h
    obtain ⟨h36, h⟩ := req_some h
    exact Lp.again (gRun_ok cxOK (f40_p2_e1 x1 x3 x17 x18 x19 x20 x28 x29) ⟨(by rw [h22]; rfl), ch23, ch34, ch35, h36, trivial⟩) (f40_p2_ok F x1 x3 k (some x29) x28 r h)
   | c1 =>
    try dsimp only at h
    exact Lp.again (gRun_ok cxOK (f40_p2_e2 x1 x3 x17 x18 x19 x20 x28) ⟨(by rw [h22]; rfl), ch23, ch34, ch35, trivial⟩) (f40_p2_ok F x1 x3 k (none : Option (List Int)) x28 r h)
theorem f40_p6_3_ok (F : Nat) (x1 : LL) (x3 : LI) (x45 : LI) : ∀ (k : Nat) (x51 : Int) (x50 : LI) (r : (List Int)), f40_p6_3 F x1 x3 x45 k x51 x50 = some r → f40_p6_3_P x1 x3 x45 x51 x50 r
 | 0, _, _, _, h => by cases h
 | k + 1, x51, x50, r, h => by
  unfold f40_p6_3 at h
  by_cases h60 : (decide (x51 < ((List.length x45 : Nat) : Int))) = true
  ·rw [if_pos h60] at h
   obtain ⟨x52, h61, h⟩ := bind_some h
   try dsimp only at h
   obtain ⟨h62, h⟩ := req_some h
   obtain ⟨x53, h63, h⟩ := bind_some h
   try dsimp only at h
   obtain ⟨h64, h⟩ := req_some h
   exact Lp.again (gRun_ok cxOK (f40_p6_3_e0 x1 x3 x45 x50 x51 x52 x53) ⟨h60, ⟨(at?_spec h61).1, x52, (at?_spec h61).2, rfl⟩, h62, ⟨x53, h63, rfl⟩, h62, h64, trivial⟩) (f40_p6_3_ok F x1 x3 x45 k (w64 (x51 + 1)) (List.set x50 (0 + (Int.toNat x52)) (w64 (x53 + 1))) r h)
  ·rw [if_neg h60] at h
   have h60 := eF h60
   obtain rfl := sI h
   exact Lp.out (gRun_ok cxOK (f40_p6_3_e1 x1 x3 x45 x50 x51) ⟨h60, trivial⟩) (by intro hh; cases hh)
theorem f40_p2_1_ok (F : Nat) (x1 : LL) (x3 : LI) : ∀ (k : Nat) (x44 : Option (List Int)) (x43 : LI) (r : (List Int)), f40_p2_1 F x1 x3 k x44 x43 = some r → f40_p2_1_P x1 x3 x44 x43 r
 | 0, _, _, _, h => by cases h
 | k + 1, x44, x43, r, h => by
  unfold f40_p2_1 at h
  by_cases h53 : (Option.isNone x44) = true
  ·rw [if_pos h53] at h
   obtain rfl := sI h
   exact Lp.out (gRun_ok cxOK (f40_p2_1_e0 x1 x3 x43 x44) ⟨(by rw [h53]; rfl), trivial⟩) (by intro hh; cases hh)
  ·rw [if_neg h53] at h
   have h53 := eF h53
   obtain ⟨rh54, h54, h⟩ := bind_some h
   have ch54 := f90_2_ok F x1 0 (Int.toNat ((List.length x3 : Nat) : Int)) x44 x43 _ h54
   obtain ⟨x45, x46⟩ := rh54
   try dsimp only at h
   obtain ⟨x54, h65, h⟩ := bind_some h
   have ch65 := f40_p6_3_ok F x1 x3 x45 F 0 x43 _ h65
   try dsimp only at h
   obtain ⟨rh66, h66, h⟩ := bind_some h
   have ch66 := f87_1_ok F x1 0 (Int.toNat ((List.length x3 : Nat) : Int)) x54 _ h66
   cases rh66 with
   | c0 x55 =>
    try dsimp only at h
    obtain ⟨h67, h⟩ := req_some h
    exact Lp.again (gRun_ok cxOK (f40_p2_1_e1 x1 x3 x43 x44 x45 x46 x54 x55) ⟨(by rw [h53]; rfl), ch54, ch65, ch66, h67, trivial⟩) (f40_p2_1_ok F x1 x3 k (some x55) x54 r h)
   | c1 =>
    try dsimp only at h
    exact Lp.again (gRun_ok cxOK (f40_p2_1_e2 x1 x3 x43 x44 x45 x46 x54) ⟨(by rw [h53]; rfl), ch54, ch65, ch66, trivial⟩) (f40_p2_1_ok F x1 x3 k (none : Option (List Int)) x54 r h)
theorem f40_ok (F : Nat) (x1 : LL) (r : (List Int) × Int) (h : f40 F x1 = some r) : f40_C x1 r := by
 unfold f40 at h
 obtain ⟨x2, h1, h⟩ := bind_some h
 have ch1 := f25_ok F x1 _ h1
 try dsimp only at h
 by_cases h2 : (x2 != 0) = true
 ·rw [if_pos h2] at h
  obtain rfl := sI h
  exact callOK cxOK cxW Try.func40 (by kernel_rfl) (f40_e0 x1 x2) ⟨ch1, h2, trivial⟩
 ·rw [if_neg h2] at h
  have h2 := eF h2
  obtain ⟨x3, h3, h⟩ := bind_some h
  try dsimp only at h
  obtain ⟨h4, h⟩ := req_some h
  obtain ⟨rh5, h5, h⟩ := bind_some h
  have ch5 := f87_1_ok F x1 0 (Int.toNat ((List.length x3 : Nat) : Int)) (List.replicate (Int.toNat ((List.length x3 : Nat) : Int)) (0 : Int)) _ h5
  cases rh5 with
  | c0 x4 =>
   try dsimp only at h
   obtain ⟨h21, h⟩ := req_some h
   obtain ⟨x30, h37, h⟩ := bind_some h
   have ch37 := f40_p2_ok F x1 x3 F (some x4) (List.replicate (Int.toNat ((List.length x3 : Nat) : Int)) (0 : Int)) _ h37
   try dsimp only at h
   obtain ⟨h38, h⟩ := req_some h
   obtain rfl := sI h
   exact callOK cxOK cxW Try.func40 (by kernel_rfl) (f40_e1 x1 x2 x3 x4 x30) ⟨ch1, h2, ⟨(at?_spec h3).1, x3, (at?_spec h3).2, rfl⟩, h4, ch5, h21, ch37, h38, trivial⟩
  | c1 =>
   try dsimp only at h
   obtain ⟨x56, h68, h⟩ := bind_some h
   have ch68 := f40_p2_1_ok F x1 x3 F (none : Option (List Int)) (List.replicate (Int.toNat ((List.length x3 : Nat) : Int)) (0 : Int)) _ h68
   try dsimp only at h
   obtain ⟨h69, h⟩ := req_some h
   obtain rfl := sI h
   exact callOK cxOK cxW Try.func40 (by kernel_rfl) (f40_e2 x1 x2 x3 x56) ⟨ch1, h2, ⟨(at?_spec h3).1, x3, (at?_spec h3).2, rfl⟩, h4, ch5, ch68, h69, trivial⟩

theorem f42_p2_ok (F : Nat) (x1 : LL) (x5 : Int) : ∀ (k : Nat) (x12 : Int) (x11 : LI) (r : (List Int)), f42_p2 F x1 x5 k x12 x11 = some r → f42_p2_P x1 x5 x12 x11 r
 | 0, _, _, _, h => by cases h
 | k + 1, x12, x11, r, h => by
  unfold f42_p2 at h
  obtain ⟨x13, h8, h⟩ := bind_some h
  try dsimp only at h
  by_cases h9 : (decide (x12 < ((List.length x13 : Nat) : Int))) = true
  ·rw [if_pos h9] at h
   obtain ⟨rh10, h10, h⟩ := bind_some h
   have ch10 := f67_ok F x1 x12 _ h10
   obtain ⟨x14, x15, x16⟩ := rh10
   try dsimp only at h
   obtain ⟨h11, h⟩ := req_some h
   exact Lp.again (gRun_ok cxOK (f42_p2_e0 x1 x5 x11 x12 x13 x14 x15 x16) ⟨⟨(at?_spec h8).1, x13, (at?_spec h8).2, rfl⟩, h9, ch10, h11, rfl, trivial⟩) (f42_p2_ok F x1 x5 k (w64 (x12 + 1)) (x11 ++ ([(w64 (x5 - x16))] : List Int)) r h)
  ·rw [if_neg h9] at h
   have h9 := eF h9
   obtain rfl := sI h
   exact Lp.out (gRun_ok cxOK (f42_p2_e1 x1 x5 x11 x12 x13) ⟨⟨(at?_spec h8).1, x13, (at?_spec h8).2, rfl⟩, h9, trivial⟩) (by intro hh; cases hh)
theorem f42_ok (F : Nat) (x1 : LL) (r : (List Int) × Int) (h : f42 F x1 = some r) : f42_C x1 r := by
 unfold f42 at h
 obtain ⟨x2, h1, h⟩ := bind_some h
 have ch1 := f25_ok F x1 _ h1
 try dsimp only at h
 by_cases h2 : (x2 != 0) = true
 ·rw [if_pos h2] at h
  obtain rfl := sI h
  exact callOK cxOK cxW Try.func42 (by kernel_rfl) (f42_e0 x1 x2) ⟨ch1, h2, trivial⟩
 ·rw [if_neg h2] at h
  have h2 := eF h2
  obtain ⟨rh3, h3, h⟩ := bind_some h
  have ch3 := f67_ok F x1 (-1) _ h3
  obtain ⟨x3, x4, x5⟩ := rh3
  try dsimp only at h
  obtain ⟨x17, h12, h⟩ := bind_some h
  have ch12 := f42_p2_ok F x1 x5 F 0 ([] : List Int) _ h12
  try dsimp only at h
  obtain rfl := sI h
  exact callOK cxOK cxW Try.func42 (by kernel_rfl) (f42_e1 x1 x2 x3 x4 x5 x17) ⟨ch1, h2, ch3, ch12, (Nat.le_of_eq (Nat.zero_add _)), trivial⟩

theorem f6_ok (F : Nat) (x1 : LL) (r : Bool) (h : f6 F x1 = some r) : f6_C x1 r := by
 unfold f6 at h
 obtain ⟨x2, h1, h⟩ := bind_some h
 have ch1 := f15_ok F x1 _ h1
 try dsimp only at h
 by_cases h2 : x2 = true
 ·rw [if_pos h2] at h
  obtain ⟨x3, h3, h⟩ := bind_some h
  have ch3 := f16_ok F _ h3
  try dsimp only at h
  obtain rfl := sI h
  exact callOK cxOK cxW Try.func6 (by kernel_rfl) (f6_e0 x1 x2 x3) ⟨ch1, h2, ch3, trivial⟩
 ·rw [if_neg h2] at h
  have h2 := eF h2
  obtain ⟨rh4, h4, h⟩ := bind_some h
  have ch4 := f39_ok F x1 _ h4
  obtain ⟨x4, x5⟩ := rh4
  try dsimp only at h
  obtain ⟨rh5, h5, h⟩ := bind_some h
  have ch5 := f40_ok F x1 _ h5
  obtain ⟨x6, x7⟩ := rh5
  try dsimp only at h
  obtain ⟨rh6, h6, h⟩ := bind_some h
  have ch6 := f41_ok F x1 _ h6
  obtain ⟨x8, x9⟩ := rh6
  try dsimp only at h
  obtain ⟨rh7, h7, h⟩ := bind_some h
  have ch7 := f42_ok F x1 _ h7
  obtain ⟨x10, x11⟩ := rh7
  try dsimp only at h
  obtain ⟨x12, h8, h⟩ := bind_some h
  have ch8 := f23_ok F x4 x6 _ h8
  try dsimp only at h
  by_cases h9 : x12 = true
  ·rw [if_pos h9] at h
   by_cases h10 : (x5 == x7) = true
   ·rw [if_pos h10] at h
    obtain ⟨x13, h11, h⟩ := bind_some h
    have ch11 := f23_ok F x8 x10 _ h11
    try dsimp only at h
    by_cases h12 : x13 = true
    ·rw [if_pos h12] at h
     by_cases h13 : (x9 == x11) = true
     ·rw [if_pos h13] at h
      obtain ⟨x14, h14, h⟩ := bind_some h
      have ch14 := f16_ok F _ h14
      try dsimp only at h
      obtain rfl := sI h
      exact callOK cxOK cxW Try.func6 (by kernel_rfl) (f6_e1 x1 x2 x4 x5 x6 x7 x8 x9 x10 x11 x12 x13 x14) ⟨ch1, h2, ch4, ch5, ch6, ch7, ch8, h9, h9, h9, h9, h10, h10, h10, ch11, h10, h12, h12, h12, h12, h13, ch14, h13, trivial⟩
     ·rw [if_neg h13] at h
      have h13 := eF h13
      cases h
    ·rw [if_neg h12] at h
     have h12 := eF h12
     cases h
   ·rw [if_neg h10] at h
    have h10 := eF h10
    cases h
  ·rw [if_neg h9] at h
   have h9 := eF h9
   cases h

end Go.Gh.Sale
