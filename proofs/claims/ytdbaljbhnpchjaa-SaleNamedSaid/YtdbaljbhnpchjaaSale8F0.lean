/- Sale8F0: printed by wip/tool/gx.py -/
import Derived.Test.YtdbaljbhnpchjaaSale8E0
import Derived.Test.YtdbaljbhnpchjaaSale8E1
namespace Go.Gh.Sale
set_option linter.unusedVariables false
set_option linter.unusedSimpArgs false
open Go.Proofs

theorem f45_ok (F : Nat) (x1 : LI) (r : (List Int)) (h : f45 F x1 = some r) : f45_C x1 r := by
 unfold f45 at h
 obtain rfl := sI h
 exact callOK cxOK cxW Try.func45 (by kernel_rfl) (f45_e0 x1) trivial

theorem f46_ok (F : Nat) (x1 : LL) (r : (List (List Int))) (h : f46 F x1 = some r) : f46_C x1 r := by
 unfold f46 at h
 obtain rfl := sI h
 exact callOK cxOK cxW Try.func46 (by kernel_rfl) (f46_e0 x1) trivial

theorem f44_ok (F : Nat) (r : (List (List Int))) (h : f44 F = some r) : f44_C r := by
 unfold f44 at h
 obtain ⟨x1, h1, h⟩ := bind_some h
 have ch1 := f45_ok F ([9, 5] : List Int) _ h1
 try dsimp only at h
 obtain ⟨x2, h2, h⟩ := bind_some h
 have ch2 := f45_ok F ([8, 3] : List Int) _ h2
 try dsimp only at h
 obtain ⟨x3, h3, h⟩ := bind_some h
 have ch3 := f45_ok F ([4, 4] : List Int) _ h3
 try dsimp only at h
 obtain ⟨x4, h4, h⟩ := bind_some h
 have ch4 := f46_ok F ([x1, x2, x3] : List (List Int)) _ h4
 try dsimp only at h
 obtain rfl := sI h
 exact callOK cxOK cxW Try.func44 (by kernel_rfl) (f44_e0 x1 x2 x3 x4) ⟨ch1, ch2, ch3, ch4, trivial⟩

theorem f70_ok (F : Nat) (x1 x2 x3 : Int) (r : Bool) (h : f70 F x1 x2 x3 = some r) : f70_C x1 x2 x3 r := by
 unfold f70 at h
 by_cases h1 : (decide (x1 ≤ x2)) = true
 ·rw [if_pos h1] at h
  obtain rfl := sI h
  exact callOK cxOK cxW Try.func70 (by kernel_rfl) (f70_e0 x1 x2 x3) ⟨h1, h1, h1, h1, trivial⟩
 ·rw [if_neg h1] at h
  have h1 := eF h1
  obtain rfl := sI h
  exact callOK cxOK cxW Try.func70 (by kernel_rfl) (f70_e1 x1 x2 x3) ⟨h1, h1, h1, h1, trivial⟩

theorem f102_ok (F : Nat) (x1 : Int) (r : Bool) (h : f102 F x1 = some r) : f102_C x1 r := by
 unfold f102 at h
 obtain ⟨x2, h1, h⟩ := bind_some h
 have ch1 := f70_ok F 0 x1 99 _ h1
 try dsimp only at h
 obtain rfl := sI h
 exact callOK cxOK cxW Try.func102 (by kernel_rfl) (f102_e0 x1 x2) ⟨ch1, trivial⟩

theorem f107_p1_ok (F : Nat) (x1 : LI) : ∀ (k : Nat) (x2 : Int) (r : f107_p1_R), f107_p1 F x1 k x2 = some r → f107_p1_P x1 x2 r
 | 0, _, _, h => by cases h
 | k + 1, x2, r, h => by
  unfold f107_p1 at h
  by_cases h1 : (decide (x2 < ((List.length x1 : Nat) : Int))) = true
  ·rw [if_pos h1] at h
   obtain ⟨x3, h2, h⟩ := bind_some h
   try dsimp only at h
   obtain ⟨x4, h3, h⟩ := bind_some h
   have ch3 := f102_ok F x3 _ h3
   try dsimp only at h
   by_cases h4 : x4 = true
   ·rw [if_pos h4] at h
    obtain rfl := sI h
    exact Lp.out (gRun_ok cxOK (f107_p1_e0 x1 x2 x3 x4) ⟨h1, ⟨(at?_spec h2).1, x3, (at?_spec h2).2, rfl⟩, ch3, h4, trivial⟩) (by intro hh; cases hh)
   ·rw [if_neg h4] at h
    have h4 := eF h4
    exact Lp.again (gRun_ok cxOK (f107_p1_e1 x1 x2 x3 x4) ⟨h1, ⟨(at?_spec h2).1, x3, (at?_spec h2).2, rfl⟩, ch3, h4, trivial⟩) (f107_p1_ok F x1 k (w64 (x2 + 1)) r h)
  ·rw [if_neg h1] at h
   have h1 := eF h1
   obtain rfl := sI h
   exact Lp.out (gRun_ok cxOK (f107_p1_e2 x1 x2) ⟨h1, trivial⟩) (by intro hh; cases hh)
theorem f107_ok (F : Nat) (x1 : LI) (r : Int) (h : f107 F x1 = some r) : f107_C x1 r := by
 unfold f107 at h
 obtain ⟨rh5, h5, h⟩ := bind_some h
 have ch5 := f107_p1_ok F x1 F 0 _ h5
 cases rh5 with
 | c0 x5 =>
  try dsimp only at h
  obtain rfl := sI h
  exact callOK cxOK cxW Try.func107 (by kernel_rfl) (f107_e0 x1 x5) ⟨ch5, trivial⟩
 | c1 =>
  try dsimp only at h
  obtain rfl := sI h
  exact callOK cxOK cxW Try.func107 (by kernel_rfl) (f107_e1 x1) ⟨ch5, trivial⟩

theorem f101_ok (F : Nat) (x1 : LI) (r : Bool) (h : f101 F x1 = some r) : f101_C x1 r := by
 unfold f101 at h
 obtain ⟨x2, h1, h⟩ := bind_some h
 have ch1 := f107_ok F x1 _ h1
 try dsimp only at h
 obtain rfl := sI h
 exact callOK cxOK cxW Try.func101 (by kernel_rfl) (f101_e0 x1 x2) ⟨ch1, trivial⟩

theorem f76_ok (F : Nat) (x1 : LI) (x2 : Int) (r : Int) (h : f76 F x1 x2 = some r) : f76_C x1 x2 r := by
 unfold f76 at h
 by_cases h1 : (((List.length x1 : Nat) : Int) != x2) = true
 ·rw [if_pos h1] at h
  obtain rfl := sI h
  exact callOK cxOK cxW Try.func76 (by kernel_rfl) (f76_e0 x1 x2) ⟨h1, trivial⟩
 ·rw [if_neg h1] at h
  have h1 := eF h1
  obtain ⟨x3, h2, h⟩ := bind_some h
  have ch2 := f101_ok F x1 _ h2
  try dsimp only at h
  by_cases h3 : x3 = true
  ·rw [if_pos h3] at h
   obtain rfl := sI h
   exact callOK cxOK cxW Try.func76 (by kernel_rfl) (f76_e1 x1 x2 x3) ⟨h1, ch2, h3, trivial⟩
  ·rw [if_neg h3] at h
   have h3 := eF h3
   obtain rfl := sI h
   exact callOK cxOK cxW Try.func76 (by kernel_rfl) (f76_e2 x1 x2 x3) ⟨h1, ch2, h3, trivial⟩

theorem f24_p4_ok (F : Nat) (x1 : LL) : ∀ (k : Nat) (x3 : Int) (r : f24_p4_R), f24_p4 F x1 k x3 = some r → f24_p4_P x1 x3 r
 | 0, _, _, h => by cases h
 | k + 1, x3, r, h => by
  unfold f24_p4 at h
  by_cases h5 : (decide (x3 < ((List.length x1 : Nat) : Int))) = true
  ·rw [if_pos h5] at h
   obtain ⟨x4, h6, h⟩ := bind_some h
   try dsimp only at h
   obtain ⟨x5, h7, h⟩ := bind_some h
   try dsimp only at h
   obtain ⟨x6, h8, h⟩ := bind_some h
   have ch8 := f76_ok F x4 ((List.length x5 : Nat) : Int) _ h8
   try dsimp only at h
   by_cases h9 : (x6 != 0) = true
   ·rw [if_pos h9] at h
    obtain rfl := sI h
    exact Lp.out (gRun_ok cxOK (f24_p4_e0 x1 x3 x4 x5 x6) ⟨h5, ⟨(at?_spec h6).1, x4, (at?_spec h6).2, rfl⟩, ⟨(at?_spec h7).1, x5, (at?_spec h7).2, rfl⟩, ch8, h9, trivial⟩) (by intro hh; cases hh)
   ·rw [if_neg h9] at h
    have h9 := eF h9
    exact Lp.again (gRun_ok cxOK (f24_p4_e1 x1 x3 x4 x5 x6) ⟨h5, ⟨(at?_spec h6).1, x4, (at?_spec h6).2, rfl⟩, ⟨(at?_spec h7).1, x5, (at?_spec h7).2, rfl⟩, ch8, h9, trivial⟩) (f24_p4_ok F x1 k (w64 (x3 + 1)) r h)
  ·rw [if_neg h5] at h
   have h5 := eF h5
   obtain rfl := sI h
   exact Lp.out (gRun_ok cxOK (f24_p4_e2 x1 x3) ⟨h5, trivial⟩) (by intro hh; cases hh)
theorem f24_ok (F : Nat) (x1 : LL) (r : Int) (h : f24 F x1 = some r) : f24_C x1 r := by
 unfold f24 at h
 by_cases h1 : (((List.length x1 : Nat) : Int) == 0) = true
 ·rw [if_pos h1] at h
  obtain rfl := sI h
  exact callOK cxOK cxW Try.func24 (by kernel_rfl) (f24_e0 x1) ⟨h1, trivial⟩
 ·rw [if_neg h1] at h
  have h1 := eF h1
  by_cases h2 : (decide (((List.length x1 : Nat) : Int) > 5)) = true
  ·rw [if_pos h2] at h
   obtain rfl := sI h
   exact callOK cxOK cxW Try.func24 (by kernel_rfl) (f24_e1 x1) ⟨h1, h2, h2, h2, h2, h2, h2, rfl, trivial⟩
  ·rw [if_neg h2] at h
   have h2 := eF h2
   obtain ⟨x2, h3, h⟩ := bind_some h
   try dsimp only at h
   by_cases h4 : (decide (((List.length x2 : Nat) : Int) > 5)) = true
   ·rw [if_pos h4] at h
    obtain rfl := sI h
    exact callOK cxOK cxW Try.func24 (by kernel_rfl) (f24_e2 x1 x2) ⟨h1, h2, h2, ⟨(at?_spec h3).1, x2, (at?_spec h3).2, rfl⟩, h2, h2, h2, h2, h4, trivial⟩
   ·rw [if_neg h4] at h
    have h4 := eF h4
    obtain ⟨rh10, h10, h⟩ := bind_some h
    have ch10 := f24_p4_ok F x1 F 0 _ h10
    cases rh10 with
    | c0 x7 =>
     try dsimp only at h
     obtain rfl := sI h
     exact callOK cxOK cxW Try.func24 (by kernel_rfl) (f24_e3 x1 x2 x7) ⟨h1, h2, h2, ⟨(at?_spec h3).1, x2, (at?_spec h3).2, rfl⟩, h2, h2, h2, h2, h4, ch10, trivial⟩
    | c1 =>
     try dsimp only at h
     obtain rfl := sI h
     exact callOK cxOK cxW Try.func24 (by kernel_rfl) (f24_e4 x1 x2) ⟨h1, h2, h2, ⟨(at?_spec h3).1, x2, (at?_spec h3).2, rfl⟩, h2, h2, h2, h2, h4, ch10, trivial⟩

theorem f65_ok (F : Nat) (x1 : LL) (r : f65_R) (h : f65 F x1 = some r) : f65_C x1 r := by
 unfold f65 at h
 obtain ⟨x2, h1, h⟩ := bind_some h
 have ch1 := f24_ok F x1 _ h1
 try dsimp only at h
 by_cases h2 : (x2 != 0) = true
 ·rw [if_pos h2] at h
  obtain rfl := sI h
  exact callOK cxOK cxW Try.func65 (by kernel_rfl) (f65_e0 x1 x2) ⟨ch1, h2, trivial⟩
 ·rw [if_neg h2] at h
  have h2 := eF h2
  obtain ⟨x3, h3, h⟩ := bind_some h
  try dsimp only at h
  obtain rfl := sI h
  exact callOK cxOK cxW Try.func65 (by kernel_rfl) (f65_e1 x1 x2 x3) ⟨ch1, h2, ⟨(at?_spec h3).1, x3, (at?_spec h3).2, rfl⟩, trivial⟩

theorem f69_ok (F : Nat) (x1 : Mm) (x2 : LL) (x3 : Int) (r : Int) (h : f69 F x1 x2 x3 = some r) : f69_C x1 x2 x3 r := by
 unfold f69 at h
 obtain ⟨h1, h⟩ := req_some h
 obtain rfl := sI h
 exact callOK cxOK cxW Try.func69 (by kernel_rfl) (f69_e0 x1 x2 x3) ⟨h1, trivial⟩

theorem f71_ok (F : Nat) (x1 x2 : Int) (r : Int × Bool) (h : f71 F x1 x2 = some r) : f71_C x1 x2 r := by
 unfold f71 at h
 by_cases h1 : (decide (x2 < 0)) = true
 ·rw [if_pos h1] at h
  obtain rfl := sI h
  exact callOK cxOK cxW Try.func71 (by kernel_rfl) (f71_e0 x1 x2) ⟨h1, trivial⟩
 ·rw [if_neg h1] at h
  have h1 := eF h1
  obtain ⟨h2, h⟩ := req_some h
  obtain rfl := sI h
  exact callOK cxOK cxW Try.func71 (by kernel_rfl) (f71_e1 x1 x2) ⟨h1, h2, h2, trivial⟩

theorem f72_ok (F : Nat) (x1 x2 : Int) (x3 : Mm) (x4 : LL) (x5 : Int) (r : Int) (h : f72 F x1 x2 x3 x4 x5 = some r) : f72_C x1 x2 x3 x4 x5 r := by
 unfold f72 at h
 by_cases h1 : (decide (x2 < 0)) = true
 ·rw [if_pos h1] at h
  obtain rfl := sI h
  exact callOK cxOK cxW Try.func72 (by kernel_rfl) (f72_e0 x1 x2 x3 x4 x5) ⟨h1, trivial⟩
 ·rw [if_neg h1] at h
  have h1 := eF h1
  obtain ⟨x6, h2, h⟩ := bind_some h
  try dsimp only at h
  obtain ⟨x7, h3, h⟩ := bind_some h
  try dsimp only at h
  obtain rfl := sI h
  exact callOK cxOK cxW Try.func72 (by kernel_rfl) (f72_e1 x1 x2 x3 x4 x5 x6 x7) ⟨h1, ⟨(at?_spec h2).1, x6, (at?_spec h2).2, rfl⟩, ⟨(at?_spec h3).1, x7, (at?_spec h3).2, rfl⟩, trivial⟩

theorem f68_p9_1_ok (F : Nat) (x17 x23 : Int) (x26 x19 : Int) (x25 : Mm) (x5 : LL) (x6 x1 : Int) (x2 x3 : Int) (x20 x24 : Int) (r : Int) (h : f68_p9_1 F x17 x23 x26 x19 x25 x5 x6 x1 x2 x3 x20 x24 = some r) : f68_p9_1_P x17 x23 x26 x19 x25 x5 x6 x1 x2 x3 x20 x24 r := by
 unfold f68_p9_1 at h
 by_cases h22 : ((w64 (x23 + x26)) == x19) = true
 ·rw [if_pos h22] at h
  obtain rfl := sI h
  exact gRun_ok cxOK (f68_p9_1_e0 x1 x2 x3 x5 x6 x17 x19 x20 x23 x24 x25 x26) ⟨h22, trivial⟩
 ·rw [if_neg h22] at h
  have h22 := eF h22
  obtain rfl := sI h
  exact gRun_ok cxOK (f68_p9_1_e1 x1 x2 x3 x5 x6 x17 x19 x20 x23 x24 x25 x26) ⟨h22, trivial⟩
theorem f68_p8_1_ok (F : Nat) (x17 x23 : Int) (x26 x19 : Int) (x25 : Mm) (x5 : LL) (x6 x1 : Int) (x2 x3 : Int) (x20 x24 : Int) (r : Int × Int) (h : f68_p8_1 F x17 x23 x26 x19 x25 x5 x6 x1 x2 x3 x20 x24 = some r) : f68_p8_1_P x17 x23 x26 x19 x25 x5 x6 x1 x2 x3 x20 x24 r := by
 unfold f68_p8_1 at h
 by_cases h21 : (decide ((w64 (x23 + x26)) > x19)) = true
 ·rw [if_pos h21] at h
  obtain rfl := sI h
  exact gRun_ok cxOK (f68_p8_1_e0 x1 x2 x3 x5 x6 x17 x19 x20 x23 x24 x25 x26) ⟨h21, trivial⟩
 ·rw [if_neg h21] at h
  have h21 := eF h21
  obtain ⟨x27, h23, h⟩ := bind_some h
  have ch23 := f68_p9_1_ok F x17 x23 x26 x19 x25 x5 x6 x1 x2 x3 x20 x24 _ h23
  try dsimp only at h
  obtain rfl := sI h
  exact gRun_ok cxOK (f68_p8_1_e1 x1 x2 x3 x5 x6 x17 x19 x20 x23 x24 x25 x26 x27) ⟨h21, ch23, trivial⟩
theorem f68_p9_2_ok (F : Nat) (x17 x30 : Int) (x33 x19 : Int) (x32 : Mm) (x5 : LL) (x6 x1 : Int) (x2 x3 : Int) (x20 x31 : Int) (r : Int) (h : f68_p9_2 F x17 x30 x33 x19 x32 x5 x6 x1 x2 x3 x20 x31 = some r) : f68_p9_2_P x17 x30 x33 x19 x32 x5 x6 x1 x2 x3 x20 x31 r := by
 unfold f68_p9_2 at h
 by_cases h28 : ((w64 (x30 + x33)) == x19) = true
 ·rw [if_pos h28] at h
  obtain rfl := sI h
  exact gRun_ok cxOK (f68_p9_2_e0 x1 x2 x3 x5 x6 x17 x19 x20 x30 x31 x32 x33) ⟨h28, trivial⟩
 ·rw [if_neg h28] at h
  have h28 := eF h28
  obtain rfl := sI h
  exact gRun_ok cxOK (f68_p9_2_e1 x1 x2 x3 x5 x6 x17 x19 x20 x30 x31 x32 x33) ⟨h28, trivial⟩
theorem f68_p8_2_ok (F : Nat) (x17 x30 : Int) (x33 x19 : Int) (x32 : Mm) (x5 : LL) (x6 x1 : Int) (x2 x3 : Int) (x20 x31 : Int) (r : Int × Int) (h : f68_p8_2 F x17 x30 x33 x19 x32 x5 x6 x1 x2 x3 x20 x31 = some r) : f68_p8_2_P x17 x30 x33 x19 x32 x5 x6 x1 x2 x3 x20 x31 r := by
 unfold f68_p8_2 at h
 by_cases h27 : (decide ((w64 (x30 + x33)) > x19)) = true
 ·rw [if_pos h27] at h
  obtain rfl := sI h
  exact gRun_ok cxOK (f68_p8_2_e0 x1 x2 x3 x5 x6 x17 x19 x20 x30 x31 x32 x33) ⟨h27, trivial⟩
 ·rw [if_neg h27] at h
  have h27 := eF h27
  obtain ⟨x34, h29, h⟩ := bind_some h
  have ch29 := f68_p9_2_ok F x17 x30 x33 x19 x32 x5 x6 x1 x2 x3 x20 x31 _ h29
  try dsimp only at h
  obtain rfl := sI h
  exact gRun_ok cxOK (f68_p8_2_e1 x1 x2 x3 x5 x6 x17 x19 x20 x30 x31 x32 x33 x34) ⟨h27, ch29, trivial⟩
theorem f68_p3_ok (F : Nat) (rec : Int → Int → Int → Mm → (List (List Int)) → Int → Option (Int × Int × Mm)) (hrec : ∀ (x1 x2 x3 : Int) (x4 : Mm) (x5 : LL) (x6 : Int) (r : Int × Int × Mm), rec x1 x2 x3 x4 x5 x6 = some r → f68_C x1 x2 x3 x4 x5 x6 r) (x5 : LL) (x6 x1 : Int) (x2 x3 : Int) : ∀ (k : Nat) (x17 : Int) (x18 : Mm) (x19 x20 : Int) (r : Mm × Int × Int), f68_p3 F rec x5 x6 x1 x2 x3 k x17 x18 x19 x20 = some r → f68_p3_P x5 x6 x1 x2 x3 x17 x18 x19 x20 r
 | 0, _, _, _, _, _, h => by cases h
 | k + 1, x17, x18, x19, x20, r, h => by
  unfold f68_p3 at h
  by_cases h14 : (decide (x17 < x6)) = true
  ·rw [if_pos h14] at h
   obtain ⟨rh15, h15, h⟩ := bind_some h
   have ch15 := f71_ok F x3 x17 _ h15
   obtain ⟨x21, x22⟩ := rh15
   try dsimp only at h
   by_cases h16 : x22 = true
   ·rw [if_pos h16] at h
    by_cases h17 : (decide (x17 ≥ 0)) = true
    ·rw [if_pos h17] at h
     by_cases h18 : (x1 == x2) = true
     ·rw [if_pos h18] at h
      exact Lp.again (gRun_ok cxOK (f68_p3_e0 x1 x2 x3 x5 x6 x17 x18 x19 x20 x21 x22) ⟨h14, ch15, (by rw [h16]; rfl), (by rw [h16]; rfl), (by rw [h16]; rfl), h17, h17, h17, h17, h17, (by rw [h16]; rfl), h17, (by rw [h16]; rfl), h18, trivial⟩) (f68_p3_ok F rec hrec x5 x6 x1 x2 x3 k (w64 (x17 + 1)) x18 x19 x20 r h)
     ·rw [if_neg h18] at h
      have h18 := eF h18
      obtain ⟨rh19, h19, h⟩ := bind_some h
      have ch19 := hrec (w64 (x1 + 1)) x2 x21 x18 x5 x6 _ h19
      obtain ⟨x23, x24, x25⟩ := rh19
      try dsimp only at h
      obtain ⟨x26, h20, h⟩ := bind_some h
      have ch20 := f72_ok F x1 x17 x25 x5 x6 _ h20
      try dsimp only at h
      obtain ⟨rh24, h24, h⟩ := bind_some h
      have ch24 := f68_p8_1_ok F x17 x23 x26 x19 x25 x5 x6 x1 x2 x3 x20 x24 _ h24
      obtain ⟨x28, x29⟩ := rh24
      try dsimp only at h
      exact Lp.again (gRun_ok cxOK (f68_p3_e1 x1 x2 x3 x5 x6 x17 x18 x19 x20 x21 x22 x23 x24 x25 x26 x28 x29) ⟨h14, ch15, (by rw [h16]; rfl), (by rw [h16]; rfl), (by rw [h16]; rfl), h17, h17, h17, h17, h17, (by rw [h16]; rfl), h17, (by rw [h16]; rfl), h18, ch19, ch20, ch24, trivial⟩) (f68_p3_ok F rec hrec x5 x6 x1 x2 x3 k (w64 (x17 + 1)) x25 x28 x29 r h)
    ·rw [if_neg h17] at h
     have h17 := eF h17
     obtain ⟨rh25, h25, h⟩ := bind_some h
     have ch25 := hrec (w64 (x1 + 1)) x2 x21 x18 x5 x6 _ h25
     obtain ⟨x30, x31, x32⟩ := rh25
     try dsimp only at h
     obtain ⟨x33, h26, h⟩ := bind_some h
     have ch26 := f72_ok F x1 x17 x32 x5 x6 _ h26
     try dsimp only at h
     obtain ⟨rh30, h30, h⟩ := bind_some h
     have ch30 := f68_p8_2_ok F x17 x30 x33 x19 x32 x5 x6 x1 x2 x3 x20 x31 _ h30
     obtain ⟨x35, x36⟩ := rh30
     try dsimp only at h
     exact Lp.again (gRun_ok cxOK (f68_p3_e2 x1 x2 x3 x5 x6 x17 x18 x19 x20 x21 x22 x30 x31 x32 x33 x35 x36) ⟨h14, ch15, (by rw [h16]; rfl), (by rw [h16]; rfl), (by rw [h16]; rfl), h17, h17, h17, h17, h17, (by rw [h16]; rfl), h17, (by rw [h16]; rfl), rfl, ch25, ch26, ch30, trivial⟩) (f68_p3_ok F rec hrec x5 x6 x1 x2 x3 k (w64 (x17 + 1)) x32 x35 x36 r h)
   ·rw [if_neg h16] at h
    have h16 := eF h16
    exact Lp.again (gRun_ok cxOK (f68_p3_e3 x1 x2 x3 x5 x6 x17 x18 x19 x20 x21 x22) ⟨h14, ch15, (by rw [h16]; rfl), (by rw [h16]; rfl), (by rw [h16]; rfl), (by rw [h16]; rfl), (by rw [h16]; rfl), rfl, trivial⟩) (f68_p3_ok F rec hrec x5 x6 x1 x2 x3 k (w64 (x17 + 1)) x18 x19 x20 r h)
  ·rw [if_neg h14] at h
   have h14 := eF h14
   obtain rfl := sI h
   exact Lp.out (gRun_ok cxOK (f68_p3_e4 x1 x2 x3 x5 x6 x17 x18 x19 x20) ⟨h14, trivial⟩) (by intro hh; cases hh)
theorem f68_b_ok (F : Nat) (rec : Int → Int → Int → Mm → (List (List Int)) → Int → Option (Int × Int × Mm)) (hrec : ∀ (x1 x2 x3 : Int) (x4 : Mm) (x5 : LL) (x6 : Int) (r : Int × Int × Mm), rec x1 x2 x3 x4 x5 x6 = some r → f68_C x1 x2 x3 x4 x5 x6 r) (x1 x2 x3 : Int) (x4 : Mm) (x5 : LL) (x6 : Int) (r : Int × Int × Mm) (h : f68_b F rec x1 x2 x3 x4 x5 x6 = some r) : f68_C x1 x2 x3 x4 x5 x6 r := by
 unfold f68_b at h
 by_cases h1 : (x1 == ((List.length x5 : Nat) : Int)) = true
 ·rw [if_pos h1] at h
  obtain rfl := sI h
  exact callOK cxOK cxW Try.func68 (by kernel_rfl) (f68_e0 x1 x2 x3 x4 x5 x6) ⟨h1, trivial⟩
 ·rw [if_neg h1] at h
  have h1 := eF h1
  by_cases h2 : (Option.isSome (mget x4 (x1, (x2, (x3, ()))))) = true
  ·rw [if_pos h2] at h
   obtain rfl := sI h
   exact callOK cxOK cxW Try.func68 (by kernel_rfl) (f68_e1 x1 x2 x3 x4 x5 x6) ⟨h1, (by kernel_rfl), h2, trivial⟩
  ·rw [if_neg h2] at h
   have h2 := eF h2
   obtain ⟨rh31, h31, h⟩ := bind_some h
   have ch31 := f68_p3_ok F rec hrec x5 x6 x1 x2 x3 F (-1) x4 (-1) 0 _ h31
   obtain ⟨x37, x38, x39⟩ := rh31
   try dsimp only at h
   obtain rfl := sI h
   exact callOK cxOK cxW Try.func68 (by kernel_rfl) (f68_e2 x1 x2 x3 x4 x5 x6 x37 x38 x39) ⟨h1, (by kernel_rfl), h2, ch31, (by kernel_rfl), trivial⟩
theorem f68_ok (F : Nat) : ∀ (k : Nat) (x1 x2 x3 : Int) (x4 : Mm) (x5 : LL) (x6 : Int) (r : Int × Int × Mm), f68 F k x1 x2 x3 x4 x5 x6 = some r → f68_C x1 x2 x3 x4 x5 x6 r
 | 0, _, _, _, _, _, _, _, h => by cases h
 | k + 1, x1, x2, x3, x4, x5, x6, r, h => f68_b_ok F (f68 F k) (f68_ok F k) x1 x2 x3 x4 x5 x6 r h

theorem f66_p5_2_ok (F : Nat) (x64 : Int) (x2 : LL) (x3 : Int) : ∀ (k : Nat) (x79 x80 : Int) (x81 : Mm) (x78 : LI) (r : Int × Mm × (List Int)), f66_p5_2 F x64 x2 x3 k x79 x80 x81 x78 = some r → f66_p5_2_P x64 x2 x3 x79 x80 x81 x78 r
 | 0, _, _, _, _, _, h => by cases h
 | k + 1, x79, x80, x81, x78, r, h => by
  unfold f66_p5_2 at h
  by_cases h47 : (decide (x80 < x3)) = true
  ·rw [if_pos h47] at h
   obtain ⟨rh48, h48, h⟩ := bind_some h
   have ch48 := f71_ok F x79 x80 _ h48
   obtain ⟨x82, x83⟩ := rh48
   try dsimp only at h
   by_cases h49 : x83 = true
   ·rw [if_pos h49] at h
    obtain ⟨rh50, h50, h⟩ := bind_some h
    have ch50 := f68_ok F F (w64 (x64 + 1)) (-1) x82 x81 x2 x3 _ h50
    obtain ⟨x84, x85, x86⟩ := rh50
    try dsimp only at h
    obtain ⟨x87, h51, h⟩ := bind_some h
    have ch51 := f72_ok F x64 x80 x86 x2 x3 _ h51
    try dsimp only at h
    obtain ⟨rh52, h52, h⟩ := bind_some h
    have ch52 := f68_ok F F x64 (-1) x79 x86 x2 x3 _ h52
    obtain ⟨x88, x89, x90⟩ := rh52
    try dsimp only at h
    by_cases h53 : ((w64 (x84 + x87)) == x88) = true
    ·rw [if_pos h53] at h
     obtain ⟨h54, h⟩ := req_some h
     obtain rfl := sI h
     exact Lp.out (gRun_ok cxOK (f66_p5_2_e0 x2 x3 x64 x78 x79 x80 x81 x82 x83 x84 x85 x86 x87 x88 x89 x90) ⟨h47, ch48, h49, h49, h49, h49, h49, h49, ch50, h49, h49, h49, h49, h49, ch51, h49, h49, h49, h49, h49, h49, ch52, h49, h49, h49, h53, h54, rfl, trivial⟩) (by intro hh; cases hh)
    ·rw [if_neg h53] at h
     have h53 := eF h53
     exact Lp.again (gRun_ok cxOK (f66_p5_2_e1 x2 x3 x64 x78 x79 x80 x81 x82 x83 x84 x85 x86 x87 x88 x89 x90) ⟨h47, ch48, h49, h49, h49, h49, h49, h49, ch50, h49, h49, h49, h49, h49, ch51, h49, h49, h49, h49, h49, h49, ch52, h49, h49, h49, h53, trivial⟩) (f66_p5_2_ok F x64 x2 x3 k x79 (w64 (x80 + 1)) x90 x78 r h)
   ·rw [if_neg h49] at h
    have h49 := eF h49
    exact Lp.again (gRun_ok cxOK (f66_p5_2_e2 x2 x3 x64 x78 x79 x80 x81 x82 x83) ⟨h47, ch48, h49, h49, h49, h49, h49, h49, h49, h49, h49, h49, h49, h49, h49, h49, h49, h49, h49, h49, h49, h49, rfl, trivial⟩) (f66_p5_2_ok F x64 x2 x3 k x79 (w64 (x80 + 1)) x81 x78 r h)
  ·rw [if_neg h47] at h
   have h47 := eF h47
   obtain rfl := sI h
   exact Lp.out (gRun_ok cxOK (f66_p5_2_e3 x2 x3 x64 x78 x79 x80 x81) ⟨h47, trivial⟩) (by intro hh; cases hh)
theorem f66_p1_ok (F : Nat) (x2 : LL) (x3 : Int) : ∀ (k : Nat) (x63 x64 : Int) (x65 : Mm) (x62 : LI) (r : Mm × (List Int)), f66_p1 F x2 x3 k x63 x64 x65 x62 = some r → f66_p1_P x2 x3 x63 x64 x65 x62 r
 | 0, _, _, _, _, _, h => by cases h
 | k + 1, x63, x64, x65, x62, r, h => by
  unfold f66_p1 at h
  by_cases h38 : (decide (x64 < ((List.length x2 : Nat) : Int))) = true
  ·rw [if_pos h38] at h
   obtain ⟨rh55, h55, h⟩ := bind_some h
   have ch55 := f66_p5_2_ok F x64 x2 x3 F x63 (-1) x65 x62 _ h55
   obtain ⟨x91, x92, x93⟩ := rh55
   try dsimp only at h
   exact Lp.again (gRun_ok cxOK (f66_p1_e0 x2 x3 x62 x63 x64 x65 x91 x92 x93) ⟨h38, ch55, trivial⟩) (f66_p1_ok F x2 x3 k x91 (w64 (x64 + 1)) x92 x93 r h)
  ·rw [if_neg h38] at h
   have h38 := eF h38
   obtain rfl := sI h
   exact Lp.out (gRun_ok cxOK (f66_p1_e1 x2 x3 x62 x63 x64 x65) ⟨h38, trivial⟩) (by intro hh; cases hh)
theorem f66_ok (F : Nat) (x1 : Mm) (x2 : LL) (x3 : Int) (r : (List Int) × Mm) (h : f66 F x1 x2 x3 = some r) : f66_C x1 x2 x3 r := by
 unfold f66 at h
 obtain ⟨x4, h1, h⟩ := bind_some h
 have ch1 := f69_ok F x1 x2 x3 _ h1
 try dsimp only at h
 obtain ⟨rh56, h56, h⟩ := bind_some h
 have ch56 := f66_p1_ok F x2 x3 F x4 0 x1 ([] : List Int) _ h56
 obtain ⟨x94, x95⟩ := rh56
 try dsimp only at h
 obtain rfl := sI h
 exact callOK cxOK cxW Try.func66 (by kernel_rfl) (f66_e0 x1 x2 x3 x4 x94 x95) ⟨ch1, ch56, (Nat.le_of_eq (Nat.zero_add _)), trivial⟩

theorem f17_ok (F : Nat) (x1 : LL) (r : (List Int) × Int) (h : f17 F x1 = some r) : f17_C x1 r := by
 unfold f17 at h
 obtain ⟨rh1, h1, h⟩ := bind_some h
 have ch1 := f65_ok F x1 _ h1
 cases rh1 with
 | c0 x2 =>
  try dsimp only at h
  by_cases h2 : (x2 != 0) = true
  ·rw [if_pos h2] at h
   obtain rfl := sI h
   exact callOK cxOK cxW Try.func17 (by kernel_rfl) (f17_e0 x1 x2) ⟨ch1, h2, trivial⟩
  ·rw [if_neg h2] at h
   have h2 := eF h2
   cases h
 | c1 x3 x4 x5 x6 =>
  try dsimp only at h
  by_cases h3 : (x3 != 0) = true
  ·rw [if_pos h3] at h
   obtain rfl := sI h
   exact callOK cxOK cxW Try.func17 (by kernel_rfl) (f17_e1 x1 x3 x4 x5 x6) ⟨ch1, h3, trivial⟩
  ·rw [if_neg h3] at h
   have h3 := eF h3
   obtain ⟨rh4, h4, h⟩ := bind_some h
   have ch4 := f66_ok F x4 x5 x6 _ h4
   obtain ⟨x7, x8⟩ := rh4
   try dsimp only at h
   obtain rfl := sI h
   exact callOK cxOK cxW Try.func17 (by kernel_rfl) (f17_e2 x1 x3 x4 x5 x6 x7 x8) ⟨ch1, h3, ch4, trivial⟩

theorem f19_ok (F : Nat) (x1 : LL) (r : Int × Int) (h : f19 F x1 = some r) : f19_C x1 r := by
 unfold f19 at h
 obtain ⟨rh1, h1, h⟩ := bind_some h
 have ch1 := f65_ok F x1 _ h1
 cases rh1 with
 | c0 x2 =>
  try dsimp only at h
  by_cases h2 : (x2 != 0) = true
  ·rw [if_pos h2] at h
   obtain rfl := sI h
   exact callOK cxOK cxW Try.func19 (by kernel_rfl) (f19_e0 x1 x2) ⟨ch1, h2, trivial⟩
  ·rw [if_neg h2] at h
   have h2 := eF h2
   cases h
 | c1 x3 x4 x5 x6 =>
  try dsimp only at h
  by_cases h3 : (x3 != 0) = true
  ·rw [if_pos h3] at h
   obtain rfl := sI h
   exact callOK cxOK cxW Try.func19 (by kernel_rfl) (f19_e1 x1 x3 x4 x5 x6) ⟨ch1, h3, trivial⟩
  ·rw [if_neg h3] at h
   have h3 := eF h3
   obtain ⟨x7, h4, h⟩ := bind_some h
   have ch4 := f69_ok F x4 x5 x6 _ h4
   try dsimp only at h
   obtain ⟨rh5, h5, h⟩ := bind_some h
   have ch5 := f68_ok F F 0 (-1) x7 x4 x5 x6 _ h5
   obtain ⟨x8, x9, x10⟩ := rh5
   try dsimp only at h
   obtain rfl := sI h
   exact callOK cxOK cxW Try.func19 (by kernel_rfl) (f19_e2 x1 x3 x4 x5 x6 x7 x8 x9 x10) ⟨ch1, h3, ch4, ch5, trivial⟩

theorem f78_ok (F : Nat) (x1 x2 : Int) (x3 : Mm) (x4 : LL) (x5 : Int) (r : Int × Mm) (h : f78 F x1 x2 x3 x4 x5 = some r) : f78_C x1 x2 x3 x4 x5 r := by
 unfold f78 at h
 obtain ⟨x6, h1, h⟩ := bind_some h
 have ch1 := f69_ok F x3 x4 x5 _ h1
 try dsimp only at h
 obtain ⟨rh2, h2, h⟩ := bind_some h
 have ch2 := f68_ok F F 0 (-1) x6 x3 x4 x5 _ h2
 obtain ⟨x7, x8, x9⟩ := rh2
 try dsimp only at h
 obtain ⟨x10, h3, h⟩ := bind_some h
 have ch3 := f72_ok F x1 x2 x9 x4 x5 _ h3
 try dsimp only at h
 obtain ⟨x11, h4, h⟩ := bind_some h
 have ch4 := f69_ok F x9 x4 x5 _ h4
 try dsimp only at h
 obtain ⟨rh5, h5, h⟩ := bind_some h
 have ch5 := f68_ok F F 0 x1 x11 x9 x4 x5 _ h5
 obtain ⟨x12, x13, x14⟩ := rh5
 try dsimp only at h
 obtain rfl := sI h
 exact callOK cxOK cxW Try.func78 (by kernel_rfl) (f78_e0 x1 x2 x3 x4 x5 x6 x7 x8 x9 x10 x11 x12 x13 x14) ⟨ch1, ch2, ch3, ch4, ch5, trivial⟩

theorem f77_p2_ok (F : Nat) (x7 : LI) (x5 : LL) (x6 : Int) : ∀ (k : Nat) (x19 : Int) (x20 : Mm) (x18 : LI) (r : (List Int)), f77_p2 F x7 x5 x6 k x19 x20 x18 = some r → f77_p2_P x7 x5 x6 x19 x20 x18 r
 | 0, _, _, _, _, h => by cases h
 | k + 1, x19, x20, x18, r, h => by
  unfold f77_p2 at h
  by_cases h13 : (decide (x19 < ((List.length x7 : Nat) : Int))) = true
  ·rw [if_pos h13] at h
   obtain ⟨x21, h14, h⟩ := bind_some h
   try dsimp only at h
   obtain ⟨rh15, h15, h⟩ := bind_some h
   have ch15 := f78_ok F x19 x21 x20 x5 x6 _ h15
   obtain ⟨x22, x23⟩ := rh15
   try dsimp only at h
   obtain ⟨h16, h⟩ := req_some h
   exact Lp.again (gRun_ok cxOK (f77_p2_e0 x5 x6 x7 x18 x19 x20 x21 x22 x23) ⟨h13, ⟨(at?_spec h14).1, x21, (at?_spec h14).2, rfl⟩, ch15, h16, rfl, trivial⟩) (f77_p2_ok F x7 x5 x6 k (w64 (x19 + 1)) x23 (x18 ++ ([x22] : List Int)) r h)
  ·rw [if_neg h13] at h
   have h13 := eF h13
   obtain rfl := sI h
   exact Lp.out (gRun_ok cxOK (f77_p2_e1 x5 x6 x7 x18 x19 x20) ⟨h13, trivial⟩) (by intro hh; cases hh)
theorem f77_ok (F : Nat) (x1 : LL) (r : (List Int) × Int) (h : f77 F x1 = some r) : f77_C x1 r := by
 unfold f77 at h
 obtain ⟨rh1, h1, h⟩ := bind_some h
 have ch1 := f65_ok F x1 _ h1
 cases rh1 with
 | c0 x2 =>
  try dsimp only at h
  by_cases h2 : (x2 != 0) = true
  ·rw [if_pos h2] at h
   obtain rfl := sI h
   exact callOK cxOK cxW Try.func77 (by kernel_rfl) (f77_e0 x1 x2) ⟨ch1, h2, trivial⟩
  ·rw [if_neg h2] at h
   have h2 := eF h2
   cases h
 | c1 x3 x4 x5 x6 =>
  try dsimp only at h
  by_cases h3 : (x3 != 0) = true
  ·rw [if_pos h3] at h
   obtain rfl := sI h
   exact callOK cxOK cxW Try.func77 (by kernel_rfl) (f77_e1 x1 x3 x4 x5 x6) ⟨ch1, h3, trivial⟩
  ·rw [if_neg h3] at h
   have h3 := eF h3
   obtain ⟨rh4, h4, h⟩ := bind_some h
   have ch4 := f66_ok F x4 x5 x6 _ h4
   obtain ⟨x7, x8⟩ := rh4
   try dsimp only at h
   obtain ⟨x24, h17, h⟩ := bind_some h
   have ch17 := f77_p2_ok F x7 x5 x6 F 0 x8 ([] : List Int) _ h17
   try dsimp only at h
   obtain rfl := sI h
   exact callOK cxOK cxW Try.func77 (by kernel_rfl) (f77_e2 x1 x3 x4 x5 x6 x7 x8 x24) ⟨ch1, h3, ch4, ch17, (Nat.le_of_eq (Nat.zero_add _)), trivial⟩

theorem f26_ok (F : Nat) (x1 : LL) (r : (List Int) × Int) (h : f26 F x1 = some r) : f26_C x1 r := by
 unfold f26 at h
 obtain ⟨rh1, h1, h⟩ := bind_some h
 have ch1 := f77_ok F x1 _ h1
 obtain ⟨x2, x3⟩ := rh1
 try dsimp only at h
 obtain rfl := sI h
 exact callOK cxOK cxW Try.func26 (by kernel_rfl) (f26_e0 x1 x2 x3) ⟨ch1, trivial⟩

theorem f80_ok (F : Nat) (x1 x2 : Int) (x3 : Mm) (x4 : LL) (x5 : Int) (r : Int × Mm) (h : f80 F x1 x2 x3 x4 x5 = some r) : f80_C x1 x2 x3 x4 x5 r := by
 unfold f80 at h
 obtain ⟨x6, h1, h⟩ := bind_some h
 have ch1 := f72_ok F x1 x2 x3 x4 x5 _ h1
 try dsimp only at h
 obtain ⟨rh2, h2, h⟩ := bind_some h
 have ch2 := f78_ok F x1 x2 x3 x4 x5 _ h2
 obtain ⟨x7, x8⟩ := rh2
 try dsimp only at h
 obtain rfl := sI h
 exact callOK cxOK cxW Try.func80 (by kernel_rfl) (f80_e0 x1 x2 x3 x4 x5 x6 x7 x8) ⟨ch1, ch2, trivial⟩

theorem f77_1_p2_ok (F : Nat) (x7 : LI) (x5 : LL) (x6 : Int) : ∀ (k : Nat) (x19 : Int) (x20 : Mm) (x18 : LI) (r : (List Int)), f77_1_p2 F x7 x5 x6 k x19 x20 x18 = some r → f77_1_p2_P x7 x5 x6 x19 x20 x18 r
 | 0, _, _, _, _, h => by cases h
 | k + 1, x19, x20, x18, r, h => by
  unfold f77_1_p2 at h
  by_cases h13 : (decide (x19 < ((List.length x7 : Nat) : Int))) = true
  ·rw [if_pos h13] at h
   obtain ⟨x21, h14, h⟩ := bind_some h
   try dsimp only at h
   obtain ⟨rh15, h15, h⟩ := bind_some h
   have ch15 := f80_ok F x19 x21 x20 x5 x6 _ h15
   obtain ⟨x22, x23⟩ := rh15
   try dsimp only at h
   obtain ⟨h16, h⟩ := req_some h
   exact Lp.again (gRun_ok cxOK (f77_1_p2_e0 x5 x6 x7 x18 x19 x20 x21 x22 x23) ⟨h13, ⟨(at?_spec h14).1, x21, (at?_spec h14).2, rfl⟩, ch15, h16, rfl, trivial⟩) (f77_1_p2_ok F x7 x5 x6 k (w64 (x19 + 1)) x23 (x18 ++ ([x22] : List Int)) r h)
  ·rw [if_neg h13] at h
   have h13 := eF h13
   obtain rfl := sI h
   exact Lp.out (gRun_ok cxOK (f77_1_p2_e1 x5 x6 x7 x18 x19 x20) ⟨h13, trivial⟩) (by intro hh; cases hh)
theorem f77_1_ok (F : Nat) (x1 : LL) (r : (List Int) × Int) (h : f77_1 F x1 = some r) : f77_1_C x1 r := by
 unfold f77_1 at h
 obtain ⟨rh1, h1, h⟩ := bind_some h
 have ch1 := f65_ok F x1 _ h1
 cases rh1 with
 | c0 x2 =>
  try dsimp only at h
  by_cases h2 : (x2 != 0) = true
  ·rw [if_pos h2] at h
   obtain rfl := sI h
   exact callOK cxOK cxW Try.func77 (by kernel_rfl) (f77_1_e0 x1 x2) ⟨ch1, h2, trivial⟩
  ·rw [if_neg h2] at h
   have h2 := eF h2
   cases h
 | c1 x3 x4 x5 x6 =>
  try dsimp only at h
  by_cases h3 : (x3 != 0) = true
  ·rw [if_pos h3] at h
   obtain rfl := sI h
   exact callOK cxOK cxW Try.func77 (by kernel_rfl) (f77_1_e1 x1 x3 x4 x5 x6) ⟨ch1, h3, trivial⟩
  ·rw [if_neg h3] at h
   have h3 := eF h3
   obtain ⟨rh4, h4, h⟩ := bind_some h
   have ch4 := f66_ok F x4 x5 x6 _ h4
   obtain ⟨x7, x8⟩ := rh4
   try dsimp only at h
   obtain ⟨x24, h17, h⟩ := bind_some h
   have ch17 := f77_1_p2_ok F x7 x5 x6 F 0 x8 ([] : List Int) _ h17
   try dsimp only at h
   obtain rfl := sI h
   exact callOK cxOK cxW Try.func77 (by kernel_rfl) (f77_1_e2 x1 x3 x4 x5 x6 x7 x8 x24) ⟨ch1, h3, ch4, ch17, (Nat.le_of_eq (Nat.zero_add _)), trivial⟩

theorem f28_ok (F : Nat) (x1 : LL) (r : (List Int) × Int) (h : f28 F x1 = some r) : f28_C x1 r := by
 unfold f28 at h
 obtain ⟨rh1, h1, h⟩ := bind_some h
 have ch1 := f77_1_ok F x1 _ h1
 obtain ⟨x2, x3⟩ := rh1
 try dsimp only at h
 obtain rfl := sI h
 exact callOK cxOK cxW Try.func28 (by kernel_rfl) (f28_e0 x1 x2 x3) ⟨ch1, trivial⟩

theorem f65_1_ok (F : Nat) (x1 : LL) (r : f65_1_R) (h : f65_1 F x1 = some r) : f65_1_C x1 r := by
 unfold f65_1 at h
 obtain ⟨x2, h1, h⟩ := bind_some h
 have ch1 := f24_ok F x1 _ h1
 try dsimp only at h
 by_cases h2 : (x2 != 0) = true
 ·rw [if_pos h2] at h
  obtain rfl := sI h
  exact callOK cxOK cxW Try.func65 (by kernel_rfl) (f65_1_e0 x1 x2) ⟨ch1, h2, trivial⟩
 ·rw [if_neg h2] at h
  have h2 := eF h2
  obtain ⟨x3, h3, h⟩ := bind_some h
  try dsimp only at h
  obtain rfl := sI h
  exact callOK cxOK cxW Try.func65 (by kernel_rfl) (f65_1_e1 x1 x2 x3) ⟨ch1, h2, ⟨(at?_spec h3).1, x3, (at?_spec h3).2, rfl⟩, trivial⟩

theorem f52_ok (F : Nat) (x1 : LL) (r : (List (List Int))) (h : f52 F x1 = some r) : f52_C x1 r := by
 unfold f52 at h
 obtain ⟨h1, h⟩ := req_some h
 obtain ⟨h2, h⟩ := req_some h
 obtain rfl := sI h
 exact callOK cxOK cxW Try.func52 (by kernel_rfl) (f52_e0 x1) ⟨h1, rfl, h2, (.inl rfl), trivial⟩

theorem f65_2_ok (F : Nat) (x1 : LL) (r : f65_2_R) (h : f65_2 F x1 = some r) : f65_2_C x1 r := by
 unfold f65_2 at h
 obtain ⟨x2, h1, h⟩ := bind_some h
 have ch1 := f24_ok F x1 _ h1
 try dsimp only at h
 by_cases h2 : (x2 != 0) = true
 ·rw [if_pos h2] at h
  obtain rfl := sI h
  exact callOK cxOK cxW Try.func65 (by kernel_rfl) (f65_2_e0 x1 x2) ⟨ch1, h2, trivial⟩
 ·rw [if_neg h2] at h
  have h2 := eF h2
  obtain ⟨x3, h3, h⟩ := bind_some h
  try dsimp only at h
  obtain rfl := sI h
  exact callOK cxOK cxW Try.func65 (by kernel_rfl) (f65_2_e1 x1 x2 x3) ⟨ch1, h2, ⟨(at?_spec h3).1, x3, (at?_spec h3).2, rfl⟩, trivial⟩

theorem f69_1_ok (F : Nat) (r : f69_1_R) (h : f69_1 F = some r) : f69_1_C r := by
 unfold f69_1 at h
 cases h

theorem f66_1_ok (F : Nat) (r : f66_1_R) (h : f66_1 F = some r) : f66_1_C r := by
 unfold f66_1 at h
 obtain ⟨rh1, h1, h⟩ := bind_some h
 have ch1 := f69_1_ok F _ h1
 exact nomatch rh1

theorem f69_2_ok (F : Nat) (x1 : Mm) (x2 : LL) (x3 : Int) (r : Int) (h : f69_2 F x1 x2 x3 = some r) : f69_2_C x1 x2 x3 r := by
 unfold f69_2 at h
 obtain ⟨h1, h⟩ := req_some h
 obtain rfl := sI h
 exact callOK cxOK cxW Try.func69 (by kernel_rfl) (f69_2_e0 x1 x2 x3) ⟨h1, trivial⟩

theorem f72_1_ok (F : Nat) (x1 x2 : Int) (x3 : Mm) (x4 : LL) (x5 : Int) (r : Int) (h : f72_1 F x1 x2 x3 x4 x5 = some r) : f72_1_C x1 x2 x3 x4 x5 r := by
 unfold f72_1 at h
 by_cases h1 : (decide (x2 < 0)) = true
 ·rw [if_pos h1] at h
  obtain rfl := sI h
  exact callOK cxOK cxW Try.func72 (by kernel_rfl) (f72_1_e0 x1 x2 x3 x4 x5) ⟨h1, trivial⟩
 ·rw [if_neg h1] at h
  have h1 := eF h1
  obtain ⟨x6, h2, h⟩ := bind_some h
  try dsimp only at h
  obtain ⟨x7, h3, h⟩ := bind_some h
  try dsimp only at h
  obtain rfl := sI h
  exact callOK cxOK cxW Try.func72 (by kernel_rfl) (f72_1_e1 x1 x2 x3 x4 x5 x6 x7) ⟨h1, ⟨(at?_spec h2).1, x6, (at?_spec h2).2, rfl⟩, ⟨(at?_spec h3).1, x7, (at?_spec h3).2, rfl⟩, trivial⟩

theorem f68_1_p9_1_ok (F : Nat) (x17 x23 : Int) (x26 x19 : Int) (x25 : Mm) (x5 : LL) (x6 x1 : Int) (x2 x3 : Int) (x20 x24 : Int) (r : Int) (h : f68_1_p9_1 F x17 x23 x26 x19 x25 x5 x6 x1 x2 x3 x20 x24 = some r) : f68_1_p9_1_P x17 x23 x26 x19 x25 x5 x6 x1 x2 x3 x20 x24 r := by
 unfold f68_1_p9_1 at h
 by_cases h22 : ((w64 (x23 + x26)) == x19) = true
 ·rw [if_pos h22] at h
  obtain rfl := sI h
  exact gRun_ok cxOK (f68_1_p9_1_e0 x1 x2 x3 x5 x6 x17 x19 x20 x23 x24 x25 x26) ⟨h22, trivial⟩
 ·rw [if_neg h22] at h
  have h22 := eF h22
  obtain rfl := sI h
  exact gRun_ok cxOK (f68_1_p9_1_e1 x1 x2 x3 x5 x6 x17 x19 x20 x23 x24 x25 x26) ⟨h22, trivial⟩
theorem f68_1_p8_1_ok (F : Nat) (x17 x23 : Int) (x26 x19 : Int) (x25 : Mm) (x5 : LL) (x6 x1 : Int) (x2 x3 : Int) (x20 x24 : Int) (r : Int × Int) (h : f68_1_p8_1 F x17 x23 x26 x19 x25 x5 x6 x1 x2 x3 x20 x24 = some r) : f68_1_p8_1_P x17 x23 x26 x19 x25 x5 x6 x1 x2 x3 x20 x24 r := by
 unfold f68_1_p8_1 at h
 by_cases h21 : (decide ((w64 (x23 + x26)) > x19)) = true
 ·rw [if_pos h21] at h
  obtain rfl := sI h
  exact gRun_ok cxOK (f68_1_p8_1_e0 x1 x2 x3 x5 x6 x17 x19 x20 x23 x24 x25 x26) ⟨h21, trivial⟩
 ·rw [if_neg h21] at h
  have h21 := eF h21
  obtain ⟨x27, h23, h⟩ := bind_some h
  have ch23 := f68_1_p9_1_ok F x17 x23 x26 x19 x25 x5 x6 x1 x2 x3 x20 x24 _ h23
  try dsimp only at h
  obtain rfl := sI h
  exact gRun_ok cxOK (f68_1_p8_1_e1 x1 x2 x3 x5 x6 x17 x19 x20 x23 x24 x25 x26 x27) ⟨h21, ch23, trivial⟩
theorem f68_1_p9_2_ok (F : Nat) (x17 x30 : Int) (x33 x19 : Int) (x32 : Mm) (x5 : LL) (x6 x1 : Int) (x2 x3 : Int) (x20 x31 : Int) (r : Int) (h : f68_1_p9_2 F x17 x30 x33 x19 x32 x5 x6 x1 x2 x3 x20 x31 = some r) : f68_1_p9_2_P x17 x30 x33 x19 x32 x5 x6 x1 x2 x3 x20 x31 r := by
 unfold f68_1_p9_2 at h
 by_cases h28 : ((w64 (x30 + x33)) == x19) = true
 ·rw [if_pos h28] at h
  obtain rfl := sI h
  exact gRun_ok cxOK (f68_1_p9_2_e0 x1 x2 x3 x5 x6 x17 x19 x20 x30 x31 x32 x33) ⟨h28, trivial⟩
 ·rw [if_neg h28] at h
  have h28 := eF h28
  obtain rfl := sI h
  exact gRun_ok cxOK (f68_1_p9_2_e1 x1 x2 x3 x5 x6 x17 x19 x20 x30 x31 x32 x33) ⟨h28, trivial⟩
theorem f68_1_p8_2_ok (F : Nat) (x17 x30 : Int) (x33 x19 : Int) (x32 : Mm) (x5 : LL) (x6 x1 : Int) (x2 x3 : Int) (x20 x31 : Int) (r : Int × Int) (h : f68_1_p8_2 F x17 x30 x33 x19 x32 x5 x6 x1 x2 x3 x20 x31 = some r) : f68_1_p8_2_P x17 x30 x33 x19 x32 x5 x6 x1 x2 x3 x20 x31 r := by
 unfold f68_1_p8_2 at h
 by_cases h27 : (decide ((w64 (x30 + x33)) > x19)) = true
 ·rw [if_pos h27] at h
  obtain rfl := sI h
  exact gRun_ok cxOK (f68_1_p8_2_e0 x1 x2 x3 x5 x6 x17 x19 x20 x30 x31 x32 x33) ⟨h27, trivial⟩
 ·rw [if_neg h27] at h
  have h27 := eF h27
  obtain ⟨x34, h29, h⟩ := bind_some h
  have ch29 := f68_1_p9_2_ok F x17 x30 x33 x19 x32 x5 x6 x1 x2 x3 x20 x31 _ h29
  try dsimp only at h
  obtain rfl := sI h
  exact gRun_ok cxOK (f68_1_p8_2_e1 x1 x2 x3 x5 x6 x17 x19 x20 x30 x31 x32 x33 x34) ⟨h27, ch29, trivial⟩
theorem f68_1_p3_ok (F : Nat) (rec : Int → Int → Int → Mm → (List (List Int)) → Int → Option (Int × Int × Mm)) (hrec : ∀ (x1 x2 x3 : Int) (x4 : Mm) (x5 : LL) (x6 : Int) (r : Int × Int × Mm), rec x1 x2 x3 x4 x5 x6 = some r → f68_1_C x1 x2 x3 x4 x5 x6 r) (x5 : LL) (x6 x1 : Int) (x2 x3 : Int) : ∀ (k : Nat) (x17 : Int) (x18 : Mm) (x19 x20 : Int) (r : Mm × Int × Int), f68_1_p3 F rec x5 x6 x1 x2 x3 k x17 x18 x19 x20 = some r → f68_1_p3_P x5 x6 x1 x2 x3 x17 x18 x19 x20 r
 | 0, _, _, _, _, _, h => by cases h
 | k + 1, x17, x18, x19, x20, r, h => by
  unfold f68_1_p3 at h
  by_cases h14 : (decide (x17 < x6)) = true
  ·rw [if_pos h14] at h
   obtain ⟨rh15, h15, h⟩ := bind_some h
   have ch15 := f71_ok F x3 x17 _ h15
   obtain ⟨x21, x22⟩ := rh15
   try dsimp only at h
   by_cases h16 : x22 = true
   ·rw [if_pos h16] at h
    by_cases h17 : (decide (x17 ≥ 0)) = true
    ·rw [if_pos h17] at h
     by_cases h18 : (x1 == x2) = true
     ·rw [if_pos h18] at h
      exact Lp.again (gRun_ok cxOK (f68_1_p3_e0 x1 x2 x3 x5 x6 x17 x18 x19 x20 x21 x22) ⟨h14, ch15, (by rw [h16]; rfl), (by rw [h16]; rfl), (by rw [h16]; rfl), h17, h17, h17, h17, h17, (by rw [h16]; rfl), h17, (by rw [h16]; rfl), h18, trivial⟩) (f68_1_p3_ok F rec hrec x5 x6 x1 x2 x3 k (w64 (x17 + 1)) x18 x19 x20 r h)
     ·rw [if_neg h18] at h
      have h18 := eF h18
      obtain ⟨rh19, h19, h⟩ := bind_some h
      have ch19 := hrec (w64 (x1 + 1)) x2 x21 x18 x5 x6 _ h19
      obtain ⟨x23, x24, x25⟩ := rh19
      try dsimp only at h
      obtain ⟨x26, h20, h⟩ := bind_some h
      have ch20 := f72_1_ok F x1 x17 x25 x5 x6 _ h20
      try dsimp only at h
      obtain ⟨rh24, h24, h⟩ := bind_some h
      have ch24 := f68_1_p8_1_ok F x17 x23 x26 x19 x25 x5 x6 x1 x2 x3 x20 x24 _ h24
      obtain ⟨x28, x29⟩ := rh24
      try dsimp only at h
      exact Lp.again (gRun_ok cxOK (f68_1_p3_e1 x1 x2 x3 x5 x6 x17 x18 x19 x20 x21 x22 x23 x24 x25 x26 x28 x29) ⟨h14, ch15, (by rw [h16]; rfl), (by rw [h16]; rfl), (by rw [h16]; rfl), h17, h17, h17, h17, h17, (by rw [h16]; rfl), h17, (by rw [h16]; rfl), h18, ch19, ch20, ch24, trivial⟩) (f68_1_p3_ok F rec hrec x5 x6 x1 x2 x3 k (w64 (x17 + 1)) x25 x28 x29 r h)
    ·rw [if_neg h17] at h
     have h17 := eF h17
     obtain ⟨rh25, h25, h⟩ := bind_some h
     have ch25 := hrec (w64 (x1 + 1)) x2 x21 x18 x5 x6 _ h25
     obtain ⟨x30, x31, x32⟩ := rh25
     try dsimp only at h
     obtain ⟨x33, h26, h⟩ := bind_some h
     have ch26 := f72_1_ok F x1 x17 x32 x5 x6 _ h26
     try dsimp only at h
     obtain ⟨rh30, h30, h⟩ := bind_some h
     have ch30 := f68_1_p8_2_ok F x17 x30 x33 x19 x32 x5 x6 x1 x2 x3 x20 x31 _ h30
     obtain ⟨x35, x36⟩ := rh30
     try dsimp only at h
     exact Lp.again (gRun_ok cxOK (f68_1_p3_e2 x1 x2 x3 x5 x6 x17 x18 x19 x20 x21 x22 x30 x31 x32 x33 x35 x36) ⟨h14, ch15, (by rw [h16]; rfl), (by rw [h16]; rfl), (by rw [h16]; rfl), h17, h17, h17, h17, h17, (by rw [h16]; rfl), h17, (by rw [h16]; rfl), rfl, ch25, ch26, ch30, trivial⟩) (f68_1_p3_ok F rec hrec x5 x6 x1 x2 x3 k (w64 (x17 + 1)) x32 x35 x36 r h)
   ·rw [if_neg h16] at h
    have h16 := eF h16
    exact Lp.again (gRun_ok cxOK (f68_1_p3_e3 x1 x2 x3 x5 x6 x17 x18 x19 x20 x21 x22) ⟨h14, ch15, (by rw [h16]; rfl), (by rw [h16]; rfl), (by rw [h16]; rfl), (by rw [h16]; rfl), (by rw [h16]; rfl), rfl, trivial⟩) (f68_1_p3_ok F rec hrec x5 x6 x1 x2 x3 k (w64 (x17 + 1)) x18 x19 x20 r h)
  ·rw [if_neg h14] at h
   have h14 := eF h14
   obtain rfl := sI h
   exact Lp.out (gRun_ok cxOK (f68_1_p3_e4 x1 x2 x3 x5 x6 x17 x18 x19 x20) ⟨h14, trivial⟩) (by intro hh; cases hh)
theorem f68_1_b_ok (F : Nat) (rec : Int → Int → Int → Mm → (List (List Int)) → Int → Option (Int × Int × Mm)) (hrec : ∀ (x1 x2 x3 : Int) (x4 : Mm) (x5 : LL) (x6 : Int) (r : Int × Int × Mm), rec x1 x2 x3 x4 x5 x6 = some r → f68_1_C x1 x2 x3 x4 x5 x6 r) (x1 x2 x3 : Int) (x4 : Mm) (x5 : LL) (x6 : Int) (r : Int × Int × Mm) (h : f68_1_b F rec x1 x2 x3 x4 x5 x6 = some r) : f68_1_C x1 x2 x3 x4 x5 x6 r := by
 unfold f68_1_b at h
 by_cases h1 : (x1 == ((List.length x5 : Nat) : Int)) = true
 ·rw [if_pos h1] at h
  obtain rfl := sI h
  exact callOK cxOK cxW Try.func68 (by kernel_rfl) (f68_1_e0 x1 x2 x3 x4 x5 x6) ⟨h1, trivial⟩
 ·rw [if_neg h1] at h
  have h1 := eF h1
  by_cases h2 : (Option.isSome (mget x4 (x1, (x2, (x3, ()))))) = true
  ·rw [if_pos h2] at h
   obtain rfl := sI h
   exact callOK cxOK cxW Try.func68 (by kernel_rfl) (f68_1_e1 x1 x2 x3 x4 x5 x6) ⟨h1, (by kernel_rfl), h2, trivial⟩
  ·rw [if_neg h2] at h
   have h2 := eF h2
   obtain ⟨rh31, h31, h⟩ := bind_some h
   have ch31 := f68_1_p3_ok F rec hrec x5 x6 x1 x2 x3 F (-1) x4 (-1) 0 _ h31
   obtain ⟨x37, x38, x39⟩ := rh31
   try dsimp only at h
   obtain rfl := sI h
   exact callOK cxOK cxW Try.func68 (by kernel_rfl) (f68_1_e2 x1 x2 x3 x4 x5 x6 x37 x38 x39) ⟨h1, (by kernel_rfl), h2, ch31, (by kernel_rfl), trivial⟩
theorem f68_1_ok (F : Nat) : ∀ (k : Nat) (x1 x2 x3 : Int) (x4 : Mm) (x5 : LL) (x6 : Int) (r : Int × Int × Mm), f68_1 F k x1 x2 x3 x4 x5 x6 = some r → f68_1_C x1 x2 x3 x4 x5 x6 r
 | 0, _, _, _, _, _, _, _, h => by cases h
 | k + 1, x1, x2, x3, x4, x5, x6, r, h => f68_1_b_ok F (f68_1 F k) (f68_1_ok F k) x1 x2 x3 x4 x5 x6 r h

theorem f66_2_p5_2_ok (F : Nat) (x64 : Int) (x2 : LL) (x3 : Int) : ∀ (k : Nat) (x79 x80 : Int) (x81 : Mm) (x78 : LI) (r : Int × Mm × (List Int)), f66_2_p5_2 F x64 x2 x3 k x79 x80 x81 x78 = some r → f66_2_p5_2_P x64 x2 x3 x79 x80 x81 x78 r
 | 0, _, _, _, _, _, h => by cases h
 | k + 1, x79, x80, x81, x78, r, h => by
  unfold f66_2_p5_2 at h
  by_cases h47 : (decide (x80 < x3)) = true
  ·rw [if_pos h47] at h
   obtain ⟨rh48, h48, h⟩ := bind_some h
   have ch48 := f71_ok F x79 x80 _ h48
   obtain ⟨x82, x83⟩ := rh48
   try dsimp only at h
   by_cases h49 : x83 = true
   ·rw [if_pos h49] at h
    obtain ⟨rh50, h50, h⟩ := bind_some h
    have ch50 := f68_1_ok F F (w64 (x64 + 1)) (-1) x82 x81 x2 x3 _ h50
    obtain ⟨x84, x85, x86⟩ := rh50
    try dsimp only at h
    obtain ⟨x87, h51, h⟩ := bind_some h
    have ch51 := f72_1_ok F x64 x80 x86 x2 x3 _ h51
    try dsimp only at h
    obtain ⟨rh52, h52, h⟩ := bind_some h
    have ch52 := f68_1_ok F F x64 (-1) x79 x86 x2 x3 _ h52
    obtain ⟨x88, x89, x90⟩ := rh52
    try dsimp only at h
    by_cases h53 : ((w64 (x84 + x87)) == x88) = true
    ·rw [if_pos h53] at h
     obtain ⟨h54, h⟩ := req_some h
     obtain rfl := sI h
     exact Lp.out (gRun_ok cxOK (f66_2_p5_2_e0 x2 x3 x64 x78 x79 x80 x81 x82 x83 x84 x85 x86 x87 x88 x89 x90) ⟨h47, ch48, h49, h49, h49, h49, h49, h49, ch50, h49, h49, h49, h49, h49, ch51, h49, h49, h49, h49, h49, h49, ch52, h49, h49, h49, h53, h54, rfl, trivial⟩) (by intro hh; cases hh)
    ·rw [if_neg h53] at h
     have h53 := eF h53
     exact Lp.again (gRun_ok cxOK (f66_2_p5_2_e1 x2 x3 x64 x78 x79 x80 x81 x82 x83 x84 x85 x86 x87 x88 x89 x90) ⟨h47, ch48, h49, h49, h49, h49, h49, h49, ch50, h49, h49, h49, h49, h49, ch51, h49, h49, h49, h49, h49, h49, ch52, h49, h49, h49, h53, trivial⟩) (f66_2_p5_2_ok F x64 x2 x3 k x79 (w64 (x80 + 1)) x90 x78 r h)
   ·rw [if_neg h49] at h
    have h49 := eF h49
    exact Lp.again (gRun_ok cxOK (f66_2_p5_2_e2 x2 x3 x64 x78 x79 x80 x81 x82 x83) ⟨h47, ch48, h49, h49, h49, h49, h49, h49, h49, h49, h49, h49, h49, h49, h49, h49, h49, h49, h49, h49, h49, h49, rfl, trivial⟩) (f66_2_p5_2_ok F x64 x2 x3 k x79 (w64 (x80 + 1)) x81 x78 r h)
  ·rw [if_neg h47] at h
   have h47 := eF h47
   obtain rfl := sI h
   exact Lp.out (gRun_ok cxOK (f66_2_p5_2_e3 x2 x3 x64 x78 x79 x80 x81) ⟨h47, trivial⟩) (by intro hh; cases hh)
theorem f66_2_p1_ok (F : Nat) (x2 : LL) (x3 : Int) : ∀ (k : Nat) (x63 x64 : Int) (x65 : Mm) (x62 : LI) (r : Mm × (List Int)), f66_2_p1 F x2 x3 k x63 x64 x65 x62 = some r → f66_2_p1_P x2 x3 x63 x64 x65 x62 r
 | 0, _, _, _, _, _, h => by cases h
 | k + 1, x63, x64, x65, x62, r, h => by
  unfold f66_2_p1 at h
  by_cases h38 : (decide (x64 < ((List.length x2 : Nat) : Int))) = true
  ·rw [if_pos h38] at h
   obtain ⟨rh55, h55, h⟩ := bind_some h
   have ch55 := f66_2_p5_2_ok F x64 x2 x3 F x63 (-1) x65 x62 _ h55
   obtain ⟨x91, x92, x93⟩ := rh55
   try dsimp only at h
   exact Lp.again (gRun_ok cxOK (f66_2_p1_e0 x2 x3 x62 x63 x64 x65 x91 x92 x93) ⟨h38, ch55, trivial⟩) (f66_2_p1_ok F x2 x3 k x91 (w64 (x64 + 1)) x92 x93 r h)
  ·rw [if_neg h38] at h
   have h38 := eF h38
   obtain rfl := sI h
   exact Lp.out (gRun_ok cxOK (f66_2_p1_e1 x2 x3 x62 x63 x64 x65) ⟨h38, trivial⟩) (by intro hh; cases hh)
theorem f66_2_ok (F : Nat) (x1 : Mm) (x2 : LL) (x3 : Int) (r : (List Int) × Mm) (h : f66_2 F x1 x2 x3 = some r) : f66_2_C x1 x2 x3 r := by
 unfold f66_2 at h
 obtain ⟨x4, h1, h⟩ := bind_some h
 have ch1 := f69_2_ok F x1 x2 x3 _ h1
 try dsimp only at h
 obtain ⟨rh56, h56, h⟩ := bind_some h
 have ch56 := f66_2_p1_ok F x2 x3 F x4 0 x1 ([] : List Int) _ h56
 obtain ⟨x94, x95⟩ := rh56
 try dsimp only at h
 obtain rfl := sI h
 exact callOK cxOK cxW Try.func66 (by kernel_rfl) (f66_2_e0 x1 x2 x3 x4 x94 x95) ⟨ch1, ch56, (Nat.le_of_eq (Nat.zero_add _)), trivial⟩

theorem f78_1_ok (F : Nat) (x1 x2 : Int) (x3 : Mm) (x4 : LL) (x5 : Int) (r : Int × Mm) (h : f78_1 F x1 x2 x3 x4 x5 = some r) : f78_1_C x1 x2 x3 x4 x5 r := by
 unfold f78_1 at h
 obtain ⟨x6, h1, h⟩ := bind_some h
 have ch1 := f69_2_ok F x3 x4 x5 _ h1
 try dsimp only at h
 obtain ⟨rh2, h2, h⟩ := bind_some h
 have ch2 := f68_1_ok F F 0 (-1) x6 x3 x4 x5 _ h2
 obtain ⟨x7, x8, x9⟩ := rh2
 try dsimp only at h
 obtain ⟨x10, h3, h⟩ := bind_some h
 have ch3 := f72_1_ok F x1 x2 x9 x4 x5 _ h3
 try dsimp only at h
 obtain ⟨x11, h4, h⟩ := bind_some h
 have ch4 := f69_2_ok F x9 x4 x5 _ h4
 try dsimp only at h
 obtain ⟨rh5, h5, h⟩ := bind_some h
 have ch5 := f68_1_ok F F 0 x1 x11 x9 x4 x5 _ h5
 obtain ⟨x12, x13, x14⟩ := rh5
 try dsimp only at h
 obtain rfl := sI h
 exact callOK cxOK cxW Try.func78 (by kernel_rfl) (f78_1_e0 x1 x2 x3 x4 x5 x6 x7 x8 x9 x10 x11 x12 x13 x14) ⟨ch1, ch2, ch3, ch4, ch5, trivial⟩

theorem f72_2_ok (F : Nat) (x1 x2 : Int) (x3 : Mm) (x4 : LL) (x5 : Int) (r : Int) (h : f72_2 F x1 x2 x3 x4 x5 = some r) : f72_2_C x1 x2 x3 x4 x5 r := by
 unfold f72_2 at h
 by_cases h1 : (decide (x2 < 0)) = true
 ·rw [if_pos h1] at h
  obtain rfl := sI h
  exact callOK cxOK cxW Try.func72 (by kernel_rfl) (f72_2_e0 x1 x2 x3 x4 x5) ⟨h1, trivial⟩
 ·rw [if_neg h1] at h
  have h1 := eF h1
  obtain ⟨x6, h2, h⟩ := bind_some h
  try dsimp only at h
  obtain ⟨x7, h3, h⟩ := bind_some h
  try dsimp only at h
  obtain rfl := sI h
  exact callOK cxOK cxW Try.func72 (by kernel_rfl) (f72_2_e1 x1 x2 x3 x4 x5 x6 x7) ⟨h1, ⟨(at?_spec h2).1, x6, (at?_spec h2).2, rfl⟩, ⟨(at?_spec h3).1, x7, (at?_spec h3).2, rfl⟩, trivial⟩

theorem f30_p0_ok (F : Nat) (x1 : LL) (x2 : Int) (x3 : LI) (x5 : Int) (x9 : Bool) (x6 : Mm) (x7 : LL) (x8 : Int) (r : Int) (h : f30_p0 F x1 x2 x3 x5 x9 x6 x7 x8 = some r) : f30_p0_P x1 x2 x3 x5 x9 x6 x7 x8 r := by
 unfold f30_p0 at h
 by_cases h5 : x9 = true
 ·rw [if_pos h5] at h
  obtain rfl := sI h
  exact gRun_ok cxOK (f30_p0_e0 x1 x2 x3 x5 x6 x7 x8 x9) ⟨(by rw [h5]; rfl), trivial⟩
 ·rw [if_neg h5] at h
  have h5 := eF h5
  obtain rfl := sI h
  exact gRun_ok cxOK (f30_p0_e1 x1 x2 x3 x5 x6 x7 x8 x9) ⟨(by rw [h5]; rfl), trivial⟩
theorem f30_p1_ok (F : Nat) (x1 : LL) (x2 : Int) (x3 : LI) (x10 : Int) (x6 : Mm) (x7 : LL) (x8 : Int) (r : Int) (h : f30_p1 F x1 x2 x3 x10 x6 x7 x8 = some r) : f30_p1_P x1 x2 x3 x10 x6 x7 x8 r := by
 unfold f30_p1 at h
 by_cases h7 : (x10 == 0) = true
 ·rw [if_pos h7] at h
  obtain ⟨x11, h8, h⟩ := bind_some h
  have ch8 := f76_ok F x3 x8 _ h8
  try dsimp only at h
  obtain rfl := sI h
  exact gRun_ok cxOK (f30_p1_e0 x1 x2 x3 x6 x7 x8 x10 x11) ⟨h7, ch8, trivial⟩
 ·rw [if_neg h7] at h
  have h7 := eF h7
  obtain rfl := sI h
  exact gRun_ok cxOK (f30_p1_e1 x1 x2 x3 x6 x7 x8 x10) ⟨h7, trivial⟩
theorem f30_ok (F : Nat) (x1 : LL) (x2 : Int) (x3 : LI) (r : Int × Int × Int × Int) (h : f30 F x1 x2 x3 = some r) : f30_C x1 x2 x3 r := by
 unfold f30 at h
 obtain ⟨rh1, h1, h⟩ := bind_some h
 have ch1 := f65_1_ok F x1 _ h1
 cases rh1 with
 | c0 x4 =>
  try dsimp only at h
  by_cases h2 : (x4 == 0) = true
  ·rw [if_pos h2] at h
   cases h
  ·rw [if_neg h2] at h
   have h2 := eF h2
   obtain rfl := sI h
   exact callOK cxOK cxW Try.func30 (by kernel_rfl) (f30_e0 x1 x2 x3 x4) ⟨ch1, h2, h2, h2, h2, h2, h2, h2, rfl, h2, (by rw [bne, h2]; rfl), trivial⟩
 | c1 x5 x6 x7 x8 =>
  try dsimp only at h
  by_cases h3 : (x5 == 0) = true
  ·rw [if_pos h3] at h
   obtain ⟨x9, h4, h⟩ := bind_some h
   have ch4 := f70_ok F 0 x2 (w64 (((List.length x1 : Nat) : Int) - 1)) _ h4
   try dsimp only at h
   obtain ⟨x10, h6, h⟩ := bind_some h
   have ch6 := f30_p0_ok F x1 x2 x3 x5 x9 x6 x7 x8 _ h6
   try dsimp only at h
   obtain ⟨x12, h9, h⟩ := bind_some h
   have ch9 := f30_p1_ok F x1 x2 x3 x10 x6 x7 x8 _ h9
   try dsimp only at h
   by_cases h10 : (x12 != 0) = true
   ·rw [if_pos h10] at h
    obtain rfl := sI h
    exact callOK cxOK cxW Try.func30 (by kernel_rfl) (f30_e1 x1 x2 x3 x5 x6 x7 x8 x9 x10 x12) ⟨ch1, h3, h3, h3, h3, h3, ch4, h3, h3, ch6, ch9, h10, trivial⟩
   ·rw [if_neg h10] at h
    have h10 := eF h10
    obtain ⟨x13, h11, h⟩ := bind_some h
    have ch11 := f52_ok F x1 _ h11
    try dsimp only at h
    obtain ⟨h12, h⟩ := req_some h
    obtain ⟨h13, h⟩ := req_some h
    obtain ⟨h14, h⟩ := req_some h
    obtain ⟨rh15, h15, h⟩ := bind_some h
    have ch15 := f65_2_ok F (List.drop 0 (List.take (0 + (List.length x13)) (List.set x13 (0 + (Int.toNat x2)) x3))) _ h15
    cases rh15 with
    | c0 x14 =>
     try dsimp only at h
     obtain ⟨rh16, h16, h⟩ := bind_some h
     have ch16 := f66_1_ok F _ h16
     exact nomatch rh16
    | c1 x15 x16 x17 x18 =>
     try dsimp only at h
     obtain ⟨rh17, h17, h⟩ := bind_some h
     have ch17 := f66_2_ok F x16 x17 x18 _ h17
     obtain ⟨x19, x20⟩ := rh17
     try dsimp only at h
     obtain ⟨x21, h18, h⟩ := bind_some h
     try dsimp only at h
     obtain ⟨rh19, h19, h⟩ := bind_some h
     have ch19 := f78_1_ok F x2 x21 x20 x17 x18 _ h19
     obtain ⟨x22, x23⟩ := rh19
     try dsimp only at h
     obtain ⟨x24, h20, h⟩ := bind_some h
     have ch20 := f72_2_ok F x2 x21 x6 x7 x8 _ h20
     try dsimp only at h
     obtain rfl := sI h
     exact callOK cxOK cxW Try.func30 (by kernel_rfl) (f30_e2 x1 x2 x3 x5 x6 x7 x8 x9 x10 x12 x13 x15 x16 x17 x18 x19 x20 x21 x22 x23 x24) ⟨ch1, h3, h3, h3, h3, h3, ch4, h3, h3, ch6, ch9, h10, ch11, h12, h13, h14, ch15, ch17, ⟨(at?_spec h18).1, x21, (at?_spec h18).2, rfl⟩, ch19, ch20, trivial⟩
  ·rw [if_neg h3] at h
   have h3 := eF h3
   obtain rfl := sI h
   exact callOK cxOK cxW Try.func30 (by kernel_rfl) (f30_e3 x1 x2 x3 x5 x6 x7 x8) ⟨ch1, h3, h3, h3, h3, h3, h3, h3, rfl, h3, (by rw [bne, h3]; rfl), trivial⟩

theorem f83_p0_ok (F : Nat) (x2 : LI) (x3 : Int) (r : Unit) (h : f83_p0 F x2 x3 = some r) : f83_p0_P x2 x3 r := by
 unfold f83_p0 at h
 by_cases h2 : (x3 == 0) = true
 ·rw [if_pos h2] at h
  cases h
 ·rw [if_neg h2] at h
  have h2 := eF h2
  obtain rfl := sI h
  exact gRun_ok cxOK (f83_p0_e0 x2 x3) ⟨h2, trivial⟩
theorem f83_p0_1_ok (F : Nat) (x2 : LI) (x4 : Int) (x5 : Mm) (x6 : LL) (x7 : Int) (r : Int) (h : f83_p0_1 F x2 x4 x5 x6 x7 = some r) : f83_p0_1_P x2 x4 x5 x6 x7 r := by
 unfold f83_p0_1 at h
 by_cases h4 : (x4 == 0) = true
 ·rw [if_pos h4] at h
  obtain ⟨x8, h5, h⟩ := bind_some h
  have ch5 := f76_ok F x2 x7 _ h5
  try dsimp only at h
  obtain rfl := sI h
  exact gRun_ok cxOK (f83_p0_1_e0 x2 x4 x5 x6 x7 x8) ⟨h4, ch5, trivial⟩
 ·rw [if_neg h4] at h
  have h4 := eF h4
  obtain rfl := sI h
  exact gRun_ok cxOK (f83_p0_1_e1 x2 x4 x5 x6 x7) ⟨h4, trivial⟩
theorem f83_ok (F : Nat) (x1 : LL) (x2 : LI) (r : f83_R) (h : f83 F x1 x2 = some r) : f83_C x1 x2 r := by
 unfold f83 at h
 obtain ⟨rh1, h1, h⟩ := bind_some h
 have ch1 := f65_ok F x1 _ h1
 cases rh1 with
 | c0 x3 =>
  try dsimp only at h
  obtain ⟨rh3, h3, h⟩ := bind_some h
  have ch3 := f83_p0_ok F x2 x3 _ h3
  try dsimp only at h
  obtain rfl := sI h
  exact callOK cxOK cxW Try.func83 (by kernel_rfl) (f83_e0 x1 x2 x3) ⟨ch1, ch3, trivial⟩
 | c1 x4 x5 x6 x7 =>
  try dsimp only at h
  obtain ⟨x9, h6, h⟩ := bind_some h
  have ch6 := f83_p0_1_ok F x2 x4 x5 x6 x7 _ h6
  try dsimp only at h
  obtain rfl := sI h
  exact callOK cxOK cxW Try.func83 (by kernel_rfl) (f83_e1 x1 x2 x4 x5 x6 x7 x9) ⟨ch1, ch6, trivial⟩

theorem f84_p6_ok (F : Nat) (x2 x6 : Int) (x7 x8 : Int) (x1 : LI) (x11 x9 : Int) (x3 : Mm) (x4 : LL) (x5 : Int) (r : Int) (h : f84_p6 F x2 x6 x7 x8 x1 x11 x9 x3 x4 x5 = some r) : f84_p6_P x2 x6 x7 x8 x1 x11 x9 x3 x4 x5 r := by
 unfold f84_p6 at h
 by_cases h7 : ((w64 (x11 - x9)) == x6) = true
 ·rw [if_pos h7] at h
  obtain ⟨h8, h⟩ := req_some h
  obtain rfl := sI h
  exact gRun_ok cxOK (f84_p6_e0 x1 x2 x3 x4 x5 x6 x7 x8 x9 x11) ⟨h7, h8, trivial⟩
 ·rw [if_neg h7] at h
  have h7 := eF h7
  obtain rfl := sI h
  exact gRun_ok cxOK (f84_p6_e1 x1 x2 x3 x4 x5 x6 x7 x8 x9 x11) ⟨h7, trivial⟩
theorem f84_p5_ok (F : Nat) (x2 x6 : Int) (x7 x8 : Int) (x11 x9 : Int) (x1 : LI) (x3 : Mm) (x4 : LL) (x5 : Int) (r : Int × Int) (h : f84_p5 F x2 x6 x7 x8 x11 x9 x1 x3 x4 x5 = some r) : f84_p5_P x2 x6 x7 x8 x11 x9 x1 x3 x4 x5 r := by
 unfold f84_p5 at h
 by_cases h5 : (decide ((w64 (x11 - x9)) > x6)) = true
 ·rw [if_pos h5] at h
  obtain ⟨h6, h⟩ := req_some h
  obtain rfl := sI h
  exact gRun_ok cxOK (f84_p5_e0 x1 x2 x3 x4 x5 x6 x7 x8 x9 x11) ⟨h5, h6, trivial⟩
 ·rw [if_neg h5] at h
  have h5 := eF h5
  obtain ⟨x12, h9, h⟩ := bind_some h
  have ch9 := f84_p6_ok F x2 x6 x7 x8 x1 x11 x9 x3 x4 x5 _ h9
  try dsimp only at h
  obtain rfl := sI h
  exact gRun_ok cxOK (f84_p5_e1 x1 x2 x3 x4 x5 x6 x7 x8 x9 x11 x12) ⟨h5, ch9, trivial⟩
theorem f84_p1_ok (F : Nat) (x2 : Int) (x1 : LI) (x3 : Mm) (x4 : LL) (x5 : Int) : ∀ (k : Nat) (x6 x7 x8 : Int) (r : Int × Int), f84_p1 F x2 x1 x3 x4 x5 k x6 x7 x8 = some r → f84_p1_P x2 x1 x3 x4 x5 x6 x7 x8 r
 | 0, _, _, _, _, h => by cases h
 | k + 1, x6, x7, x8, r, h => by
  unfold f84_p1 at h
  by_cases h1 : (decide (x8 < ((List.length x1 : Nat) : Int))) = true
  ·rw [if_pos h1] at h
   obtain ⟨x9, h2, h⟩ := bind_some h
   try dsimp only at h
   obtain ⟨x10, h3, h⟩ := bind_some h
   try dsimp only at h
   obtain ⟨x11, h4, h⟩ := bind_some h
   try dsimp only at h
   obtain ⟨rh10, h10, h⟩ := bind_some h
   have ch10 := f84_p5_ok F x2 x6 x7 x8 x11 x9 x1 x3 x4 x5 _ h10
   obtain ⟨x13, x14⟩ := rh10
   try dsimp only at h
   exact Lp.again (gRun_ok cxOK (f84_p1_e0 x1 x2 x3 x4 x5 x6 x7 x8 x9 x10 x11 x13 x14) ⟨h1, ⟨(at?_spec h2).1, x9, (at?_spec h2).2, rfl⟩, ⟨(at?_spec h3).1, x10, (at?_spec h3).2, rfl⟩, ⟨(at?_spec h4).1, x11, (at?_spec h4).2, rfl⟩, ch10, trivial⟩) (f84_p1_ok F x2 x1 x3 x4 x5 k x13 x14 (w64 (x8 + 1)) r h)
  ·rw [if_neg h1] at h
   have h1 := eF h1
   obtain rfl := sI h
   exact Lp.out (gRun_ok cxOK (f84_p1_e1 x1 x2 x3 x4 x5 x6 x7 x8) ⟨h1, trivial⟩) (by intro hh; cases hh)
theorem f84_ok (F : Nat) (x1 : LI) (x2 : Int) (x3 : Mm) (x4 : LL) (x5 : Int) (r : Int × Bool) (h : f84 F x1 x2 x3 x4 x5 = some r) : f84_C x1 x2 x3 x4 x5 r := by
 unfold f84 at h
 obtain ⟨rh11, h11, h⟩ := bind_some h
 have ch11 := f84_p1_ok F x2 x1 x3 x4 x5 F 0 0 0 _ h11
 obtain ⟨x15, x16⟩ := rh11
 try dsimp only at h
 obtain rfl := sI h
 exact callOK cxOK cxW Try.func84 (by kernel_rfl) (f84_e0 x1 x2 x3 x4 x5 x15 x16) ⟨ch11, trivial⟩

theorem f32_p5_1_ok (F : Nat) (x2 : LI) (x16 : LL) (x18 : Int) (x1 : LL) (x17 : Int) (x19 : Bool) (x5 : Mm) (x6 : LL) (x7 : Int) (r : (List Int)) (h : f32_p5_1 F x2 x16 x18 x1 x17 x19 x5 x6 x7 = some r) : f32_p5_1_P x2 x16 x18 x1 x17 x19 x5 x6 x7 r := by
 unfold f32_p5_1 at h
 by_cases h18 : x19 = true
 ·rw [if_pos h18] at h
  obtain ⟨h19, h⟩ := req_some h
  obtain rfl := sI h
  exact gRun_ok cxOK (f32_p5_1_e0 x1 x2 x5 x6 x7 x16 x17 x18 x19) ⟨h18, h19, rfl, trivial⟩
 ·rw [if_neg h18] at h
  have h18 := eF h18
  obtain rfl := sI h
  exact gRun_ok cxOK (f32_p5_1_e1 x1 x2 x5 x6 x7 x16 x17 x18 x19) ⟨h18, trivial⟩
theorem f32_p10_1_ok (F : Nat) (x2 : LI) (x16 : LL) (x18 : Int) (x21 : LI) (x22 : Int) (x1 : LL) (x17 x7 : Int) (x5 : Mm) (x6 : LL) (r : (List Int)) (h : f32_p10_1 F x2 x16 x18 x21 x22 x1 x17 x7 x5 x6 = some r) : f32_p10_1_P x2 x16 x18 x21 x22 x1 x17 x7 x5 x6 r := by
 unfold f32_p10_1 at h
 by_cases h23 : ((iAnd .u8 (iShr .u8 x18 x22) 1) == 1) = true
 ·rw [if_pos h23] at h
  obtain ⟨h24, h⟩ := req_some h
  obtain rfl := sI h
  exact gRun_ok cxOK (f32_p10_1_e0 x1 x2 x5 x6 x7 x16 x17 x18 x21 x22) ⟨h23, h24, rfl, trivial⟩
 ·rw [if_neg h23] at h
  have h23 := eF h23
  obtain rfl := sI h
  exact gRun_ok cxOK (f32_p10_1_e1 x1 x2 x5 x6 x7 x16 x17 x18 x21 x22) ⟨h23, trivial⟩
theorem f32_p7_1_ok (F : Nat) (x2 : LI) (x16 : LL) (x18 : Int) (x1 : LL) (x17 x7 : Int) (x5 : Mm) (x6 : LL) : ∀ (k : Nat) (x22 : Int) (x21 : LI) (r : (List Int)), f32_p7_1 F x2 x16 x18 x1 x17 x7 x5 x6 k x22 x21 = some r → f32_p7_1_P x2 x16 x18 x1 x17 x7 x5 x6 x22 x21 r
 | 0, _, _, _, h => by cases h
 | k + 1, x22, x21, r, h => by
  unfold f32_p7_1 at h
  by_cases h21 : (decide (x22 < x7)) = true
  ·rw [if_pos h21] at h
   obtain ⟨h22, h⟩ := req_some h
   obtain ⟨x23, h25, h⟩ := bind_some h
   have ch25 := f32_p10_1_ok F x2 x16 x18 x21 x22 x1 x17 x7 x5 x6 _ h25
   try dsimp only at h
   exact Lp.again (gRun_ok cxOK (f32_p7_1_e0 x1 x2 x5 x6 x7 x16 x17 x18 x21 x22 x23) ⟨h21, h22, ch25, trivial⟩) (f32_p7_1_ok F x2 x16 x18 x1 x17 x7 x5 x6 k (w64 (x22 + 1)) x23 r h)
  ·rw [if_neg h21] at h
   have h21 := eF h21
   obtain rfl := sI h
   exact Lp.out (gRun_ok cxOK (f32_p7_1_e1 x1 x2 x5 x6 x7 x16 x17 x18 x21 x22) ⟨h21, trivial⟩) (by intro hh; cases hh)
theorem f32_p2_ok (F : Nat) (x2 : LI) (x1 : LL) (x5 : Mm) (x6 : LL) (x7 : Int) : ∀ (k : Nat) (x17 : Int) (x16 : LL) (r : (List (List Int))), f32_p2 F x2 x1 x5 x6 x7 k x17 x16 = some r → f32_p2_P x2 x1 x5 x6 x7 x17 x16 r
 | 0, _, _, _, h => by cases h
 | k + 1, x17, x16, r, h => by
  unfold f32_p2 at h
  by_cases h16 : (decide (x17 < ((List.length x1 : Nat) : Int))) = true
  ·rw [if_pos h16] at h
   obtain ⟨rh17, h17, h⟩ := bind_some h
   have ch17 := f84_ok F x2 x17 x5 x6 x7 _ h17
   obtain ⟨x18, x19⟩ := rh17
   try dsimp only at h
   obtain ⟨x20, h20, h⟩ := bind_some h
   have ch20 := f32_p5_1_ok F x2 x16 x18 x1 x17 x19 x5 x6 x7 _ h20
   try dsimp only at h
   obtain ⟨x24, h26, h⟩ := bind_some h
   have ch26 := f32_p7_1_ok F x2 x16 x18 x1 x17 x7 x5 x6 F 0 x20 _ h26
   try dsimp only at h
   obtain ⟨h27, h⟩ := req_some h
   exact Lp.again (gRun_ok cxOK (f32_p2_e0 x1 x2 x5 x6 x7 x16 x17 x18 x19 x20 x24) ⟨h16, ch17, ch20, ch26, (Nat.le_of_eq (Nat.zero_add _)), h27, rfl, trivial⟩) (f32_p2_ok F x2 x1 x5 x6 x7 k (w64 (x17 + 1)) (x16 ++ ([(List.drop 0 (List.take (0 + (List.length x24)) x24))] : List (List Int))) r h)
  ·rw [if_neg h16] at h
   have h16 := eF h16
   obtain rfl := sI h
   exact Lp.out (gRun_ok cxOK (f32_p2_e1 x1 x2 x5 x6 x7 x16 x17) ⟨h16, trivial⟩) (by intro hh; cases hh)
theorem f32_ok (F : Nat) (x1 : LL) (x2 : LI) (r : (List (List Int)) × Int) (h : f32 F x1 x2 = some r) : f32_C x1 x2 r := by
 unfold f32 at h
 obtain ⟨rh1, h1, h⟩ := bind_some h
 have ch1 := f83_ok F x1 x2 _ h1
 cases rh1 with
 | c0 x3 =>
  try dsimp only at h
  by_cases h2 : (x3 != 0) = true
  ·rw [if_pos h2] at h
   obtain rfl := sI h
   exact callOK cxOK cxW Try.func32 (by kernel_rfl) (f32_e0 x1 x2 x3) ⟨ch1, h2, trivial⟩
  ·rw [if_neg h2] at h
   have h2 := eF h2
   cases h
 | c1 x4 x5 x6 x7 =>
  try dsimp only at h
  by_cases h3 : (x4 != 0) = true
  ·rw [if_pos h3] at h
   obtain rfl := sI h
   exact callOK cxOK cxW Try.func32 (by kernel_rfl) (f32_e1 x1 x2 x4 x5 x6 x7) ⟨ch1, h3, trivial⟩
  ·rw [if_neg h3] at h
   have h3 := eF h3
   obtain ⟨x25, h28, h⟩ := bind_some h
   have ch28 := f32_p2_ok F x2 x1 x5 x6 x7 F 0 ([] : List (List Int)) _ h28
   try dsimp only at h
   obtain rfl := sI h
   exact callOK cxOK cxW Try.func32 (by kernel_rfl) (f32_e2 x1 x2 x4 x5 x6 x7 x25) ⟨ch1, h3, ch28, (Nat.le_of_eq (Nat.zero_add _)), trivial⟩

theorem f104_ok (F : Nat) (x1 : Int) (r : Bool) (h : f104 F x1 = some r) : f104_C x1 r := by
 unfold f104 at h
 obtain rfl := sI h
 exact callOK cxOK cxW Try.func104 (by kernel_rfl) (f104_e0 x1) trivial

theorem f98_ok (F : Nat) (x1 x2 : Int) (r : Int) (h : f98 F x1 x2 = some r) : f98_C x1 x2 r := by
 unfold f98 at h
 obtain ⟨x3, h1, h⟩ := bind_some h
 have ch1 := f104_ok F x1 _ h1
 try dsimp only at h
 obtain ⟨x4, h2, h⟩ := bind_some h
 have ch2 := f104_ok F x2 _ h2
 try dsimp only at h
 by_cases h3 : x3 = true
 ·rw [if_pos h3] at h
  by_cases h4 : x4 = true
  ·rw [if_pos h4] at h
   obtain rfl := sI h
   exact callOK cxOK cxW Try.func98 (by kernel_rfl) (f98_e0 x1 x2 x3 x4) ⟨ch1, ch2, h3, h4, trivial⟩
  ·rw [if_neg h4] at h
   have h4 := eF h4
   obtain rfl := sI h
   exact callOK cxOK cxW Try.func98 (by kernel_rfl) (f98_e1 x1 x2 x3 x4) ⟨ch1, ch2, h3, h4, trivial⟩
 ·rw [if_neg h3] at h
  have h3 := eF h3
  by_cases h5 : x4 = true
  ·rw [if_pos h5] at h
   obtain rfl := sI h
   exact callOK cxOK cxW Try.func98 (by kernel_rfl) (f98_e2 x1 x2 x3 x4) ⟨ch1, ch2, h3, h5, trivial⟩
  ·rw [if_neg h5] at h
   have h5 := eF h5
   by_cases h6 : (decide (x1 < x2)) = true
   ·rw [if_pos h6] at h
    obtain rfl := sI h
    exact callOK cxOK cxW Try.func98 (by kernel_rfl) (f98_e3 x1 x2 x3 x4) ⟨ch1, ch2, h3, h5, h6, trivial⟩
   ·rw [if_neg h6] at h
    have h6 := eF h6
    by_cases h7 : (decide (x1 > x2)) = true
    ·rw [if_pos h7] at h
     obtain rfl := sI h
     exact callOK cxOK cxW Try.func98 (by kernel_rfl) (f98_e4 x1 x2 x3 x4) ⟨ch1, ch2, h3, h5, h6, h7, trivial⟩
    ·rw [if_neg h7] at h
     have h7 := eF h7
     obtain rfl := sI h
     exact callOK cxOK cxW Try.func98 (by kernel_rfl) (f98_e5 x1 x2 x3 x4) ⟨ch1, ch2, h3, h5, h6, h7, trivial⟩

theorem f56_p1_ok (F : Nat) (x1 : LI) (x2 : Option (List Int)) : ∀ (k : Nat) (x3 : Int) (r : f56_p1_R), f56_p1 F x1 x2 k x3 = some r → f56_p1_P x1 x2 x3 r
 | 0, _, _, h => by cases h
 | k + 1, x3, r, h => by
  unfold f56_p1 at h
  by_cases h1 : (decide (x3 < ((List.length x1 : Nat) : Int))) = true
  ·rw [if_pos h1] at h
   obtain ⟨x4, h2, h⟩ := bind_some h
   try dsimp only at h
   by_cases h3 : (decide (x3 ≥ ((List.length ((x2).getD []) : Nat) : Int))) = true
   ·rw [if_pos h3] at h
    obtain rfl := sI h
    exact Lp.out (gRun_ok cxOK (f56_p1_e0 x1 x2 x3 x4) ⟨h1, ⟨(at?_spec h2).1, x4, (at?_spec h2).2, rfl⟩, h3, trivial⟩) (by intro hh; cases hh)
   ·rw [if_neg h3] at h
    have h3 := eF h3
    obtain ⟨x5, h4, h⟩ := bind_some h
    try dsimp only at h
    obtain ⟨x6, h5, h⟩ := bind_some h
    have ch5 := f98_ok F x4 x5 _ h5
    try dsimp only at h
    by_cases h6 : (x6 != 0) = true
    ·rw [if_pos h6] at h
     obtain rfl := sI h
     exact Lp.out (gRun_ok cxOK (f56_p1_e1 x1 x2 x3 x4 x5 x6) ⟨h1, ⟨(at?_spec h2).1, x4, (at?_spec h2).2, rfl⟩, h3, ⟨(at?_spec h4).1, x5, (at?_spec h4).2, rfl⟩, ch5, h6, trivial⟩) (by intro hh; cases hh)
    ·rw [if_neg h6] at h
     have h6 := eF h6
     exact Lp.again (gRun_ok cxOK (f56_p1_e2 x1 x2 x3 x4 x5 x6) ⟨h1, ⟨(at?_spec h2).1, x4, (at?_spec h2).2, rfl⟩, h3, ⟨(at?_spec h4).1, x5, (at?_spec h4).2, rfl⟩, ch5, h6, trivial⟩) (f56_p1_ok F x1 x2 k (w64 (x3 + 1)) r h)
  ·rw [if_neg h1] at h
   have h1 := eF h1
   obtain rfl := sI h
   exact Lp.out (gRun_ok cxOK (f56_p1_e3 x1 x2 x3) ⟨h1, trivial⟩) (by intro hh; cases hh)
theorem f56_ok (F : Nat) (x1 : LI) (x2 : Option (List Int)) (r : Int) (h : f56 F x1 x2 = some r) : f56_C x1 x2 r := by
 unfold f56 at h
 obtain ⟨rh7, h7, h⟩ := bind_some h
 have ch7 := f56_p1_ok F x1 x2 F 0 _ h7
 cases rh7 with
 | c0 x7 =>
  try dsimp only at h
  obtain rfl := sI h
  exact callOK cxOK cxW Try.func56 (by kernel_rfl) (f56_e0 x1 x2 x7) ⟨ch7, trivial⟩
 | c1 =>
  try dsimp only at h
  by_cases h8 : (decide (((List.length x1 : Nat) : Int) < ((List.length ((x2).getD []) : Nat) : Int))) = true
  ·rw [if_pos h8] at h
   obtain rfl := sI h
   exact callOK cxOK cxW Try.func56 (by kernel_rfl) (f56_e1 x1 x2) ⟨ch7, h8, trivial⟩
  ·rw [if_neg h8] at h
   have h8 := eF h8
   obtain rfl := sI h
   exact callOK cxOK cxW Try.func56 (by kernel_rfl) (f56_e2 x1 x2) ⟨ch7, h8, trivial⟩

theorem f34_p9_1_ok (F : Nat) (x1 : LL) (x2 : LI) (x8 : Option (List Int)) (x9 : Int) (x17 : LI) (x18 : Int) (x19 : Bool) (x20 : Int) (x5 : Mm) (x6 : LL) (x7 : Int) (r : Int × Bool × (List Int)) (h : f34_p9_1 F x1 x2 x8 x9 x17 x18 x19 x20 x5 x6 x7 = some r) : f34_p9_1_P x1 x2 x8 x9 x17 x18 x19 x20 x5 x6 x7 r := by
 unfold f34_p9_1 at h
 by_cases h15 : ((iAnd .i64 (iShr .i64 x9 x20) 1) == 1) = true
 ·rw [if_pos h15] at h
  obtain ⟨rh16, h16, h⟩ := bind_some h
  have ch16 := f84_ok F x2 x20 x5 x6 x7 _ h16
  obtain ⟨x21, x22⟩ := rh16
  try dsimp only at h
  obtain ⟨h17, h⟩ := req_some h
  by_cases h18 : x19 = true
  ·rw [if_pos h18] at h
   obtain rfl := sI h
   exact gRun_ok cxOK (f34_p9_1_e0 x1 x2 x5 x6 x7 x8 x9 x17 x18 x19 x20 x21 x22) ⟨h15, ch16, h17, rfl, h18, h18, trivial⟩
  ·rw [if_neg h18] at h
   have h18 := eF h18
   obtain rfl := sI h
   exact gRun_ok cxOK (f34_p9_1_e1 x1 x2 x5 x6 x7 x8 x9 x17 x18 x19 x20 x21 x22) ⟨h15, ch16, h17, rfl, h18, h18, trivial⟩
 ·rw [if_neg h15] at h
  have h15 := eF h15
  obtain rfl := sI h
  exact gRun_ok cxOK (f34_p9_1_e2 x1 x2 x5 x6 x7 x8 x9 x17 x18 x19 x20) ⟨h15, trivial⟩
theorem f34_p6_ok (F : Nat) (x1 : LL) (x2 : LI) (x8 : Option (List Int)) (x9 : Int) (x5 : Mm) (x6 : LL) (x7 : Int) : ∀ (k : Nat) (x18 : Int) (x19 : Bool) (x20 : Int) (x17 : LI) (r : Int × Bool × (List Int)), f34_p6 F x1 x2 x8 x9 x5 x6 x7 k x18 x19 x20 x17 = some r → f34_p6_P x1 x2 x8 x9 x5 x6 x7 x18 x19 x20 x17 r
 | 0, _, _, _, _, _, h => by cases h
 | k + 1, x18, x19, x20, x17, r, h => by
  unfold f34_p6 at h
  by_cases h13 : (decide (x20 < ((List.length x1 : Nat) : Int))) = true
  ·rw [if_pos h13] at h
   obtain ⟨h14, h⟩ := req_some h
   obtain ⟨rh19, h19, h⟩ := bind_some h
   have ch19 := f34_p9_1_ok F x1 x2 x8 x9 x17 x18 x19 x20 x5 x6 x7 _ h19
   obtain ⟨x23, x24, x25⟩ := rh19
   try dsimp only at h
   exact Lp.again (gRun_ok cxOK (f34_p6_e0 x1 x2 x5 x6 x7 x8 x9 x17 x18 x19 x20 x23 x24 x25) ⟨h13, h14, ch19, trivial⟩) (f34_p6_ok F x1 x2 x8 x9 x5 x6 x7 k x23 x24 (w64 (x20 + 1)) x25 r h)
  ·rw [if_neg h13] at h
   have h13 := eF h13
   obtain rfl := sI h
   exact Lp.out (gRun_ok cxOK (f34_p6_e1 x1 x2 x5 x6 x7 x8 x9 x17 x18 x19 x20) ⟨h13, trivial⟩) (by intro hh; cases hh)
theorem f34_p11_ok (F : Nat) (x1 : LL) (x2 : LI) (x8 : Option (List Int)) (x9 : Int) (x28 : LI) (x27 : Bool) (x5 : Mm) (x6 : LL) (x7 : Int) : ∀ (k : Nat) (x29 x30 : Int) (r : Int), f34_p11 F x1 x2 x8 x9 x28 x27 x5 x6 x7 k x29 x30 = some r → f34_p11_P x1 x2 x8 x9 x28 x27 x5 x6 x7 x29 x30 r
 | 0, _, _, _, h => by cases h
 | k + 1, x29, x30, r, h => by
  unfold f34_p11 at h
  by_cases h21 : (x29 != 0) = true
  ·rw [if_pos h21] at h
   exact Lp.again (gRun_ok cxOK (f34_p11_e0 x1 x2 x5 x6 x7 x8 x9 x27 x28 x29 x30) ⟨h21, trivial⟩) (f34_p11_ok F x1 x2 x8 x9 x28 x27 x5 x6 x7 k (iAnd .u8 x29 (IntKind.wrap .u8 (x29 - 1))) (w64 (x30 + 1)) r h)
  ·rw [if_neg h21] at h
   have h21 := eF h21
   obtain rfl := sI h
   exact Lp.out (gRun_ok cxOK (f34_p11_e1 x1 x2 x5 x6 x7 x8 x9 x27 x28 x29 x30) ⟨h21, trivial⟩) (by intro hh; cases hh)
theorem f34_r21_ok (F : Nat) (x1 : LL) (x2 : LI) (x8 : Option (List Int)) (x9 : Int) (x28 : LI) (x27 : Bool) (x31 : Int) (x5 : Mm) (x6 : LL) (x7 : Int) (r : Bool) (h : f34_r21 F x1 x2 x8 x9 x28 x27 x31 x5 x6 x7 = some r) : f34_r21_P x1 x2 x8 x9 x28 x27 x31 x5 x6 x7 r := by
 unfold f34_r21 at h
 by_cases h23 : x27 = true
 ·rw [if_pos h23] at h
  obtain rfl := sI h
  exact gRun_ok cxOK (f34_r21_e0 x1 x2 x5 x6 x7 x8 x9 x27 x28 x31) ⟨(by rw [h23]; rfl), (by rw [h23]; rfl), (by rw [h23]; rfl), (by rw [h23]; rfl), (by rw [h23]; rfl), rfl, rfl, rfl, rfl, rfl, rfl, rfl, trivial⟩
 ·rw [if_neg h23] at h
  have h23 := eF h23
  by_cases h24 : (decide (x31 < (((List.length x28) : Nat) : Int))) = true
  ·rw [if_pos h24] at h
   by_cases h25 : (Option.isNone x8) = true
   ·rw [if_pos h25] at h
    obtain rfl := sI h
    exact gRun_ok cxOK (f34_r21_e1 x1 x2 x5 x6 x7 x8 x9 x27 x28 x31) ⟨(by rw [h23]; rfl), (by rw [h23]; rfl), (by rw [h23]; rfl), (by rw [h23]; rfl), (by rw [h23]; rfl), h24, h24, h24, h25, h25, h25, h25, h25, h24, h25, h24, rfl, rfl, rfl, rfl, rfl, rfl, rfl, h24, rfl, h24, trivial⟩
   ·rw [if_neg h25] at h
    have h25 := eF h25
    by_cases h26 : (decide ((((List.length x28) : Nat) : Int) < ((List.length ((x8).getD []) : Nat) : Int))) = true
    ·rw [if_pos h26] at h
     obtain rfl := sI h
     exact gRun_ok cxOK (f34_r21_e2 x1 x2 x5 x6 x7 x8 x9 x27 x28 x31) ⟨(by rw [h23]; rfl), (by rw [h23]; rfl), (by rw [h23]; rfl), (by rw [h23]; rfl), (by rw [h23]; rfl), h24, h24, h24, h25, h25, h25, h25, h25, h24, h25, h24, h26, h26, h26, h26, h26, h26, h26, h24, h26, h24, trivial⟩
    ·rw [if_neg h26] at h
     have h26 := eF h26
     by_cases h27 : ((((List.length x28) : Nat) : Int) == ((List.length ((x8).getD []) : Nat) : Int)) = true
     ·rw [if_pos h27] at h
      obtain ⟨x32, h28, h⟩ := bind_some h
      have ch28 := f56_ok F (List.drop 0 (List.take (0 + (List.length x28)) x28)) x8 _ h28
      try dsimp only at h
      obtain rfl := sI h
      exact gRun_ok cxOK (f34_r21_e3 x1 x2 x5 x6 x7 x8 x9 x27 x28 x31 x32) ⟨(by rw [h23]; rfl), (by rw [h23]; rfl), (by rw [h23]; rfl), (by rw [h23]; rfl), (by rw [h23]; rfl), h24, h24, h24, h25, h25, h25, h25, h25, h24, h25, h24, h26, h26, h26, h26, h26, h26, h27, h27, h27, ch28, (Nat.le_of_eq (Nat.zero_add _)), h27, h26, h27, h24, h26, h24, trivial⟩
     ·rw [if_neg h27] at h
      have h27 := eF h27
      obtain rfl := sI h
      exact gRun_ok cxOK (f34_r21_e4 x1 x2 x5 x6 x7 x8 x9 x27 x28 x31) ⟨(by rw [h23]; rfl), (by rw [h23]; rfl), (by rw [h23]; rfl), (by rw [h23]; rfl), (by rw [h23]; rfl), h24, h24, h24, h25, h25, h25, h25, h25, h24, h25, h24, h26, h26, h26, h26, h26, h26, h27, h27, h27, h27, h26, h27, h24, h26, h24, trivial⟩
  ·rw [if_neg h24] at h
   have h24 := eF h24
   obtain rfl := sI h
   exact gRun_ok cxOK (f34_r21_e5 x1 x2 x5 x6 x7 x8 x9 x27 x28 x31) ⟨(by rw [h23]; rfl), (by rw [h23]; rfl), (by rw [h23]; rfl), (by rw [h23]; rfl), (by rw [h23]; rfl), h24, h24, h24, h24, h24, h24, h24, trivial⟩
theorem f34_p14_ok (F : Nat) (x1 : LL) (x2 : LI) (x8 : Option (List Int)) (x9 : Int) (x28 : LI) (x33 : Bool) (x5 : Mm) (x6 : LL) (x7 : Int) (r : (Option (List Int))) (h : f34_p14 F x1 x2 x8 x9 x28 x33 x5 x6 x7 = some r) : f34_p14_P x1 x2 x8 x9 x28 x33 x5 x6 x7 r := by
 unfold f34_p14 at h
 by_cases h30 : x33 = true
 ·rw [if_pos h30] at h
  obtain ⟨h31, h⟩ := req_some h
  obtain rfl := sI h
  exact gRun_ok cxOK (f34_p14_e0 x1 x2 x5 x6 x7 x8 x9 x28 x33) ⟨h30, (Nat.le_of_eq (Nat.zero_add _)), h31, trivial⟩
 ·rw [if_neg h30] at h
  have h30 := eF h30
  obtain rfl := sI h
  exact gRun_ok cxOK (f34_p14_e1 x1 x2 x5 x6 x7 x8 x9 x28 x33) ⟨h30, trivial⟩
theorem f34_p2_ok (F : Nat) (x1 : LL) (x2 : LI) (x5 : Mm) (x6 : LL) (x7 : Int) : ∀ (k : Nat) (x8 : Option (List Int)) (x9 : Int) (r : (Option (List Int))), f34_p2 F x1 x2 x5 x6 x7 k x8 x9 = some r → f34_p2_P x1 x2 x5 x6 x7 x8 x9 r
 | 0, _, _, _, h => by cases h
 | k + 1, x8, x9, r, h => by
  unfold f34_p2 at h
  obtain ⟨h4, h⟩ := req_some h
  by_cases h5 : (decide (x9 < (iShl .i64 1 ((List.length x1 : Nat) : Int)))) = true
  ·rw [if_pos h5] at h
   obtain ⟨rh20, h20, h⟩ := bind_some h
   have ch20 := f34_p6_ok F x1 x2 x8 x9 x5 x6 x7 F 0 false 0 ([] : List Int) _ h20
   obtain ⟨x26, x27, x28⟩ := rh20
   try dsimp only at h
   obtain ⟨x31, h22, h⟩ := bind_some h
   have ch22 := f34_p11_ok F x1 x2 x8 x9 x28 x27 x5 x6 x7 F x26 0 _ h22
   try dsimp only at h
   obtain ⟨x33, h29, h⟩ := bind_some h
   have ch29 := f34_r21_ok F x1 x2 x8 x9 x28 x27 x31 x5 x6 x7 _ h29
   try dsimp only at h
   obtain ⟨x34, h32, h⟩ := bind_some h
   have ch32 := f34_p14_ok F x1 x2 x8 x9 x28 x33 x5 x6 x7 _ h32
   try dsimp only at h
   exact Lp.again (gRun_ok cxOK (f34_p2_e0 x1 x2 x5 x6 x7 x8 x9 x26 x27 x28 x31 x33 x34) ⟨h4, h5, ch20, ch22, ch29, ch32, trivial⟩) (f34_p2_ok F x1 x2 x5 x6 x7 k x34 (w64 (x9 + 1)) r h)
  ·rw [if_neg h5] at h
   have h5 := eF h5
   obtain rfl := sI h
   exact Lp.out (gRun_ok cxOK (f34_p2_e1 x1 x2 x5 x6 x7 x8 x9) ⟨h4, h5, trivial⟩) (by intro hh; cases hh)
theorem f34_ok (F : Nat) (x1 : LL) (x2 : LI) (r : (List Int) × Int) (h : f34 F x1 x2 = some r) : f34_C x1 x2 r := by
 unfold f34 at h
 obtain ⟨rh1, h1, h⟩ := bind_some h
 have ch1 := f83_ok F x1 x2 _ h1
 cases rh1 with
 | c0 x3 =>
  try dsimp only at h
  by_cases h2 : (x3 != 0) = true
  ·rw [if_pos h2] at h
   obtain rfl := sI h
   exact callOK cxOK cxW Try.func34 (by kernel_rfl) (f34_e0 x1 x2 x3) ⟨ch1, h2, trivial⟩
  ·rw [if_neg h2] at h
   have h2 := eF h2
   cases h
 | c1 x4 x5 x6 x7 =>
  try dsimp only at h
  by_cases h3 : (x4 != 0) = true
  ·rw [if_pos h3] at h
   obtain rfl := sI h
   exact callOK cxOK cxW Try.func34 (by kernel_rfl) (f34_e1 x1 x2 x4 x5 x6 x7) ⟨ch1, h3, trivial⟩
  ·rw [if_neg h3] at h
   have h3 := eF h3
   obtain ⟨x35, h33, h⟩ := bind_some h
   have ch33 := f34_p2_ok F x1 x2 x5 x6 x7 F (none : Option (List Int)) 1 _ h33
   try dsimp only at h
   by_cases h34 : (Option.isNone x35) = true
   ·rw [if_pos h34] at h
    obtain rfl := sI h
    exact callOK cxOK cxW Try.func34 (by kernel_rfl) (f34_e2 x1 x2 x4 x5 x6 x7 x35) ⟨ch1, h3, ch33, h34, trivial⟩
   ·rw [if_neg h34] at h
    have h34 := eF h34
    obtain rfl := sI h
    exact callOK cxOK cxW Try.func34 (by kernel_rfl) (f34_e3 x1 x2 x4 x5 x6 x7 x35) ⟨ch1, h3, ch33, h34, trivial⟩

theorem f89_ok (F : Nat) (x1 x2 : Nat) (x3 : Int) (x4 : LI) (r : Bool × (List Int)) (h : f89 F x1 x2 x3 x4 = some r) : f89_C x1 x2 x3 x4 r := by
 unfold f89 at h
 obtain ⟨x5, h1, h⟩ := bind_some h
 try dsimp only at h
 obtain ⟨x6, h2, h⟩ := bind_some h
 try dsimp only at h
 by_cases h3 : (decide (x5 ≥ (w64 (x6 + x3)))) = true
 ·rw [if_pos h3] at h
  obtain rfl := sI h
  exact callOK cxOK cxW Try.func89 (by kernel_rfl) (f89_e0 x1 x2 x3 x4 x5 x6) ⟨⟨x5, h1, rfl⟩, ⟨x6, h2, rfl⟩, h3, trivial⟩
 ·rw [if_neg h3] at h
  have h3 := eF h3
  obtain ⟨h4, h⟩ := req_some h
  obtain rfl := sI h
  exact callOK cxOK cxW Try.func89 (by kernel_rfl) (f89_e1 x1 x2 x3 x4 x5 x6) ⟨⟨x5, h1, rfl⟩, ⟨x6, h2, rfl⟩, h3, ⟨x6, h2, rfl⟩, h4, trivial⟩

theorem f89_1_ok (F : Nat) (x1 : Nat) (x2 : Int) (x3 : LI) (x4 : Int) (r : Bool × (List Int)) (h : f89_1 F x1 x2 x3 x4 = some r) : f89_1_C x1 x2 x3 x4 r := by
 unfold f89_1 at h
 obtain ⟨x5, h1, h⟩ := bind_some h
 try dsimp only at h
 by_cases h2 : (decide (x5 ≥ (w64 (x4 + x2)))) = true
 ·rw [if_pos h2] at h
  obtain rfl := sI h
  exact callOK cxOK cxW Try.func89 (by kernel_rfl) (f89_1_e0 x1 x2 x3 x4 x5) ⟨⟨x5, h1, rfl⟩, h2, trivial⟩
 ·rw [if_neg h2] at h
  have h2 := eF h2
  obtain ⟨h3, h⟩ := req_some h
  obtain rfl := sI h
  exact callOK cxOK cxW Try.func89 (by kernel_rfl) (f89_1_e1 x1 x2 x3 x4 x5) ⟨⟨x5, h1, rfl⟩, h2, h3, trivial⟩

theorem f88_p8_3_ok (F : Nat) (x1 x2 : Nat) (x7 : LI) (x101 : Bool) (x102 x103 : Int) (x8 : Mm) (x4 : LL) (x5 : Int) (x100 : LI) (r : f88_p8_3_R) (h : f88_p8_3 F x1 x2 x7 x101 x102 x103 x8 x4 x5 x100 = some r) : f88_p8_3_P x1 x2 x7 x101 x102 x103 x8 x4 x5 x100 r := by
 unfold f88_p8_3 at h
 by_cases h98 : (decide (x103 ≥ 0)) = true
 ·rw [if_pos h98] at h
  obtain ⟨h99, h⟩ := req_some h
  obtain rfl := sI h
  exact gRun_ok cxOK (f88_p8_3_e0 x1 x2 x4 x5 x7 x8 x100 x101 x102 x103) ⟨h98, h99, trivial⟩
 ·rw [if_neg h98] at h
  have h98 := eF h98
  obtain rfl := sI h
  exact gRun_ok cxOK (f88_p8_3_e1 x1 x2 x4 x5 x7 x8 x100 x101 x102 x103) ⟨h98, trivial⟩
theorem f88_p13_9_ok (F : Nat) (x1 x2 : Nat) (x7 : LI) (x113 : Bool) (x102 x103 x114 : Int) (x118 : Bool) (x8 : Mm) (x4 : LL) (x5 : Int) (x119 : LI) (r : Bool) (h : f88_p13_9 F x1 x2 x7 x113 x102 x103 x114 x118 x8 x4 x5 x119 = some r) : f88_p13_9_P x1 x2 x7 x113 x102 x103 x114 x118 x8 x4 x5 x119 r := by
 unfold f88_p13_9 at h
 by_cases h117 : x118 = true
 ·rw [if_pos h117] at h
  obtain rfl := sI h
  exact gRun_ok cxOK (f88_p13_9_e0 x1 x2 x4 x5 x7 x8 x102 x103 x113 x114 x118 x119) ⟨h117, trivial⟩
 ·rw [if_neg h117] at h
  have h117 := eF h117
  obtain rfl := sI h
  exact gRun_ok cxOK (f88_p13_9_e1 x1 x2 x4 x5 x7 x8 x102 x103 x113 x114 x118 x119) ⟨h117, trivial⟩
theorem f88_p10_4_ok (F : Nat) (x1 x2 : Nat) (x7 : LI) (x102 x103 : Int) (x8 : Mm) (x4 : LL) (x5 : Int) : ∀ (k : Nat) (x113 : Bool) (x114 : Int) (x112 : LI) (r : Bool × (List Int)), f88_p10_4 F x1 x2 x7 x102 x103 x8 x4 x5 k x113 x114 x112 = some r → f88_p10_4_P x1 x2 x7 x102 x103 x8 x4 x5 x113 x114 x112 r
 | 0, _, _, _, _, h => by cases h
 | k + 1, x113, x114, x112, r, h => by
  unfold f88_p10_4 at h
  by_cases h110 : (decide (x114 < ((x2 : Nat) : Int))) = true
  ·rw [if_pos h110] at h
   by_cases h111 : (x114 != x103) = true
   ·rw [if_pos h111] at h
    obtain ⟨h112, h⟩ := req_some h
    obtain ⟨x115, h113, h⟩ := bind_some h
    try dsimp only at h
    obtain ⟨x116, h114, h⟩ := bind_some h
    try dsimp only at h
    obtain ⟨x117, h115, h⟩ := bind_some h
    have ch115 := f72_ok F x102 x103 x8 x4 x5 _ h115
    try dsimp only at h
    obtain ⟨rh116, h116, h⟩ := bind_some h
    have ch116 := f89_ok F (x1 + (Int.toNat x103)) (x1 + (Int.toNat x114)) (w64 (x116 - x117)) x112 _ h116
    obtain ⟨x118, x119⟩ := rh116
    try dsimp only at h
    obtain ⟨x120, h118, h⟩ := bind_some h
    have ch118 := f88_p13_9_ok F x1 x2 x7 x113 x102 x103 x114 x118 x8 x4 x5 x119 _ h118
    try dsimp only at h
    exact Lp.again (gRun_ok cxOK (f88_p10_4_e0 x1 x2 x4 x5 x7 x8 x102 x103 x112 x113 x114 x115 x116 x117 x118 x119 x120) ⟨h110, h111, h111, h111, h111, h111, h112, h111, h111, h111, h111, h111, h111, ⟨(at?_spec h113).1, x115, (at?_spec h113).2, rfl⟩, h111, h111, h111, ⟨(at?_spec h114).1, x116, (at?_spec h114).2, rfl⟩, h111, h111, h111, h111, h111, ch115, h111, h111, ch116, h111, ch118, trivial⟩) (f88_p10_4_ok F x1 x2 x7 x102 x103 x8 x4 x5 k x120 (w64 (x114 + 1)) x119 r h)
   ·rw [if_neg h111] at h
    have h111 := eF h111
    exact Lp.again (gRun_ok cxOK (f88_p10_4_e1 x1 x2 x4 x5 x7 x8 x102 x103 x112 x113 x114) ⟨h110, h111, h111, h111, h111, h111, h111, h111, h111, h111, h111, h111, h111, h111, h111, h111, h111, h111, h111, h111, h111, h111, h111, rfl, trivial⟩) (f88_p10_4_ok F x1 x2 x7 x102 x103 x8 x4 x5 k x113 (w64 (x114 + 1)) x112 r h)
  ·rw [if_neg h110] at h
   have h110 := eF h110
   obtain rfl := sI h
   exact Lp.out (gRun_ok cxOK (f88_p10_4_e2 x1 x2 x4 x5 x7 x8 x102 x103 x112 x113 x114) ⟨h110, trivial⟩) (by intro hh; cases hh)
theorem f88_p13_11_ok (F : Nat) (x1 x2 : Nat) (x7 : LI) (x132 : Bool) (x102 x103 x133 : Int) (x137 : Bool) (x8 : Mm) (x4 : LL) (x5 : Int) (x138 : LI) (r : Bool) (h : f88_p13_11 F x1 x2 x7 x132 x102 x103 x133 x137 x8 x4 x5 x138 = some r) : f88_p13_11_P x1 x2 x7 x132 x102 x103 x133 x137 x8 x4 x5 x138 r := by
 unfold f88_p13_11 at h
 by_cases h136 : x137 = true
 ·rw [if_pos h136] at h
  obtain rfl := sI h
  exact gRun_ok cxOK (f88_p13_11_e0 x1 x2 x4 x5 x7 x8 x102 x103 x132 x133 x137 x138) ⟨h136, trivial⟩
 ·rw [if_neg h136] at h
  have h136 := eF h136
  obtain rfl := sI h
  exact gRun_ok cxOK (f88_p13_11_e1 x1 x2 x4 x5 x7 x8 x102 x103 x132 x133 x137 x138) ⟨h136, trivial⟩
theorem f88_p10_5_ok (F : Nat) (x1 x2 : Nat) (x7 : LI) (x102 x103 : Int) (x8 : Mm) (x4 : LL) (x5 : Int) : ∀ (k : Nat) (x132 : Bool) (x133 : Int) (x131 : LI) (r : Bool × (List Int)), f88_p10_5 F x1 x2 x7 x102 x103 x8 x4 x5 k x132 x133 x131 = some r → f88_p10_5_P x1 x2 x7 x102 x103 x8 x4 x5 x132 x133 x131 r
 | 0, _, _, _, _, h => by cases h
 | k + 1, x132, x133, x131, r, h => by
  unfold f88_p10_5 at h
  by_cases h129 : (decide (x133 < ((x2 : Nat) : Int))) = true
  ·rw [if_pos h129] at h
   by_cases h130 : (x133 != x103) = true
   ·rw [if_pos h130] at h
    obtain ⟨h131, h⟩ := req_some h
    obtain ⟨x134, h132, h⟩ := bind_some h
    try dsimp only at h
    obtain ⟨x135, h133, h⟩ := bind_some h
    try dsimp only at h
    obtain ⟨x136, h134, h⟩ := bind_some h
    have ch134 := f72_ok F x102 x103 x8 x4 x5 _ h134
    try dsimp only at h
    obtain ⟨rh135, h135, h⟩ := bind_some h
    have ch135 := f89_1_ok F (x1 + (Int.toNat x133)) (w64 (x135 - x136)) x131 0 _ h135
    obtain ⟨x137, x138⟩ := rh135
    try dsimp only at h
    obtain ⟨x139, h137, h⟩ := bind_some h
    have ch137 := f88_p13_11_ok F x1 x2 x7 x132 x102 x103 x133 x137 x8 x4 x5 x138 _ h137
    try dsimp only at h
    exact Lp.again (gRun_ok cxOK (f88_p10_5_e0 x1 x2 x4 x5 x7 x8 x102 x103 x131 x132 x133 x134 x135 x136 x137 x138 x139) ⟨h129, h130, h130, h130, h130, h130, h131, h130, h130, h130, h130, h130, h130, ⟨(at?_spec h132).1, x134, (at?_spec h132).2, rfl⟩, h130, h130, h130, ⟨(at?_spec h133).1, x135, (at?_spec h133).2, rfl⟩, h130, h130, h130, h130, h130, ch134, h130, h130, ch135, h130, ch137, trivial⟩) (f88_p10_5_ok F x1 x2 x7 x102 x103 x8 x4 x5 k x139 (w64 (x133 + 1)) x138 r h)
   ·rw [if_neg h130] at h
    have h130 := eF h130
    exact Lp.again (gRun_ok cxOK (f88_p10_5_e1 x1 x2 x4 x5 x7 x8 x102 x103 x131 x132 x133) ⟨h129, h130, h130, h130, h130, h130, h130, h130, h130, h130, h130, h130, h130, h130, h130, h130, h130, h130, h130, h130, h130, h130, h130, rfl, trivial⟩) (f88_p10_5_ok F x1 x2 x7 x102 x103 x8 x4 x5 k x132 (w64 (x133 + 1)) x131 r h)
  ·rw [if_neg h129] at h
   have h129 := eF h129
   obtain rfl := sI h
   exact Lp.out (gRun_ok cxOK (f88_p10_5_e2 x1 x2 x4 x5 x7 x8 x102 x103 x131 x132 x133) ⟨h129, trivial⟩) (by intro hh; cases hh)
theorem f88_p5_1_ok (F : Nat) (x1 x2 : Nat) (x7 : LI) (x8 : Mm) (x4 : LL) (x5 : Int) : ∀ (k : Nat) (x101 : Bool) (x102 : Int) (x100 : LI) (r : Bool × (List Int)), f88_p5_1 F x1 x2 x7 x8 x4 x5 k x101 x102 x100 = some r → f88_p5_1_P x1 x2 x7 x8 x4 x5 x101 x102 x100 r
 | 0, _, _, _, _, h => by cases h
 | k + 1, x101, x102, x100, r, h => by
  unfold f88_p5_1 at h
  by_cases h96 : (decide (x102 < ((List.length x7 : Nat) : Int))) = true
  ·rw [if_pos h96] at h
   obtain ⟨x103, h97, h⟩ := bind_some h
   try dsimp only at h
   obtain ⟨rh100, h100, h⟩ := bind_some h
   have ch100 := f88_p8_3_ok F x1 x2 x7 x101 x102 x103 x8 x4 x5 x100 _ h100
   cases rh100 with
   | c0 =>
    try dsimp only at h
    obtain ⟨rh119, h119, h⟩ := bind_some h
    have ch119 := f88_p10_4_ok F x1 x2 x7 x102 x103 x8 x4 x5 F x101 0 x100 _ h119
    obtain ⟨x121, x122⟩ := rh119
    try dsimp only at h
    exact Lp.again (gRun_ok cxOK (f88_p5_1_e0 x1 x2 x4 x5 x7 x8 x100 x101 x102 x103 x121 x122) ⟨h96, ⟨(at?_spec h97).1, x103, (at?_spec h97).2, rfl⟩, ch100, ch119, trivial⟩) (f88_p5_1_ok F x1 x2 x7 x8 x4 x5 k x121 (w64 (x102 + 1)) x122 r h)
   | c1 =>
    try dsimp only at h
    obtain ⟨rh138, h138, h⟩ := bind_some h
    have ch138 := f88_p10_5_ok F x1 x2 x7 x102 x103 x8 x4 x5 F x101 0 x100 _ h138
    obtain ⟨x140, x141⟩ := rh138
    try dsimp only at h
    exact Lp.again (gRun_ok cxOK (f88_p5_1_e1 x1 x2 x4 x5 x7 x8 x100 x101 x102 x103 x140 x141) ⟨h96, ⟨(at?_spec h97).1, x103, (at?_spec h97).2, rfl⟩, ch100, ch138, trivial⟩) (f88_p5_1_ok F x1 x2 x7 x8 x4 x5 k x140 (w64 (x102 + 1)) x141 r h)
  ·rw [if_neg h96] at h
   have h96 := eF h96
   obtain rfl := sI h
   exact Lp.out (gRun_ok cxOK (f88_p5_1_e2 x1 x2 x4 x5 x7 x8 x100 x101 x102) ⟨h96, trivial⟩) (by intro hh; cases hh)
theorem f88_p1_18_ok (F : Nat) (x1 x2 : Nat) (x7 : LI) (x8 : Mm) (x4 : LL) (x5 : Int) : ∀ (k : Nat) (x77 : Bool) (x76 : LI) (r : (List Int)), f88_p1_18 F x1 x2 x7 x8 x4 x5 k x77 x76 = some r → f88_p1_18_P x1 x2 x7 x8 x4 x5 x77 x76 r
 | 0, _, _, _, h => by cases h
 | k + 1, x77, x76, r, h => by
  unfold f88_p1_18 at h
  by_cases h71 : x77 = true
  ·rw [if_pos h71] at h
   obtain ⟨rh139, h139, h⟩ := bind_some h
   have ch139 := f88_p5_1_ok F x1 x2 x7 x8 x4 x5 F false 0 x76 _ h139
   obtain ⟨x142, x143⟩ := rh139
   try dsimp only at h
   exact Lp.again (gRun_ok cxOK (f88_p1_18_e0 x1 x2 x4 x5 x7 x8 x76 x77 x142 x143) ⟨h71, ch139, trivial⟩) (f88_p1_18_ok F x1 x2 x7 x8 x4 x5 k x142 x143 r h)
  ·rw [if_neg h71] at h
   have h71 := eF h71
   obtain rfl := sI h
   exact Lp.out (gRun_ok cxOK (f88_p1_18_e1 x1 x2 x4 x5 x7 x8 x76 x77) ⟨h71, trivial⟩) (by intro hh; cases hh)
theorem f88_ok (F : Nat) (x1 x2 : Nat) (x3 : Mm) (x4 : LL) (x5 : Int) (x6 : LI) (r : Nat × Nat × Mm × (List Int)) (h : f88 F x1 x2 x3 x4 x5 x6 = some r) : f88_C x1 x2 x3 x4 x5 x6 r := by
 unfold f88 at h
 obtain ⟨rh1, h1, h⟩ := bind_some h
 have ch1 := f66_ok F x3 x4 x5 _ h1
 obtain ⟨x7, x8⟩ := rh1
 try dsimp only at h
 obtain ⟨x144, h140, h⟩ := bind_some h
 have ch140 := f88_p1_18_ok F x1 x2 x7 x8 x4 x5 F true x6 _ h140
 try dsimp only at h
 obtain rfl := sI h
 exact callOK cxOK cxW Try.func88 (by kernel_rfl) (f88_e0 x1 x2 x3 x4 x5 x6 x7 x8 x144) ⟨ch1, ch140, trivial⟩

theorem f39_ok (F : Nat) (x1 : LL) (r : (List Int) × Int) (h : f39 F x1 = some r) : f39_C x1 r := by
 unfold f39 at h
 obtain ⟨rh1, h1, h⟩ := bind_some h
 have ch1 := f65_ok F x1 _ h1
 cases rh1 with
 | c0 x2 =>
  try dsimp only at h
  by_cases h2 : (x2 != 0) = true
  ·rw [if_pos h2] at h
   obtain rfl := sI h
   exact callOK cxOK cxW Try.func39 (by kernel_rfl) (f39_e0 x1 x2) ⟨ch1, h2, trivial⟩
  ·rw [if_neg h2] at h
   have h2 := eF h2
   cases h
 | c1 x3 x4 x5 x6 =>
  try dsimp only at h
  by_cases h3 : (x3 != 0) = true
  ·rw [if_pos h3] at h
   obtain rfl := sI h
   exact callOK cxOK cxW Try.func39 (by kernel_rfl) (f39_e1 x1 x3 x4 x5 x6) ⟨ch1, h3, trivial⟩
  ·rw [if_neg h3] at h
   have h3 := eF h3
   obtain ⟨h4, h⟩ := req_some h
   obtain ⟨rh5, h5, h⟩ := bind_some h
   have ch5 := f88_ok F 0 (Int.toNat x6) x4 x5 x6 (List.replicate (Int.toNat x6) (0 : Int)) _ h5
   obtain ⟨x7, x8, x9, x10⟩ := rh5
   try dsimp only at h
   obtain ⟨h6, h⟩ := req_some h
   obtain rfl := sI h
   exact callOK cxOK cxW Try.func39 (by kernel_rfl) (f39_e2 x1 x3 x4 x5 x6 x7 x8 x9 x10) ⟨ch1, h3, h4, ch5, h6, trivial⟩

theorem f64_ok (F : Nat) (r : (List (List Int))) (h : f64 F = some r) : f64_C r := by
 unfold f64 at h
 obtain ⟨x1, h1, h⟩ := bind_some h
 have ch1 := f45_ok F ([7, 7] : List Int) _ h1
 try dsimp only at h
 obtain ⟨x2, h2, h⟩ := bind_some h
 have ch2 := f45_ok F ([7, 2] : List Int) _ h2
 try dsimp only at h
 obtain ⟨x3, h3, h⟩ := bind_some h
 have ch3 := f46_ok F ([x1, x2] : List (List Int)) _ h3
 try dsimp only at h
 obtain rfl := sI h
 exact callOK cxOK cxW Try.func64 (by kernel_rfl) (f64_e0 x1 x2 x3) ⟨ch1, ch2, ch3, trivial⟩

theorem f91_ok (F : Nat) (x1 x2 : Nat) (x3 : Int) (x4 : LI) (r : Bool × (List Int)) (h : f91 F x1 x2 x3 x4 = some r) : f91_C x1 x2 x3 x4 r := by
 unfold f91 at h
 obtain ⟨x5, h1, h⟩ := bind_some h
 try dsimp only at h
 obtain ⟨x6, h2, h⟩ := bind_some h
 try dsimp only at h
 by_cases h3 : (decide (x5 ≥ (w64 (x6 + x3)))) = true
 ·rw [if_pos h3] at h
  obtain rfl := sI h
  exact callOK cxOK cxW Try.func91 (by kernel_rfl) (f91_e0 x1 x2 x3 x4 x5 x6) ⟨⟨x5, h1, rfl⟩, ⟨x6, h2, rfl⟩, h3, trivial⟩
 ·rw [if_neg h3] at h
  have h3 := eF h3
  obtain ⟨h4, h⟩ := req_some h
  obtain rfl := sI h
  exact callOK cxOK cxW Try.func91 (by kernel_rfl) (f91_e1 x1 x2 x3 x4 x5 x6) ⟨⟨x5, h1, rfl⟩, ⟨x6, h2, rfl⟩, h3, ⟨x5, h1, rfl⟩, h4, trivial⟩

theorem f91_1_ok (F : Nat) (x1 : Nat) (x2 : Int) (x3 : LI) (x4 : Int) (r : Bool × Int) (h : f91_1 F x1 x2 x3 x4 = some r) : f91_1_C x1 x2 x3 x4 r := by
 unfold f91_1 at h
 obtain ⟨x5, h1, h⟩ := bind_some h
 try dsimp only at h
 by_cases h2 : (decide (x5 ≥ (w64 (x4 + x2)))) = true
 ·rw [if_pos h2] at h
  obtain rfl := sI h
  exact callOK cxOK cxW Try.func91 (by kernel_rfl) (f91_1_e0 x1 x2 x3 x4 x5) ⟨⟨x5, h1, rfl⟩, h2, trivial⟩
 ·rw [if_neg h2] at h
  have h2 := eF h2
  obtain rfl := sI h
  exact callOK cxOK cxW Try.func91 (by kernel_rfl) (f91_1_e1 x1 x2 x3 x4 x5) ⟨⟨x5, h1, rfl⟩, h2, ⟨x5, h1, rfl⟩, trivial⟩

theorem f88_1_p8_5_ok (F : Nat) (x1 x2 : Nat) (x7 : LI) (x188 : Bool) (x189 x191 : Int) (x8 : Mm) (x4 : LL) (x5 : Int) (x187 : LI) (x190 : Int) (r : f88_1_p8_5_R) (h : f88_1_p8_5 F x1 x2 x7 x188 x189 x191 x8 x4 x5 x187 x190 = some r) : f88_1_p8_5_P x1 x2 x7 x188 x189 x191 x8 x4 x5 x187 x190 r := by
 unfold f88_1_p8_5 at h
 by_cases h184 : (decide (x191 ≥ 0)) = true
 ·rw [if_pos h184] at h
  obtain ⟨h185, h⟩ := req_some h
  obtain rfl := sI h
  exact gRun_ok cxOK (f88_1_p8_5_e0 x1 x2 x4 x5 x7 x8 x187 x188 x189 x190 x191) ⟨h184, h185, trivial⟩
 ·rw [if_neg h184] at h
  have h184 := eF h184
  obtain rfl := sI h
  exact gRun_ok cxOK (f88_1_p8_5_e1 x1 x2 x4 x5 x7 x8 x187 x188 x189 x190 x191) ⟨h184, trivial⟩
theorem f88_1_p13_17_ok (F : Nat) (x1 x2 : Nat) (x7 : LI) (x201 : Bool) (x189 x191 x202 : Int) (x206 : Bool) (x8 : Mm) (x4 : LL) (x5 : Int) (x207 : LI) (x190 : Int) (r : Bool) (h : f88_1_p13_17 F x1 x2 x7 x201 x189 x191 x202 x206 x8 x4 x5 x207 x190 = some r) : f88_1_p13_17_P x1 x2 x7 x201 x189 x191 x202 x206 x8 x4 x5 x207 x190 r := by
 unfold f88_1_p13_17 at h
 by_cases h203 : x206 = true
 ·rw [if_pos h203] at h
  obtain rfl := sI h
  exact gRun_ok cxOK (f88_1_p13_17_e0 x1 x2 x4 x5 x7 x8 x189 x190 x191 x201 x202 x206 x207) ⟨h203, trivial⟩
 ·rw [if_neg h203] at h
  have h203 := eF h203
  obtain rfl := sI h
  exact gRun_ok cxOK (f88_1_p13_17_e1 x1 x2 x4 x5 x7 x8 x189 x190 x191 x201 x202 x206 x207) ⟨h203, trivial⟩
theorem f88_1_p10_8_ok (F : Nat) (x1 x2 : Nat) (x7 : LI) (x189 x191 : Int) (x8 : Mm) (x4 : LL) (x5 x190 : Int) : ∀ (k : Nat) (x201 : Bool) (x202 : Int) (x200 : LI) (r : Bool × (List Int)), f88_1_p10_8 F x1 x2 x7 x189 x191 x8 x4 x5 x190 k x201 x202 x200 = some r → f88_1_p10_8_P x1 x2 x7 x189 x191 x8 x4 x5 x190 x201 x202 x200 r
 | 0, _, _, _, _, h => by cases h
 | k + 1, x201, x202, x200, r, h => by
  unfold f88_1_p10_8 at h
  by_cases h196 : (decide (x202 < ((x2 : Nat) : Int))) = true
  ·rw [if_pos h196] at h
   by_cases h197 : (x202 != x191) = true
   ·rw [if_pos h197] at h
    obtain ⟨h198, h⟩ := req_some h
    obtain ⟨x203, h199, h⟩ := bind_some h
    try dsimp only at h
    obtain ⟨x204, h200, h⟩ := bind_some h
    try dsimp only at h
    obtain ⟨x205, h201, h⟩ := bind_some h
    have ch201 := f72_ok F x189 x191 x8 x4 x5 _ h201
    try dsimp only at h
    obtain ⟨rh202, h202, h⟩ := bind_some h
    have ch202 := f91_ok F (x1 + (Int.toNat x191)) (x1 + (Int.toNat x202)) (w64 (x204 - x205)) x200 _ h202
    obtain ⟨x206, x207⟩ := rh202
    try dsimp only at h
    obtain ⟨x208, h204, h⟩ := bind_some h
    have ch204 := f88_1_p13_17_ok F x1 x2 x7 x201 x189 x191 x202 x206 x8 x4 x5 x207 x190 _ h204
    try dsimp only at h
    exact Lp.again (gRun_ok cxOK (f88_1_p10_8_e0 x1 x2 x4 x5 x7 x8 x189 x190 x191 x200 x201 x202 x203 x204 x205 x206 x207 x208) ⟨h196, h197, h197, h197, h197, h197, h198, h197, h197, h197, h197, h197, h197, ⟨(at?_spec h199).1, x203, (at?_spec h199).2, rfl⟩, h197, h197, h197, ⟨(at?_spec h200).1, x204, (at?_spec h200).2, rfl⟩, h197, h197, h197, h197, h197, ch201, h197, h197, ch202, h197, ch204, trivial⟩) (f88_1_p10_8_ok F x1 x2 x7 x189 x191 x8 x4 x5 x190 k x208 (w64 (x202 + 1)) x207 r h)
   ·rw [if_neg h197] at h
    have h197 := eF h197
    exact Lp.again (gRun_ok cxOK (f88_1_p10_8_e1 x1 x2 x4 x5 x7 x8 x189 x190 x191 x200 x201 x202) ⟨h196, h197, h197, h197, h197, h197, h197, h197, h197, h197, h197, h197, h197, h197, h197, h197, h197, h197, h197, h197, h197, h197, h197, rfl, trivial⟩) (f88_1_p10_8_ok F x1 x2 x7 x189 x191 x8 x4 x5 x190 k x201 (w64 (x202 + 1)) x200 r h)
  ·rw [if_neg h196] at h
   have h196 := eF h196
   obtain rfl := sI h
   exact Lp.out (gRun_ok cxOK (f88_1_p10_8_e2 x1 x2 x4 x5 x7 x8 x189 x190 x191 x200 x201 x202) ⟨h196, trivial⟩) (by intro hh; cases hh)
theorem f88_1_p13_19_ok (F : Nat) (x1 x2 : Nat) (x7 : LI) (x219 : Bool) (x189 x191 x220 : Int) (x225 : Bool) (x8 : Mm) (x4 : LL) (x5 : Int) (x187 : LI) (x226 : Int) (r : Bool) (h : f88_1_p13_19 F x1 x2 x7 x219 x189 x191 x220 x225 x8 x4 x5 x187 x226 = some r) : f88_1_p13_19_P x1 x2 x7 x219 x189 x191 x220 x225 x8 x4 x5 x187 x226 r := by
 unfold f88_1_p13_19 at h
 by_cases h222 : x225 = true
 ·rw [if_pos h222] at h
  obtain rfl := sI h
  exact gRun_ok cxOK (f88_1_p13_19_e0 x1 x2 x4 x5 x7 x8 x187 x189 x191 x219 x220 x225 x226) ⟨h222, trivial⟩
 ·rw [if_neg h222] at h
  have h222 := eF h222
  obtain rfl := sI h
  exact gRun_ok cxOK (f88_1_p13_19_e1 x1 x2 x4 x5 x7 x8 x187 x189 x191 x219 x220 x225 x226) ⟨h222, trivial⟩
theorem f88_1_p10_9_ok (F : Nat) (x1 x2 : Nat) (x7 : LI) (x189 x191 : Int) (x8 : Mm) (x4 : LL) (x5 : Int) (x187 : LI) : ∀ (k : Nat) (x219 : Bool) (x220 x221 : Int) (r : Bool × Int), f88_1_p10_9 F x1 x2 x7 x189 x191 x8 x4 x5 x187 k x219 x220 x221 = some r → f88_1_p10_9_P x1 x2 x7 x189 x191 x8 x4 x5 x187 x219 x220 x221 r
 | 0, _, _, _, _, h => by cases h
 | k + 1, x219, x220, x221, r, h => by
  unfold f88_1_p10_9 at h
  by_cases h215 : (decide (x220 < ((x2 : Nat) : Int))) = true
  ·rw [if_pos h215] at h
   by_cases h216 : (x220 != x191) = true
   ·rw [if_pos h216] at h
    obtain ⟨h217, h⟩ := req_some h
    obtain ⟨x222, h218, h⟩ := bind_some h
    try dsimp only at h
    obtain ⟨x223, h219, h⟩ := bind_some h
    try dsimp only at h
    obtain ⟨x224, h220, h⟩ := bind_some h
    have ch220 := f72_ok F x189 x191 x8 x4 x5 _ h220
    try dsimp only at h
    obtain ⟨rh221, h221, h⟩ := bind_some h
    have ch221 := f91_1_ok F (x1 + (Int.toNat x220)) (w64 (x223 - x224)) x187 x221 _ h221
    obtain ⟨x225, x226⟩ := rh221
    try dsimp only at h
    obtain ⟨x227, h223, h⟩ := bind_some h
    have ch223 := f88_1_p13_19_ok F x1 x2 x7 x219 x189 x191 x220 x225 x8 x4 x5 x187 x226 _ h223
    try dsimp only at h
    exact Lp.again (gRun_ok cxOK (f88_1_p10_9_e0 x1 x2 x4 x5 x7 x8 x187 x189 x191 x219 x220 x221 x222 x223 x224 x225 x226 x227) ⟨h215, h216, h216, h216, h216, h216, h217, h216, h216, h216, h216, h216, h216, ⟨(at?_spec h218).1, x222, (at?_spec h218).2, rfl⟩, h216, h216, h216, ⟨(at?_spec h219).1, x223, (at?_spec h219).2, rfl⟩, h216, h216, h216, h216, h216, ch220, h216, h216, ch221, h216, ch223, trivial⟩) (f88_1_p10_9_ok F x1 x2 x7 x189 x191 x8 x4 x5 x187 k x227 (w64 (x220 + 1)) x226 r h)
   ·rw [if_neg h216] at h
    have h216 := eF h216
    exact Lp.again (gRun_ok cxOK (f88_1_p10_9_e1 x1 x2 x4 x5 x7 x8 x187 x189 x191 x219 x220 x221) ⟨h215, h216, h216, h216, h216, h216, h216, h216, h216, h216, h216, h216, h216, h216, h216, h216, h216, h216, h216, h216, h216, h216, h216, rfl, trivial⟩) (f88_1_p10_9_ok F x1 x2 x7 x189 x191 x8 x4 x5 x187 k x219 (w64 (x220 + 1)) x221 r h)
  ·rw [if_neg h215] at h
   have h215 := eF h215
   obtain rfl := sI h
   exact Lp.out (gRun_ok cxOK (f88_1_p10_9_e2 x1 x2 x4 x5 x7 x8 x187 x189 x191 x219 x220 x221) ⟨h215, trivial⟩) (by intro hh; cases hh)
theorem f88_1_p5_1_ok (F : Nat) (x1 x2 : Nat) (x7 : LI) (x8 : Mm) (x4 : LL) (x5 : Int) : ∀ (k : Nat) (x188 : Bool) (x189 : Int) (x187 : LI) (x190 : Int) (r : Bool × (List Int) × Int), f88_1_p5_1 F x1 x2 x7 x8 x4 x5 k x188 x189 x187 x190 = some r → f88_1_p5_1_P x1 x2 x7 x8 x4 x5 x188 x189 x187 x190 r
 | 0, _, _, _, _, _, h => by cases h
 | k + 1, x188, x189, x187, x190, r, h => by
  unfold f88_1_p5_1 at h
  by_cases h182 : (decide (x189 < ((List.length x7 : Nat) : Int))) = true
  ·rw [if_pos h182] at h
   obtain ⟨x191, h183, h⟩ := bind_some h
   try dsimp only at h
   obtain ⟨rh186, h186, h⟩ := bind_some h
   have ch186 := f88_1_p8_5_ok F x1 x2 x7 x188 x189 x191 x8 x4 x5 x187 x190 _ h186
   cases rh186 with
   | c0 =>
    try dsimp only at h
    obtain ⟨rh205, h205, h⟩ := bind_some h
    have ch205 := f88_1_p10_8_ok F x1 x2 x7 x189 x191 x8 x4 x5 x190 F x188 0 x187 _ h205
    obtain ⟨x209, x210⟩ := rh205
    try dsimp only at h
    exact Lp.again (gRun_ok cxOK (f88_1_p5_1_e0 x1 x2 x4 x5 x7 x8 x187 x188 x189 x190 x191 x209 x210) ⟨h182, ⟨(at?_spec h183).1, x191, (at?_spec h183).2, rfl⟩, ch186, ch205, trivial⟩) (f88_1_p5_1_ok F x1 x2 x7 x8 x4 x5 k x209 (w64 (x189 + 1)) x210 x190 r h)
   | c1 =>
    try dsimp only at h
    obtain ⟨rh224, h224, h⟩ := bind_some h
    have ch224 := f88_1_p10_9_ok F x1 x2 x7 x189 x191 x8 x4 x5 x187 F x188 0 x190 _ h224
    obtain ⟨x228, x229⟩ := rh224
    try dsimp only at h
    exact Lp.again (gRun_ok cxOK (f88_1_p5_1_e1 x1 x2 x4 x5 x7 x8 x187 x188 x189 x190 x191 x228 x229) ⟨h182, ⟨(at?_spec h183).1, x191, (at?_spec h183).2, rfl⟩, ch186, ch224, trivial⟩) (f88_1_p5_1_ok F x1 x2 x7 x8 x4 x5 k x228 (w64 (x189 + 1)) x187 x229 r h)
  ·rw [if_neg h182] at h
   have h182 := eF h182
   obtain rfl := sI h
   exact Lp.out (gRun_ok cxOK (f88_1_p5_1_e2 x1 x2 x4 x5 x7 x8 x187 x188 x189 x190) ⟨h182, trivial⟩) (by intro hh; cases hh)
theorem f88_1_p1_30_ok (F : Nat) (x1 x2 : Nat) (x7 : LI) (x8 : Mm) (x4 : LL) (x5 : Int) : ∀ (k : Nat) (x121 : Bool) (x120 : LI) (x122 : Int) (r : (List Int)), f88_1_p1_30 F x1 x2 x7 x8 x4 x5 k x121 x120 x122 = some r → f88_1_p1_30_P x1 x2 x7 x8 x4 x5 x121 x120 x122 r
 | 0, _, _, _, _, h => by cases h
 | k + 1, x121, x120, x122, r, h => by
  unfold f88_1_p1_30 at h
  by_cases h114 : x121 = true
  ·rw [if_pos h114] at h
   obtain ⟨rh225, h225, h⟩ := bind_some h
   have ch225 := f88_1_p5_1_ok F x1 x2 x7 x8 x4 x5 F false 0 x120 x122 _ h225
   obtain ⟨x230, x231, x232⟩ := rh225
   try dsimp only at h
   exact Lp.again (gRun_ok cxOK (f88_1_p1_30_e0 x1 x2 x4 x5 x7 x8 x120 x121 x122 x230 x231 x232) ⟨h114, ch225, trivial⟩) (f88_1_p1_30_ok F x1 x2 x7 x8 x4 x5 k x230 x231 x232 r h)
  ·rw [if_neg h114] at h
   have h114 := eF h114
   obtain rfl := sI h
   exact Lp.out (gRun_ok cxOK (f88_1_p1_30_e1 x1 x2 x4 x5 x7 x8 x120 x121 x122) ⟨h114, trivial⟩) (by intro hh; cases hh)
theorem f88_1_ok (F : Nat) (x1 x2 : Nat) (x3 : Mm) (x4 : LL) (x5 : Int) (x6 : LI) (r : Nat × Nat × Mm × (List Int)) (h : f88_1 F x1 x2 x3 x4 x5 x6 = some r) : f88_1_C x1 x2 x3 x4 x5 x6 r := by
 unfold f88_1 at h
 obtain ⟨rh1, h1, h⟩ := bind_some h
 have ch1 := f66_ok F x3 x4 x5 _ h1
 obtain ⟨x7, x8⟩ := rh1
 try dsimp only at h
 obtain ⟨x233, h226, h⟩ := bind_some h
 have ch226 := f88_1_p1_30_ok F x1 x2 x7 x8 x4 x5 F true x6 0 _ h226
 try dsimp only at h
 obtain rfl := sI h
 exact callOK cxOK cxW Try.func88 (by kernel_rfl) (f88_1_e0 x1 x2 x3 x4 x5 x6 x7 x8 x233) ⟨ch1, ch226, trivial⟩

theorem f41_p5_1_ok (F : Nat) (x1 : LL) (x6 x15 x16 : Int) (x7 : LI) (x8 : Mm) (x5 : LL) (x14 : LI) (r : (List Int)) (h : f41_p5_1 F x1 x6 x15 x16 x7 x8 x5 x14 = some r) : f41_p5_1_P x1 x6 x15 x16 x7 x8 x5 x14 r := by
 unfold f41_p5_1 at h
 by_cases h16 : (decide (x16 ≥ 0)) = true
 ·rw [if_pos h16] at h
  obtain ⟨x17, h17, h⟩ := bind_some h
  try dsimp only at h
  obtain ⟨x18, h18, h⟩ := bind_some h
  try dsimp only at h
  obtain ⟨h19, h⟩ := req_some h
  obtain ⟨h20, h⟩ := req_some h
  obtain rfl := sI h
  exact gRun_ok cxOK (f41_p5_1_e0 x1 x5 x6 x7 x8 x14 x15 x16 x17 x18) ⟨h16, ⟨(at?_spec h17).1, x17, (at?_spec h17).2, rfl⟩, ⟨(at?_spec h18).1, x18, (at?_spec h18).2, rfl⟩, h19, h20, trivial⟩
 ·rw [if_neg h16] at h
  have h16 := eF h16
  obtain rfl := sI h
  exact gRun_ok cxOK (f41_p5_1_e1 x1 x5 x6 x7 x8 x14 x15 x16) ⟨h16, trivial⟩
theorem f41_p2_ok (F : Nat) (x1 : LL) (x6 : Int) (x7 : LI) (x8 : Mm) (x5 : LL) : ∀ (k : Nat) (x15 : Int) (x14 : LI) (r : (List Int)), f41_p2 F x1 x6 x7 x8 x5 k x15 x14 = some r → f41_p2_P x1 x6 x7 x8 x5 x15 x14 r
 | 0, _, _, _, h => by cases h
 | k + 1, x15, x14, r, h => by
  unfold f41_p2 at h
  by_cases h14 : (decide (x15 < ((List.length x7 : Nat) : Int))) = true
  ·rw [if_pos h14] at h
   obtain ⟨x16, h15, h⟩ := bind_some h
   try dsimp only at h
   obtain ⟨x19, h21, h⟩ := bind_some h
   have ch21 := f41_p5_1_ok F x1 x6 x15 x16 x7 x8 x5 x14 _ h21
   try dsimp only at h
   exact Lp.again (gRun_ok cxOK (f41_p2_e0 x1 x5 x6 x7 x8 x14 x15 x16 x19) ⟨h14, ⟨(at?_spec h15).1, x16, (at?_spec h15).2, rfl⟩, ch21, trivial⟩) (f41_p2_ok F x1 x6 x7 x8 x5 k (w64 (x15 + 1)) x19 r h)
  ·rw [if_neg h14] at h
   have h14 := eF h14
   obtain rfl := sI h
   exact Lp.out (gRun_ok cxOK (f41_p2_e1 x1 x5 x6 x7 x8 x14 x15) ⟨h14, trivial⟩) (by intro hh; cases hh)
theorem f41_ok (F : Nat) (x1 : LL) (r : (List Int) × Int) (h : f41 F x1 = some r) : f41_C x1 r := by
 unfold f41 at h
 obtain ⟨rh1, h1, h⟩ := bind_some h
 have ch1 := f65_ok F x1 _ h1
 cases rh1 with
 | c0 x2 =>
  try dsimp only at h
  by_cases h2 : (x2 != 0) = true
  ·rw [if_pos h2] at h
   obtain rfl := sI h
   exact callOK cxOK cxW Try.func41 (by kernel_rfl) (f41_e0 x1 x2) ⟨ch1, h2, trivial⟩
  ·rw [if_neg h2] at h
   have h2 := eF h2
   cases h
 | c1 x3 x4 x5 x6 =>
  try dsimp only at h
  by_cases h3 : (x3 != 0) = true
  ·rw [if_pos h3] at h
   obtain rfl := sI h
   exact callOK cxOK cxW Try.func41 (by kernel_rfl) (f41_e1 x1 x3 x4 x5 x6) ⟨ch1, h3, trivial⟩
  ·rw [if_neg h3] at h
   have h3 := eF h3
   obtain ⟨h4, h⟩ := req_some h
   obtain ⟨rh5, h5, h⟩ := bind_some h
   have ch5 := f66_ok F x4 x5 x6 _ h5
   obtain ⟨x7, x8⟩ := rh5
   try dsimp only at h
   obtain ⟨x20, h22, h⟩ := bind_some h
   have ch22 := f41_p2_ok F x1 x6 x7 x8 x5 F 0 (List.replicate (Int.toNat x6) (0 : Int)) _ h22
   try dsimp only at h
   obtain ⟨rh23, h23, h⟩ := bind_some h
   have ch23 := f88_1_ok F 0 (Int.toNat x6) x8 x5 x6 x20 _ h23
   obtain ⟨x21, x22, x23, x24⟩ := rh23
   try dsimp only at h
   obtain ⟨h24, h⟩ := req_some h
   obtain rfl := sI h
   exact callOK cxOK cxW Try.func41 (by kernel_rfl) (f41_e2 x1 x3 x4 x5 x6 x7 x8 x20 x21 x22 x23 x24) ⟨ch1, h3, h4, ch5, ch22, ch23, h24, trivial⟩

theorem f21_p4_ok (F : Nat) (x2 : LI) (x5 : Mm) (x6 : LL) (x7 : Int) : ∀ (k : Nat) (x9 x10 x11 : Int) (r : f21_p4_R), f21_p4 F x2 x5 x6 x7 k x9 x10 x11 = some r → f21_p4_P x2 x5 x6 x7 x9 x10 x11 r
 | 0, _, _, _, _, h => by cases h
 | k + 1, x9, x10, x11, r, h => by
  unfold f21_p4 at h
  by_cases h6 : (decide (x11 < ((List.length x2 : Nat) : Int))) = true
  ·rw [if_pos h6] at h
   obtain ⟨x12, h7, h⟩ := bind_some h
   try dsimp only at h
   obtain ⟨x13, h8, h⟩ := bind_some h
   have ch8 := f70_ok F (-1) x12 (w64 (x7 - 1)) _ h8
   try dsimp only at h
   by_cases h9 : x13 = true
   ·rw [if_pos h9] at h
    obtain ⟨rh10, h10, h⟩ := bind_some h
    have ch10 := f71_ok F x9 x12 _ h10
    obtain ⟨x14, x15⟩ := rh10
    try dsimp only at h
    by_cases h11 : x15 = true
    ·rw [if_pos h11] at h
     obtain ⟨x16, h12, h⟩ := bind_some h
     have ch12 := f72_ok F x11 x12 x5 x6 x7 _ h12
     try dsimp only at h
     exact Lp.again (gRun_ok cxOK (f21_p4_e0 x2 x5 x6 x7 x9 x10 x11 x12 x13 x14 x15 x16) ⟨h6, ⟨(at?_spec h7).1, x12, (at?_spec h7).2, rfl⟩, ch8, (by rw [h9]; rfl), ch10, (by rw [h11]; rfl), ch12, trivial⟩) (f21_p4_ok F x2 x5 x6 x7 k x14 (w64 (x10 + x16)) (w64 (x11 + 1)) r h)
    ·rw [if_neg h11] at h
     have h11 := eF h11
     obtain rfl := sI h
     exact Lp.out (gRun_ok cxOK (f21_p4_e1 x2 x5 x6 x7 x9 x10 x11 x12 x13 x14 x15) ⟨h6, ⟨(at?_spec h7).1, x12, (at?_spec h7).2, rfl⟩, ch8, (by rw [h9]; rfl), ch10, (by rw [h11]; rfl), trivial⟩) (by intro hh; cases hh)
   ·rw [if_neg h9] at h
    have h9 := eF h9
    obtain rfl := sI h
    exact Lp.out (gRun_ok cxOK (f21_p4_e2 x2 x5 x6 x7 x9 x10 x11 x12 x13) ⟨h6, ⟨(at?_spec h7).1, x12, (at?_spec h7).2, rfl⟩, ch8, (by rw [h9]; rfl), trivial⟩) (by intro hh; cases hh)
  ·rw [if_neg h6] at h
   have h6 := eF h6
   obtain rfl := sI h
   exact Lp.out (gRun_ok cxOK (f21_p4_e3 x2 x5 x6 x7 x9 x10 x11) ⟨h6, trivial⟩) (by intro hh; cases hh)
theorem f21_ok (F : Nat) (x1 : LL) (x2 : LI) (r : Int × Int) (h : f21 F x1 x2 = some r) : f21_C x1 x2 r := by
 unfold f21 at h
 obtain ⟨rh1, h1, h⟩ := bind_some h
 have ch1 := f65_ok F x1 _ h1
 cases rh1 with
 | c0 x3 =>
  try dsimp only at h
  by_cases h2 : (x3 != 0) = true
  ·rw [if_pos h2] at h
   obtain rfl := sI h
   exact callOK cxOK cxW Try.func21 (by kernel_rfl) (f21_e0 x1 x2 x3) ⟨ch1, h2, trivial⟩
  ·rw [if_neg h2] at h
   have h2 := eF h2
   cases h
 | c1 x4 x5 x6 x7 =>
  try dsimp only at h
  by_cases h3 : (x4 != 0) = true
  ·rw [if_pos h3] at h
   obtain rfl := sI h
   exact callOK cxOK cxW Try.func21 (by kernel_rfl) (f21_e1 x1 x2 x4 x5 x6 x7) ⟨ch1, h3, trivial⟩
  ·rw [if_neg h3] at h
   have h3 := eF h3
   by_cases h4 : (((List.length x2 : Nat) : Int) != ((List.length x1 : Nat) : Int)) = true
   ·rw [if_pos h4] at h
    obtain rfl := sI h
    exact callOK cxOK cxW Try.func21 (by kernel_rfl) (f21_e2 x1 x2 x4 x5 x6 x7) ⟨ch1, h3, h4, trivial⟩
   ·rw [if_neg h4] at h
    have h4 := eF h4
    obtain ⟨x8, h5, h⟩ := bind_some h
    have ch5 := f69_ok F x5 x6 x7 _ h5
    try dsimp only at h
    obtain ⟨rh13, h13, h⟩ := bind_some h
    have ch13 := f21_p4_ok F x2 x5 x6 x7 F x8 0 0 _ h13
    cases rh13 with
    | c0 x17 =>
     try dsimp only at h
     obtain rfl := sI h
     exact callOK cxOK cxW Try.func21 (by kernel_rfl) (f21_e3 x1 x2 x4 x5 x6 x7 x8 x17) ⟨ch1, h3, h4, ch5, ch13, trivial⟩
    | c1 x18 =>
     try dsimp only at h
     obtain rfl := sI h
     exact callOK cxOK cxW Try.func21 (by kernel_rfl) (f21_e4 x1 x2 x4 x5 x6 x7 x8 x18) ⟨ch1, h3, h4, ch5, ch13, trivial⟩

theorem f23_p2_ok (F : Nat) (x1 x2 : LI) : ∀ (k : Nat) (x3 : Int) (r : f23_p2_R), f23_p2 F x1 x2 k x3 = some r → f23_p2_P x1 x2 x3 r
 | 0, _, _, h => by cases h
 | k + 1, x3, r, h => by
  unfold f23_p2 at h
  by_cases h2 : (decide (x3 < ((List.length x1 : Nat) : Int))) = true
  ·rw [if_pos h2] at h
   obtain ⟨x4, h3, h⟩ := bind_some h
   try dsimp only at h
   obtain ⟨x5, h4, h⟩ := bind_some h
   try dsimp only at h
   by_cases h5 : (x4 != x5) = true
   ·rw [if_pos h5] at h
    obtain rfl := sI h
    exact Lp.out (gRun_ok cxOK (f23_p2_e0 x1 x2 x3 x4 x5) ⟨h2, ⟨(at?_spec h3).1, x4, (at?_spec h3).2, rfl⟩, ⟨(at?_spec h4).1, x5, (at?_spec h4).2, rfl⟩, h5, trivial⟩) (by intro hh; cases hh)
   ·rw [if_neg h5] at h
    have h5 := eF h5
    exact Lp.again (gRun_ok cxOK (f23_p2_e1 x1 x2 x3 x4 x5) ⟨h2, ⟨(at?_spec h3).1, x4, (at?_spec h3).2, rfl⟩, ⟨(at?_spec h4).1, x5, (at?_spec h4).2, rfl⟩, h5, trivial⟩) (f23_p2_ok F x1 x2 k (w64 (x3 + 1)) r h)
  ·rw [if_neg h2] at h
   have h2 := eF h2
   obtain rfl := sI h
   exact Lp.out (gRun_ok cxOK (f23_p2_e2 x1 x2 x3) ⟨h2, trivial⟩) (by intro hh; cases hh)
theorem f23_ok (F : Nat) (x1 x2 : LI) (r : Bool) (h : f23 F x1 x2 = some r) : f23_C x1 x2 r := by
 unfold f23 at h
 by_cases h1 : (((List.length x1 : Nat) : Int) != ((List.length x2 : Nat) : Int)) = true
 ·rw [if_pos h1] at h
  obtain rfl := sI h
  exact callOK cxOK cxW Try.func23 (by kernel_rfl) (f23_e0 x1 x2) ⟨h1, trivial⟩
 ·rw [if_neg h1] at h
  have h1 := eF h1
  obtain ⟨rh6, h6, h⟩ := bind_some h
  have ch6 := f23_p2_ok F x1 x2 F 0 _ h6
  cases rh6 with
  | c0 =>
   try dsimp only at h
   obtain rfl := sI h
   exact callOK cxOK cxW Try.func23 (by kernel_rfl) (f23_e1 x1 x2) ⟨h1, ch6, trivial⟩
  | c1 =>
   try dsimp only at h
   obtain rfl := sI h
   exact callOK cxOK cxW Try.func23 (by kernel_rfl) (f23_e2 x1 x2) ⟨h1, ch6, trivial⟩

theorem f36_p2_ok (F : Nat) (x1 x2 : LL) : ∀ (k : Nat) (x3 : Int) (r : f36_p2_R), f36_p2 F x1 x2 k x3 = some r → f36_p2_P x1 x2 x3 r
 | 0, _, _, h => by cases h
 | k + 1, x3, r, h => by
  unfold f36_p2 at h
  by_cases h2 : (decide (x3 < ((List.length x1 : Nat) : Int))) = true
  ·rw [if_pos h2] at h
   obtain ⟨x4, h3, h⟩ := bind_some h
   try dsimp only at h
   obtain ⟨x5, h4, h⟩ := bind_some h
   try dsimp only at h
   obtain ⟨x6, h5, h⟩ := bind_some h
   have ch5 := f23_ok F x4 x5 _ h5
   try dsimp only at h
   by_cases h6 : x6 = true
   ·rw [if_pos h6] at h
    exact Lp.again (gRun_ok cxOK (f36_p2_e0 x1 x2 x3 x4 x5 x6) ⟨h2, ⟨(at?_spec h3).1, x4, (at?_spec h3).2, rfl⟩, ⟨(at?_spec h4).1, x5, (at?_spec h4).2, rfl⟩, ch5, (by rw [h6]; rfl), trivial⟩) (f36_p2_ok F x1 x2 k (w64 (x3 + 1)) r h)
   ·rw [if_neg h6] at h
    have h6 := eF h6
    obtain rfl := sI h
    exact Lp.out (gRun_ok cxOK (f36_p2_e1 x1 x2 x3 x4 x5 x6) ⟨h2, ⟨(at?_spec h3).1, x4, (at?_spec h3).2, rfl⟩, ⟨(at?_spec h4).1, x5, (at?_spec h4).2, rfl⟩, ch5, (by rw [h6]; rfl), trivial⟩) (by intro hh; cases hh)
  ·rw [if_neg h2] at h
   have h2 := eF h2
   obtain rfl := sI h
   exact Lp.out (gRun_ok cxOK (f36_p2_e2 x1 x2 x3) ⟨h2, trivial⟩) (by intro hh; cases hh)
theorem f36_ok (F : Nat) (x1 x2 : LL) (r : Bool) (h : f36 F x1 x2 = some r) : f36_C x1 x2 r := by
 unfold f36 at h
 by_cases h1 : (((List.length x1 : Nat) : Int) != ((List.length x2 : Nat) : Int)) = true
 ·rw [if_pos h1] at h
  obtain rfl := sI h
  exact callOK cxOK cxW Try.func36 (by kernel_rfl) (f36_e0 x1 x2) ⟨h1, trivial⟩
 ·rw [if_neg h1] at h
  have h1 := eF h1
  obtain ⟨rh7, h7, h⟩ := bind_some h
  have ch7 := f36_p2_ok F x1 x2 F 0 _ h7
  cases rh7 with
  | c0 =>
   try dsimp only at h
   obtain rfl := sI h
   exact callOK cxOK cxW Try.func36 (by kernel_rfl) (f36_e1 x1 x2) ⟨h1, ch7, trivial⟩
  | c1 =>
   try dsimp only at h
   obtain rfl := sI h
   exact callOK cxOK cxW Try.func36 (by kernel_rfl) (f36_e2 x1 x2) ⟨h1, ch7, trivial⟩

theorem f84_1_p1_ok (F : Nat) (x2 : Int) (x1 : LI) : ∀ (k : Nat) (x3 x4 x5 : Int) (r : Int × Int), f84_1_p1 F x2 x1 k x3 x4 x5 = some r → f84_1_p1_P x2 x1 x3 x4 x5 r
 | 0, _, _, _, _, h => by cases h
 | k + 1, x3, x4, x5, r, h => by
  unfold f84_1_p1 at h
  dsimp only at h
  by_cases h1 : (decide (x5 < ((List.length x1 : Nat) : Int))) = true
  ·rw [if_pos h1] at h
   obtain ⟨x6, h2, h⟩ := bind_some h
   try dsimp only at h
   cases h
  ·rw [if_neg h1] at h
   have h1 := eF h1
   obtain rfl := sI h
   exact Lp.out (gRun_ok cxOK (f84_1_p1_e0 x1 x2 x3 x4 x5) ⟨h1, trivial⟩) (by intro hh; cases hh)
theorem f84_1_ok (F : Nat) (x1 : LI) (x2 : Int) (r : Int × Bool) (h : f84_1 F x1 x2 = some r) : f84_1_C x1 x2 r := by
 unfold f84_1 at h
 obtain ⟨rh3, h3, h⟩ := bind_some h
 have ch3 := f84_1_p1_ok F x2 x1 F 0 0 0 _ h3
 obtain ⟨x7, x8⟩ := rh3
 try dsimp only at h
 obtain rfl := sI h
 exact callOK cxOK cxW Try.func84 (by kernel_rfl) (f84_1_e0 x1 x2 x7 x8) ⟨ch3, trivial⟩

theorem f96_p1_ok (F : Nat) (x1 : LI) (x2 : Int) : ∀ (k : Nat) (x3 : Int) (r : f96_p1_R), f96_p1 F x1 x2 k x3 = some r → f96_p1_P x1 x2 x3 r
 | 0, _, _, h => by cases h
 | k + 1, x3, r, h => by
  unfold f96_p1 at h
  by_cases h1 : (decide (x3 < ((List.length x1 : Nat) : Int))) = true
  ·rw [if_pos h1] at h
   obtain ⟨x4, h2, h⟩ := bind_some h
   try dsimp only at h
   by_cases h3 : (x2 == x4) = true
   ·rw [if_pos h3] at h
    obtain rfl := sI h
    exact Lp.out (gRun_ok cxOK (f96_p1_e0 x1 x2 x3 x4) ⟨h1, ⟨(at?_spec h2).1, x4, (at?_spec h2).2, rfl⟩, h3, trivial⟩) (by intro hh; cases hh)
   ·rw [if_neg h3] at h
    have h3 := eF h3
    exact Lp.again (gRun_ok cxOK (f96_p1_e1 x1 x2 x3 x4) ⟨h1, ⟨(at?_spec h2).1, x4, (at?_spec h2).2, rfl⟩, h3, trivial⟩) (f96_p1_ok F x1 x2 k (w64 (x3 + 1)) r h)
  ·rw [if_neg h1] at h
   have h1 := eF h1
   obtain rfl := sI h
   exact Lp.out (gRun_ok cxOK (f96_p1_e2 x1 x2 x3) ⟨h1, trivial⟩) (by intro hh; cases hh)
theorem f96_ok (F : Nat) (x1 : LI) (x2 : Int) (r : Int) (h : f96 F x1 x2 = some r) : f96_C x1 x2 r := by
 unfold f96 at h
 obtain ⟨rh4, h4, h⟩ := bind_some h
 have ch4 := f96_p1_ok F x1 x2 F 0 _ h4
 cases rh4 with
 | c0 x5 =>
  try dsimp only at h
  obtain rfl := sI h
  exact callOK cxOK cxW Try.func96 (by kernel_rfl) (f96_e0 x1 x2 x5) ⟨ch4, trivial⟩
 | c1 =>
  try dsimp only at h
  obtain rfl := sI h
  exact callOK cxOK cxW Try.func96 (by kernel_rfl) (f96_e1 x1 x2) ⟨ch4, trivial⟩

theorem f53_ok (F : Nat) (x1 : LI) (x2 : Int) (r : Bool) (h : f53 F x1 x2 = some r) : f53_C x1 x2 r := by
 unfold f53 at h
 obtain ⟨x3, h1, h⟩ := bind_some h
 have ch1 := f96_ok F x1 x2 _ h1
 try dsimp only at h
 obtain rfl := sI h
 exact callOK cxOK cxW Try.func53 (by kernel_rfl) (f53_e0 x1 x2 x3) ⟨ch1, trivial⟩

theorem f37_p0_ok (F : Nat) (x1 : LL) (x2 x3 : LI) (x4 : Int) (r : Int) (h : f37_p0 F x1 x2 x3 x4 = some r) : f37_p0_P x1 x2 x3 x4 r := by
 unfold f37_p0 at h
 by_cases h2 : (x4 == 0) = true
 ·rw [if_pos h2] at h
  obtain ⟨rh3, h3, h⟩ := bind_some h
  have ch3 := f21_ok F x1 x3 _ h3
  obtain ⟨x5, x6⟩ := rh3
  try dsimp only at h
  obtain rfl := sI h
  exact gRun_ok cxOK (f37_p0_e0 x1 x2 x3 x4 x5 x6) ⟨h2, ch3, trivial⟩
 ·rw [if_neg h2] at h
  have h2 := eF h2
  obtain rfl := sI h
  exact gRun_ok cxOK (f37_p0_e1 x1 x2 x3 x4) ⟨h2, trivial⟩
theorem f37_p3_ok (F : Nat) (x2 x3 : LI) : ∀ (k : Nat) (x8 : Int) (r : f37_p3_R), f37_p3 F x2 x3 k x8 = some r → f37_p3_P x2 x3 x8 r
 | 0, _, _, h => by cases h
 | k + 1, x8, r, h => by
  unfold f37_p3 at h
  by_cases h6 : (decide (x8 < ((List.length x3 : Nat) : Int))) = true
  ·rw [if_pos h6] at h
   obtain ⟨x9, h7, h⟩ := bind_some h
   try dsimp only at h
   obtain ⟨rh8, h8, h⟩ := bind_some h
   have ch8 := f84_1_ok F x2 x8 _ h8
   obtain ⟨x10, x11⟩ := rh8
   try dsimp only at h
   by_cases h9 : (decide (x9 < 0)) = true
   ·rw [if_pos h9] at h
    by_cases h10 : x11 = true
    ·rw [if_pos h10] at h
     by_cases h11 : (decide (x9 ≥ 0)) = true
     ·rw [if_pos h11] at h
      obtain ⟨h12, h⟩ := req_some h
      by_cases h13 : ((iAnd .u8 (iShr .u8 x10 x9) 1) == 0) = true
      ·rw [if_pos h13] at h
       obtain rfl := sI h
       exact Lp.out (gRun_ok cxOK (f37_p3_e0 x2 x3 x8 x9 x10 x11) ⟨h6, ⟨(at?_spec h7).1, x9, (at?_spec h7).2, rfl⟩, ch8, h9, h9, h9, (by rw [h10]; rfl), (by rw [h10]; rfl), (by rw [h10]; rfl), h11, h11, h11, h12, h11, h11, (by rw [h10]; rfl), h11, (by rw [h10]; rfl), h13, trivial⟩) (by intro hh; cases hh)
      ·rw [if_neg h13] at h
       have h13 := eF h13
       exact Lp.again (gRun_ok cxOK (f37_p3_e1 x2 x3 x8 x9 x10 x11) ⟨h6, ⟨(at?_spec h7).1, x9, (at?_spec h7).2, rfl⟩, ch8, h9, h9, h9, (by rw [h10]; rfl), (by rw [h10]; rfl), (by rw [h10]; rfl), h11, h11, h11, h12, h11, h11, (by rw [h10]; rfl), h11, (by rw [h10]; rfl), h13, trivial⟩) (f37_p3_ok F x2 x3 k (w64 (x8 + 1)) r h)
     ·rw [if_neg h11] at h
      have h11 := eF h11
      exact Lp.again (gRun_ok cxOK (f37_p3_e2 x2 x3 x8 x9 x10 x11) ⟨h6, ⟨(at?_spec h7).1, x9, (at?_spec h7).2, rfl⟩, ch8, h9, h9, h9, (by rw [h10]; rfl), (by rw [h10]; rfl), (by rw [h10]; rfl), h11, h11, h11, h11, h11, (by rw [h10]; rfl), h11, (by rw [h10]; rfl), rfl, trivial⟩) (f37_p3_ok F x2 x3 k (w64 (x8 + 1)) r h)
    ·rw [if_neg h10] at h
     have h10 := eF h10
     obtain rfl := sI h
     exact Lp.out (gRun_ok cxOK (f37_p3_e3 x2 x3 x8 x9 x10 x11) ⟨h6, ⟨(at?_spec h7).1, x9, (at?_spec h7).2, rfl⟩, ch8, h9, h9, h9, (by rw [h10]; rfl), (by rw [h10]; rfl), (by rw [h10]; rfl), (by rw [h10]; rfl), (by rw [h10]; rfl), rfl, trivial⟩) (by intro hh; cases hh)
   ·rw [if_neg h9] at h
    have h9 := eF h9
    by_cases h14 : (decide (x9 ≥ 0)) = true
    ·rw [if_pos h14] at h
     obtain ⟨h15, h⟩ := req_some h
     by_cases h16 : ((iAnd .u8 (iShr .u8 x10 x9) 1) == 0) = true
     ·rw [if_pos h16] at h
      obtain rfl := sI h
      exact Lp.out (gRun_ok cxOK (f37_p3_e4 x2 x3 x8 x9 x10 x11) ⟨h6, ⟨(at?_spec h7).1, x9, (at?_spec h7).2, rfl⟩, ch8, h9, h9, h9, rfl, rfl, rfl, h14, h14, h14, h15, h14, h14, rfl, h14, rfl, h16, trivial⟩) (by intro hh; cases hh)
     ·rw [if_neg h16] at h
      have h16 := eF h16
      exact Lp.again (gRun_ok cxOK (f37_p3_e5 x2 x3 x8 x9 x10 x11) ⟨h6, ⟨(at?_spec h7).1, x9, (at?_spec h7).2, rfl⟩, ch8, h9, h9, h9, rfl, rfl, rfl, h14, h14, h14, h15, h14, h14, rfl, h14, rfl, h16, trivial⟩) (f37_p3_ok F x2 x3 k (w64 (x8 + 1)) r h)
    ·rw [if_neg h14] at h
     have h14 := eF h14
     exact Lp.again (gRun_ok cxOK (f37_p3_e6 x2 x3 x8 x9 x10 x11) ⟨h6, ⟨(at?_spec h7).1, x9, (at?_spec h7).2, rfl⟩, ch8, h9, h9, h9, rfl, rfl, rfl, h14, h14, h14, h14, h14, rfl, h14, rfl, rfl, trivial⟩) (f37_p3_ok F x2 x3 k (w64 (x8 + 1)) r h)
  ·rw [if_neg h6] at h
   have h6 := eF h6
   obtain rfl := sI h
   exact Lp.out (gRun_ok cxOK (f37_p3_e7 x2 x3 x8) ⟨h6, trivial⟩) (by intro hh; cases hh)
theorem f37_p8_ok (F : Nat) (x3 x2 : LI) : ∀ (k : Nat) (x12 : Int) (r : f37_p8_R), f37_p8 F x3 x2 k x12 = some r → f37_p8_P x3 x2 x12 r
 | 0, _, _, h => by cases h
 | k + 1, x12, r, h => by
  unfold f37_p8 at h
  by_cases h18 : (decide (x12 < ((List.length x2 : Nat) : Int))) = true
  ·rw [if_pos h18] at h
   obtain ⟨x13, h19, h⟩ := bind_some h
   try dsimp only at h
   by_cases h20 : (decide (x13 > 0)) = true
   ·rw [if_pos h20] at h
    obtain ⟨x14, h21, h⟩ := bind_some h
    have ch21 := f53_ok F x3 x12 _ h21
    try dsimp only at h
    by_cases h22 : x14 = true
    ·rw [if_pos h22] at h
     exact Lp.again (gRun_ok cxOK (f37_p8_e0 x2 x3 x12 x13 x14) ⟨h18, ⟨(at?_spec h19).1, x13, (at?_spec h19).2, rfl⟩, h20, h20, h20, ch21, h20, h20, (by rw [h22]; rfl), trivial⟩) (f37_p8_ok F x3 x2 k (w64 (x12 + 1)) r h)
    ·rw [if_neg h22] at h
     have h22 := eF h22
     obtain rfl := sI h
     exact Lp.out (gRun_ok cxOK (f37_p8_e1 x2 x3 x12 x13 x14) ⟨h18, ⟨(at?_spec h19).1, x13, (at?_spec h19).2, rfl⟩, h20, h20, h20, ch21, h20, h20, (by rw [h22]; rfl), trivial⟩) (by intro hh; cases hh)
   ·rw [if_neg h20] at h
    have h20 := eF h20
    exact Lp.again (gRun_ok cxOK (f37_p8_e2 x2 x3 x12 x13) ⟨h18, ⟨(at?_spec h19).1, x13, (at?_spec h19).2, rfl⟩, h20, h20, h20, h20, h20, rfl, trivial⟩) (f37_p8_ok F x3 x2 k (w64 (x12 + 1)) r h)
  ·rw [if_neg h18] at h
   have h18 := eF h18
   obtain rfl := sI h
   exact Lp.out (gRun_ok cxOK (f37_p8_e3 x2 x3 x12) ⟨h18, trivial⟩) (by intro hh; cases hh)
theorem f37_p0_1_ok (F : Nat) (x1 : LL) (x2 x3 : LI) (x15 : Int) (x16 : Mm) (x17 : LL) (x18 : Int) (r : Int) (h : f37_p0_1 F x1 x2 x3 x15 x16 x17 x18 = some r) : f37_p0_1_P x1 x2 x3 x15 x16 x17 x18 r := by
 unfold f37_p0_1 at h
 by_cases h24 : (x15 == 0) = true
 ·rw [if_pos h24] at h
  obtain ⟨rh25, h25, h⟩ := bind_some h
  have ch25 := f21_ok F x1 x3 _ h25
  obtain ⟨x19, x20⟩ := rh25
  try dsimp only at h
  obtain rfl := sI h
  exact gRun_ok cxOK (f37_p0_1_e0 x1 x2 x3 x15 x16 x17 x18 x19 x20) ⟨h24, ch25, trivial⟩
 ·rw [if_neg h24] at h
  have h24 := eF h24
  obtain rfl := sI h
  exact gRun_ok cxOK (f37_p0_1_e1 x1 x2 x3 x15 x16 x17 x18) ⟨h24, trivial⟩
theorem f37_p3_1_ok (F : Nat) (x2 x3 : LI) (x16 : Mm) (x17 : LL) (x18 : Int) : ∀ (k : Nat) (x22 : Int) (r : f37_p3_1_R), f37_p3_1 F x2 x3 x16 x17 x18 k x22 = some r → f37_p3_1_P x2 x3 x16 x17 x18 x22 r
 | 0, _, _, h => by cases h
 | k + 1, x22, r, h => by
  unfold f37_p3_1 at h
  by_cases h28 : (decide (x22 < ((List.length x3 : Nat) : Int))) = true
  ·rw [if_pos h28] at h
   obtain ⟨x23, h29, h⟩ := bind_some h
   try dsimp only at h
   obtain ⟨rh30, h30, h⟩ := bind_some h
   have ch30 := f84_ok F x2 x22 x16 x17 x18 _ h30
   obtain ⟨x24, x25⟩ := rh30
   try dsimp only at h
   by_cases h31 : (decide (x23 < 0)) = true
   ·rw [if_pos h31] at h
    by_cases h32 : x25 = true
    ·rw [if_pos h32] at h
     by_cases h33 : (decide (x23 ≥ 0)) = true
     ·rw [if_pos h33] at h
      obtain ⟨h34, h⟩ := req_some h
      by_cases h35 : ((iAnd .u8 (iShr .u8 x24 x23) 1) == 0) = true
      ·rw [if_pos h35] at h
       obtain rfl := sI h
       exact Lp.out (gRun_ok cxOK (f37_p3_1_e0 x2 x3 x16 x17 x18 x22 x23 x24 x25) ⟨h28, ⟨(at?_spec h29).1, x23, (at?_spec h29).2, rfl⟩, ch30, h31, h31, h31, (by rw [h32]; rfl), (by rw [h32]; rfl), (by rw [h32]; rfl), h33, h33, h33, h34, h33, h33, (by rw [h32]; rfl), h33, (by rw [h32]; rfl), h35, trivial⟩) (by intro hh; cases hh)
      ·rw [if_neg h35] at h
       have h35 := eF h35
       exact Lp.again (gRun_ok cxOK (f37_p3_1_e1 x2 x3 x16 x17 x18 x22 x23 x24 x25) ⟨h28, ⟨(at?_spec h29).1, x23, (at?_spec h29).2, rfl⟩, ch30, h31, h31, h31, (by rw [h32]; rfl), (by rw [h32]; rfl), (by rw [h32]; rfl), h33, h33, h33, h34, h33, h33, (by rw [h32]; rfl), h33, (by rw [h32]; rfl), h35, trivial⟩) (f37_p3_1_ok F x2 x3 x16 x17 x18 k (w64 (x22 + 1)) r h)
     ·rw [if_neg h33] at h
      have h33 := eF h33
      exact Lp.again (gRun_ok cxOK (f37_p3_1_e2 x2 x3 x16 x17 x18 x22 x23 x24 x25) ⟨h28, ⟨(at?_spec h29).1, x23, (at?_spec h29).2, rfl⟩, ch30, h31, h31, h31, (by rw [h32]; rfl), (by rw [h32]; rfl), (by rw [h32]; rfl), h33, h33, h33, h33, h33, (by rw [h32]; rfl), h33, (by rw [h32]; rfl), rfl, trivial⟩) (f37_p3_1_ok F x2 x3 x16 x17 x18 k (w64 (x22 + 1)) r h)
    ·rw [if_neg h32] at h
     have h32 := eF h32
     obtain rfl := sI h
     exact Lp.out (gRun_ok cxOK (f37_p3_1_e3 x2 x3 x16 x17 x18 x22 x23 x24 x25) ⟨h28, ⟨(at?_spec h29).1, x23, (at?_spec h29).2, rfl⟩, ch30, h31, h31, h31, (by rw [h32]; rfl), (by rw [h32]; rfl), (by rw [h32]; rfl), (by rw [h32]; rfl), (by rw [h32]; rfl), rfl, trivial⟩) (by intro hh; cases hh)
   ·rw [if_neg h31] at h
    have h31 := eF h31
    by_cases h36 : (decide (x23 ≥ 0)) = true
    ·rw [if_pos h36] at h
     obtain ⟨h37, h⟩ := req_some h
     by_cases h38 : ((iAnd .u8 (iShr .u8 x24 x23) 1) == 0) = true
     ·rw [if_pos h38] at h
      obtain rfl := sI h
      exact Lp.out (gRun_ok cxOK (f37_p3_1_e4 x2 x3 x16 x17 x18 x22 x23 x24 x25) ⟨h28, ⟨(at?_spec h29).1, x23, (at?_spec h29).2, rfl⟩, ch30, h31, h31, h31, rfl, rfl, rfl, h36, h36, h36, h37, h36, h36, rfl, h36, rfl, h38, trivial⟩) (by intro hh; cases hh)
     ·rw [if_neg h38] at h
      have h38 := eF h38
      exact Lp.again (gRun_ok cxOK (f37_p3_1_e5 x2 x3 x16 x17 x18 x22 x23 x24 x25) ⟨h28, ⟨(at?_spec h29).1, x23, (at?_spec h29).2, rfl⟩, ch30, h31, h31, h31, rfl, rfl, rfl, h36, h36, h36, h37, h36, h36, rfl, h36, rfl, h38, trivial⟩) (f37_p3_1_ok F x2 x3 x16 x17 x18 k (w64 (x22 + 1)) r h)
    ·rw [if_neg h36] at h
     have h36 := eF h36
     exact Lp.again (gRun_ok cxOK (f37_p3_1_e6 x2 x3 x16 x17 x18 x22 x23 x24 x25) ⟨h28, ⟨(at?_spec h29).1, x23, (at?_spec h29).2, rfl⟩, ch30, h31, h31, h31, rfl, rfl, rfl, h36, h36, h36, h36, h36, rfl, h36, rfl, rfl, trivial⟩) (f37_p3_1_ok F x2 x3 x16 x17 x18 k (w64 (x22 + 1)) r h)
  ·rw [if_neg h28] at h
   have h28 := eF h28
   obtain rfl := sI h
   exact Lp.out (gRun_ok cxOK (f37_p3_1_e7 x2 x3 x16 x17 x18 x22) ⟨h28, trivial⟩) (by intro hh; cases hh)
theorem f37_p8_1_ok (F : Nat) (x3 x2 : LI) : ∀ (k : Nat) (x26 : Int) (r : f37_p8_1_R), f37_p8_1 F x3 x2 k x26 = some r → f37_p8_1_P x3 x2 x26 r
 | 0, _, _, h => by cases h
 | k + 1, x26, r, h => by
  unfold f37_p8_1 at h
  by_cases h40 : (decide (x26 < ((List.length x2 : Nat) : Int))) = true
  ·rw [if_pos h40] at h
   obtain ⟨x27, h41, h⟩ := bind_some h
   try dsimp only at h
   by_cases h42 : (decide (x27 > 0)) = true
   ·rw [if_pos h42] at h
    obtain ⟨x28, h43, h⟩ := bind_some h
    have ch43 := f53_ok F x3 x26 _ h43
    try dsimp only at h
    by_cases h44 : x28 = true
    ·rw [if_pos h44] at h
     exact Lp.again (gRun_ok cxOK (f37_p8_1_e0 x2 x3 x26 x27 x28) ⟨h40, ⟨(at?_spec h41).1, x27, (at?_spec h41).2, rfl⟩, h42, h42, h42, ch43, h42, h42, (by rw [h44]; rfl), trivial⟩) (f37_p8_1_ok F x3 x2 k (w64 (x26 + 1)) r h)
    ·rw [if_neg h44] at h
     have h44 := eF h44
     obtain rfl := sI h
     exact Lp.out (gRun_ok cxOK (f37_p8_1_e1 x2 x3 x26 x27 x28) ⟨h40, ⟨(at?_spec h41).1, x27, (at?_spec h41).2, rfl⟩, h42, h42, h42, ch43, h42, h42, (by rw [h44]; rfl), trivial⟩) (by intro hh; cases hh)
   ·rw [if_neg h42] at h
    have h42 := eF h42
    exact Lp.again (gRun_ok cxOK (f37_p8_1_e2 x2 x3 x26 x27) ⟨h40, ⟨(at?_spec h41).1, x27, (at?_spec h41).2, rfl⟩, h42, h42, h42, h42, h42, rfl, trivial⟩) (f37_p8_1_ok F x3 x2 k (w64 (x26 + 1)) r h)
  ·rw [if_neg h40] at h
   have h40 := eF h40
   obtain rfl := sI h
   exact Lp.out (gRun_ok cxOK (f37_p8_1_e3 x2 x3 x26) ⟨h40, trivial⟩) (by intro hh; cases hh)
theorem f37_ok (F : Nat) (x1 : LL) (x2 x3 : LI) (r : Int) (h : f37 F x1 x2 x3 = some r) : f37_C x1 x2 x3 r := by
 unfold f37 at h
 obtain ⟨rh1, h1, h⟩ := bind_some h
 have ch1 := f83_ok F x1 x2 _ h1
 cases rh1 with
 | c0 x4 =>
  try dsimp only at h
  obtain ⟨x7, h4, h⟩ := bind_some h
  have ch4 := f37_p0_ok F x1 x2 x3 x4 _ h4
  try dsimp only at h
  by_cases h5 : (x7 != 0) = true
  ·rw [if_pos h5] at h
   obtain rfl := sI h
   exact callOK cxOK cxW Try.func37 (by kernel_rfl) (f37_e0 x1 x2 x3 x4 x7) ⟨ch1, ch4, h5, trivial⟩
  ·rw [if_neg h5] at h
   have h5 := eF h5
   obtain ⟨rh17, h17, h⟩ := bind_some h
   have ch17 := f37_p3_ok F x2 x3 F 0 _ h17
   cases rh17 with
   | c0 =>
    try dsimp only at h
    obtain rfl := sI h
    exact callOK cxOK cxW Try.func37 (by kernel_rfl) (f37_e1 x1 x2 x3 x4 x7) ⟨ch1, ch4, h5, ch17, trivial⟩
   | c1 =>
    try dsimp only at h
    obtain ⟨rh23, h23, h⟩ := bind_some h
    have ch23 := f37_p8_ok F x3 x2 F 0 _ h23
    cases rh23 with
    | c0 =>
     try dsimp only at h
     obtain rfl := sI h
     exact callOK cxOK cxW Try.func37 (by kernel_rfl) (f37_e2 x1 x2 x3 x4 x7) ⟨ch1, ch4, h5, ch17, ch23, trivial⟩
    | c1 =>
     try dsimp only at h
     obtain rfl := sI h
     exact callOK cxOK cxW Try.func37 (by kernel_rfl) (f37_e3 x1 x2 x3 x4 x7) ⟨ch1, ch4, h5, ch17, ch23, trivial⟩
 | c1 x15 x16 x17 x18 =>
  try dsimp only at h
  obtain ⟨x21, h26, h⟩ := bind_some h
  have ch26 := f37_p0_1_ok F x1 x2 x3 x15 x16 x17 x18 _ h26
  try dsimp only at h
  by_cases h27 : (x21 != 0) = true
  ·rw [if_pos h27] at h
   obtain rfl := sI h
   exact callOK cxOK cxW Try.func37 (by kernel_rfl) (f37_e4 x1 x2 x3 x15 x16 x17 x18 x21) ⟨ch1, ch26, h27, trivial⟩
  ·rw [if_neg h27] at h
   have h27 := eF h27
   obtain ⟨rh39, h39, h⟩ := bind_some h
   have ch39 := f37_p3_1_ok F x2 x3 x16 x17 x18 F 0 _ h39
   cases rh39 with
   | c0 =>
    try dsimp only at h
    obtain rfl := sI h
    exact callOK cxOK cxW Try.func37 (by kernel_rfl) (f37_e5 x1 x2 x3 x15 x16 x17 x18 x21) ⟨ch1, ch26, h27, ch39, trivial⟩
   | c1 =>
    try dsimp only at h
    obtain ⟨rh45, h45, h⟩ := bind_some h
    have ch45 := f37_p8_1_ok F x3 x2 F 0 _ h45
    cases rh45 with
    | c0 =>
     try dsimp only at h
     obtain rfl := sI h
     exact callOK cxOK cxW Try.func37 (by kernel_rfl) (f37_e6 x1 x2 x3 x15 x16 x17 x18 x21) ⟨ch1, ch26, h27, ch39, ch45, trivial⟩
    | c1 =>
     try dsimp only at h
     obtain rfl := sI h
     exact callOK cxOK cxW Try.func37 (by kernel_rfl) (f37_e7 x1 x2 x3 x15 x16 x17 x18 x21) ⟨ch1, ch26, h27, ch39, ch45, trivial⟩

theorem f16_ok (F : Nat) (r : Bool) (h : f16 F = some r) : f16_C r := by
 unfold f16 at h
 obtain ⟨x1, h1, h⟩ := bind_some h
 have ch1 := f44_ok F _ h1
 try dsimp only at h
 obtain ⟨rh2, h2, h⟩ := bind_some h
 have ch2 := f17_ok F x1 _ h2
 obtain ⟨x2, x3⟩ := rh2
 try dsimp only at h
 obtain ⟨x4, h3, h⟩ := bind_some h
 have ch3 := f44_ok F _ h3
 try dsimp only at h
 obtain ⟨rh4, h4, h⟩ := bind_some h
 have ch4 := f19_ok F x4 _ h4
 obtain ⟨x5, x6⟩ := rh4
 try dsimp only at h
 obtain ⟨x7, h5, h⟩ := bind_some h
 have ch5 := f44_ok F _ h5
 try dsimp only at h
 obtain ⟨rh6, h6, h⟩ := bind_some h
 have ch6 := f26_ok F x7 _ h6
 obtain ⟨x8, x9⟩ := rh6
 try dsimp only at h
 obtain ⟨x10, h7, h⟩ := bind_some h
 have ch7 := f44_ok F _ h7
 try dsimp only at h
 obtain ⟨rh8, h8, h⟩ := bind_some h
 have ch8 := f28_ok F x10 _ h8
 obtain ⟨x11, x12⟩ := rh8
 try dsimp only at h
 obtain ⟨x13, h9, h⟩ := bind_some h
 have ch9 := f44_ok F _ h9
 try dsimp only at h
 obtain ⟨x14, h10, h⟩ := bind_some h
 have ch10 := f45_ok F ([9, 9] : List Int) _ h10
 try dsimp only at h
 obtain ⟨rh11, h11, h⟩ := bind_some h
 have ch11 := f30_ok F x13 0 x14 _ h11
 obtain ⟨x15, x16, x17, x18⟩ := rh11
 try dsimp only at h
 obtain ⟨x19, h12, h⟩ := bind_some h
 have ch12 := f44_ok F _ h12
 try dsimp only at h
 obtain ⟨x20, h13, h⟩ := bind_some h
 have ch13 := f45_ok F ([8, 4] : List Int) _ h13
 try dsimp only at h
 obtain ⟨rh14, h14, h⟩ := bind_some h
 have ch14 := f32_ok F x19 x20 _ h14
 obtain ⟨x21, x22⟩ := rh14
 try dsimp only at h
 obtain ⟨x23, h15, h⟩ := bind_some h
 have ch15 := f44_ok F _ h15
 try dsimp only at h
 obtain ⟨x24, h16, h⟩ := bind_some h
 have ch16 := f45_ok F ([5, 4] : List Int) _ h16
 try dsimp only at h
 obtain ⟨rh17, h17, h⟩ := bind_some h
 have ch17 := f34_ok F x23 x24 _ h17
 obtain ⟨x25, x26⟩ := rh17
 try dsimp only at h
 by_cases h18 : (x3 != 0) = true
 ·rw [if_pos h18] at h
  cases h
 ·rw [if_neg h18] at h
  have h18 := eF h18
  by_cases h19 : (x6 != 0) = true
  ·rw [if_pos h19] at h
   cases h
  ·rw [if_neg h19] at h
   have h19 := eF h19
   by_cases h20 : (x9 != 0) = true
   ·rw [if_pos h20] at h
    cases h
   ·rw [if_neg h20] at h
    have h20 := eF h20
    by_cases h21 : (x12 != 0) = true
    ·rw [if_pos h21] at h
     cases h
    ·rw [if_neg h21] at h
     have h21 := eF h21
     by_cases h22 : (x18 != 0) = true
     ·rw [if_pos h22] at h
      cases h
     ·rw [if_neg h22] at h
      have h22 := eF h22
      by_cases h23 : (x22 != 0) = true
      ·rw [if_pos h23] at h
       cases h
      ·rw [if_neg h23] at h
       have h23 := eF h23
       by_cases h24 : (x26 != 0) = true
       ·rw [if_pos h24] at h
        cases h
       ·rw [if_neg h24] at h
        have h24 := eF h24
        obtain ⟨x27, h25, h⟩ := bind_some h
        have ch25 := f44_ok F _ h25
        try dsimp only at h
        obtain ⟨rh26, h26, h⟩ := bind_some h
        have ch26 := f39_ok F x27 _ h26
        obtain ⟨x28, x29⟩ := rh26
        try dsimp only at h
        obtain ⟨x30, h27, h⟩ := bind_some h
        have ch27 := f64_ok F _ h27
        try dsimp only at h
        obtain ⟨rh28, h28, h⟩ := bind_some h
        have ch28 := f41_ok F x30 _ h28
        obtain ⟨x31, x32⟩ := rh28
        try dsimp only at h
        obtain ⟨x33, h29, h⟩ := bind_some h
        have ch29 := f64_ok F _ h29
        try dsimp only at h
        obtain ⟨rh30, h30, h⟩ := bind_some h
        have ch30 := f39_ok F x33 _ h30
        obtain ⟨x34, x35⟩ := rh30
        try dsimp only at h
        obtain ⟨x36, h31, h⟩ := bind_some h
        have ch31 := f44_ok F _ h31
        try dsimp only at h
        obtain ⟨x37, h32, h⟩ := bind_some h
        have ch32 := f45_ok F ([1, 0, (-1)] : List Int) _ h32
        try dsimp only at h
        obtain ⟨rh33, h33, h⟩ := bind_some h
        have ch33 := f21_ok F x36 x37 _ h33
        obtain ⟨x38, x39⟩ := rh33
        try dsimp only at h
        obtain ⟨x40, h34, h⟩ := bind_some h
        have ch34 := f44_ok F _ h34
        try dsimp only at h
        obtain ⟨x41, h35, h⟩ := bind_some h
        have ch35 := f45_ok F ([8, 4] : List Int) _ h35
        try dsimp only at h
        obtain ⟨rh36, h36, h⟩ := bind_some h
        have ch36 := f34_ok F x40 x41 _ h36
        obtain ⟨x42, x43⟩ := rh36
        try dsimp only at h
        obtain ⟨x44, h37, h⟩ := bind_some h
        have ch37 := f44_ok F _ h37
        try dsimp only at h
        obtain ⟨x45, h38, h⟩ := bind_some h
        have ch38 := f45_ok F ([1, 0, 0] : List Int) _ h38
        try dsimp only at h
        obtain ⟨rh39, h39, h⟩ := bind_some h
        have ch39 := f21_ok F x44 x45 _ h39
        obtain ⟨x46, x47⟩ := rh39
        try dsimp only at h
        by_cases h40 : (x29 == 0) = true
        ·rw [if_pos h40] at h
         by_cases h41 : (x32 == 0) = true
         ·rw [if_pos h41] at h
          by_cases h42 : (x35 == 0) = true
          ·rw [if_pos h42] at h
           by_cases h43 : (x39 == 0) = true
           ·rw [if_pos h43] at h
            by_cases h44 : (x43 == 13) = true
            ·rw [if_pos h44] at h
             by_cases h45 : (x47 == 6) = true
             ·rw [if_pos h45] at h
              by_cases h46 : (x5 == 2) = true
              ·rw [if_pos h46] at h
               by_cases h47 : (x15 == 1) = true
               ·rw [if_pos h47] at h
                by_cases h48 : (x16 == 4) = true
                ·rw [if_pos h48] at h
                 by_cases h49 : (x17 == 1) = true
                 ·rw [if_pos h49] at h
                  by_cases h50 : (x38 == 13) = true
                  ·rw [if_pos h50] at h
                   obtain ⟨x48, h51, h⟩ := bind_some h
                   have ch51 := f45_ok F ([0, (-1), 1] : List Int) _ h51
                   try dsimp only at h
                   obtain ⟨x49, h52, h⟩ := bind_some h
                   have ch52 := f23_ok F x2 x48 _ h52
                   try dsimp only at h
                   by_cases h53 : x49 = true
                   ·rw [if_pos h53] at h
                    obtain ⟨x50, h54, h⟩ := bind_some h
                    have ch54 := f45_ok F ([8, 0, 4] : List Int) _ h54
                    try dsimp only at h
                    obtain ⟨x51, h55, h⟩ := bind_some h
                    have ch55 := f23_ok F x8 x50 _ h55
                    try dsimp only at h
                    by_cases h56 : x51 = true
                    ·rw [if_pos h56] at h
                     obtain ⟨x52, h57, h⟩ := bind_some h
                     have ch57 := f45_ok F ([1, 0, 0] : List Int) _ h57
                     try dsimp only at h
                     obtain ⟨x53, h58, h⟩ := bind_some h
                     have ch58 := f23_ok F x11 x52 _ h58
                     try dsimp only at h
                     by_cases h59 : x53 = true
                     ·rw [if_pos h59] at h
                      obtain ⟨x54, h60, h⟩ := bind_some h
                      have ch60 := f45_ok F ([0, 1] : List Int) _ h60
                      try dsimp only at h
                      obtain ⟨x55, h61, h⟩ := bind_some h
                      have ch61 := f45_ok F ([(-1), 0] : List Int) _ h61
                      try dsimp only at h
                      obtain ⟨x56, h62, h⟩ := bind_some h
                      have ch62 := f45_ok F ([(-1), 1] : List Int) _ h62
                      try dsimp only at h
                      obtain ⟨x57, h63, h⟩ := bind_some h
                      have ch63 := f46_ok F ([x54, x55, x56] : List (List Int)) _ h63
                      try dsimp only at h
                      obtain ⟨x58, h64, h⟩ := bind_some h
                      have ch64 := f36_ok F x21 x57 _ h64
                      try dsimp only at h
                      by_cases h65 : x58 = true
                      ·rw [if_pos h65] at h
                       obtain ⟨x59, h66, h⟩ := bind_some h
                       have ch66 := f45_ok F ([0, 1] : List Int) _ h66
                       try dsimp only at h
                       obtain ⟨x60, h67, h⟩ := bind_some h
                       have ch67 := f23_ok F x25 x59 _ h67
                       try dsimp only at h
                       by_cases h68 : x60 = true
                       ·rw [if_pos h68] at h
                        obtain ⟨x61, h69, h⟩ := bind_some h
                        have ch69 := f45_ok F ([8, 4] : List Int) _ h69
                        try dsimp only at h
                        obtain ⟨x62, h70, h⟩ := bind_some h
                        have ch70 := f23_ok F x28 x61 _ h70
                        try dsimp only at h
                        by_cases h71 : x62 = true
                        ·rw [if_pos h71] at h
                         obtain ⟨x63, h72, h⟩ := bind_some h
                         have ch72 := f45_ok F ([7, 7] : List Int) _ h72
                         try dsimp only at h
                         obtain ⟨x64, h73, h⟩ := bind_some h
                         have ch73 := f23_ok F x31 x63 _ h73
                         try dsimp only at h
                         by_cases h74 : x64 = true
                         ·rw [if_pos h74] at h
                          obtain ⟨x65, h75, h⟩ := bind_some h
                          have ch75 := f45_ok F ([0, 0] : List Int) _ h75
                          try dsimp only at h
                          obtain ⟨x66, h76, h⟩ := bind_some h
                          have ch76 := f23_ok F x34 x65 _ h76
                          try dsimp only at h
                          by_cases h77 : x66 = true
                          ·rw [if_pos h77] at h
                           obtain ⟨x67, h78, h⟩ := bind_some h
                           have ch78 := f44_ok F _ h78
                           try dsimp only at h
                           obtain ⟨x68, h79, h⟩ := bind_some h
                           have ch79 := f45_ok F ([8, 4] : List Int) _ h79
                           try dsimp only at h
                           obtain ⟨x69, h80, h⟩ := bind_some h
                           have ch80 := f45_ok F ([1, 0, (-1)] : List Int) _ h80
                           try dsimp only at h
                           obtain ⟨x70, h81, h⟩ := bind_some h
                           have ch81 := f37_ok F x67 x68 x69 _ h81
                           try dsimp only at h
                           by_cases h82 : (x70 == 0) = true
                           ·rw [if_pos h82] at h
                            obtain ⟨x71, h83, h⟩ := bind_some h
                            have ch83 := f44_ok F _ h83
                            try dsimp only at h
                            obtain ⟨x72, h84, h⟩ := bind_some h
                            have ch84 := f45_ok F ([9, 4] : List Int) _ h84
                            try dsimp only at h
                            obtain ⟨x73, h85, h⟩ := bind_some h
                            have ch85 := f45_ok F ([1, 0, (-1)] : List Int) _ h85
                            try dsimp only at h
                            obtain ⟨x74, h86, h⟩ := bind_some h
                            have ch86 := f37_ok F x71 x72 x73 _ h86
                            try dsimp only at h
                            obtain rfl := sI h
                            exact callOK cxOK cxW Try.func16 (by kernel_rfl) (f16_e0 x1 x2 x3 x4 x5 x6 x7 x8 x9 x10 x11 x12 x13 x14 x15 x16 x17 x18 x19 x20 x21 x22 x23 x24 x25 x26 x27 x28 x29 x30 x31 x32 x33 x34 x35 x36 x37 x38 x39 x40 x41 x42 x43 x44 x45 x46 x47 x48 x49 x50 x51 x52 x53 x54 x55 x56 x57 x58 x59 x60 x61 x62 x63 x64 x65 x66 x67 x68 x69 x70 x71 x72 x73 x74) ⟨ch1, ch2, ch3, ch4, ch5, ch6, ch7, ch8, ch9, ch10, ch11, ch12, ch13, ch14, ch15, ch16, ch17, h18, h18, h18, h19, h19, h19, h20, h20, h20, h21, h21, h21, h22, h22, h22, h23, h23, h23, h24, ch25, ch26, ch27, ch28, ch29, ch30, ch31, ch32, ch33, ch34, ch35, ch36, ch37, ch38, ch39, h40, h40, h40, h41, h41, h41, h42, h42, h42, h43, h43, h43, h44, h44, h44, h45, h45, h45, h46, h46, h46, h47, h47, h47, h48, h48, h48, h49, h49, h49, h50, h50, h50, ch51, h50, ch52, h50, h53, h53, h53, ch54, h53, ch55, h53, h56, h56, h56, ch57, h56, ch58, h56, h59, h59, h59, ch60, h59, h59, ch61, h59, h59, ch62, h59, h59, ch63, h59, ch64, h59, h65, h65, h65, ch66, h65, ch67, h65, h68, h68, h68, ch69, h68, ch70, h68, h71, h71, h71, ch72, h71, ch73, h71, h74, h74, h74, ch75, h74, ch76, h74, h77, ch78, h77, h77, ch79, h77, h77, ch80, h77, ch81, h77, h77, h82, ch83, h82, h82, ch84, h82, h82, ch85, h82, ch86, h82, h82, trivial⟩
                           ·rw [if_neg h82] at h
                            have h82 := eF h82
                            cases h
                          ·rw [if_neg h77] at h
                           have h77 := eF h77
                           cases h
                         ·rw [if_neg h74] at h
                          have h74 := eF h74
                          cases h
                        ·rw [if_neg h71] at h
                         have h71 := eF h71
                         cases h
                       ·rw [if_neg h68] at h
                        have h68 := eF h68
                        cases h
                      ·rw [if_neg h65] at h
                       have h65 := eF h65
                       cases h
                     ·rw [if_neg h59] at h
                      have h59 := eF h59
                      cases h
                    ·rw [if_neg h56] at h
                     have h56 := eF h56
                     cases h
                   ·rw [if_neg h53] at h
                    have h53 := eF h53
                    cases h
                  ·rw [if_neg h50] at h
                   have h50 := eF h50
                   cases h
                 ·rw [if_neg h49] at h
                  have h49 := eF h49
                  cases h
                ·rw [if_neg h48] at h
                 have h48 := eF h48
                 cases h
               ·rw [if_neg h47] at h
                have h47 := eF h47
                cases h
              ·rw [if_neg h46] at h
               have h46 := eF h46
               cases h
             ·rw [if_neg h45] at h
              have h45 := eF h45
              cases h
            ·rw [if_neg h44] at h
             have h44 := eF h44
             cases h
           ·rw [if_neg h43] at h
            have h43 := eF h43
            cases h
          ·rw [if_neg h42] at h
           have h42 := eF h42
           cases h
         ·rw [if_neg h41] at h
          have h41 := eF h41
          cases h
        ·rw [if_neg h40] at h
         have h40 := eF h40
         cases h

theorem f43_p5_1_ok (F : Nat) (x6 : Int) (x14 : LL) (x2 x5 : Int) (x15 x1 x4 : Int) (x3 : LI) : ∀ (k : Nat) (x19 : Int) (x18 : LI) (r : (List Int)), f43_p5_1 F x6 x14 x2 x5 x15 x1 x4 x3 k x19 x18 = some r → f43_p5_1_P x6 x14 x2 x5 x15 x1 x4 x3 x19 x18 r
 | 0, _, _, _, h => by cases h
 | k + 1, x19, x18, r, h => by
  unfold f43_p5_1 at h
  by_cases h31 : (decide (x19 < (((Int.toNat (Int.tmod (w64 (x2)) (w64 (x5 + 1)))) : Nat) : Int))) = true
  ·rw [if_pos h31] at h
   obtain ⟨h32, h⟩ := req_some h
   obtain ⟨h33, h⟩ := req_some h
   obtain ⟨x20, h34, h⟩ := bind_some h
   try dsimp only at h
   obtain ⟨h35, h⟩ := req_some h
   obtain ⟨h36, h⟩ := req_some h
   obtain ⟨h37, h⟩ := req_some h
   exact Lp.again (gRun_ok cxOK (f43_p5_1_e0 x1 x2 x3 x4 x5 x6 x14 x15 x18 x19 x20) ⟨h31, h32, h33, ⟨x20, h34, rfl⟩, h35, h36, h37, trivial⟩) (f43_p5_1_ok F x6 x14 x2 x5 x15 x1 x4 x3 k (w64 (x19 + 1)) (List.set x18 (0 + (Int.toNat x19)) (Int.tmod (w64 (x20)) (w64 (x6 + 1)))) r h)
  ·rw [if_neg h31] at h
   have h31 := eF h31
   obtain rfl := sI h
   exact Lp.out (gRun_ok cxOK (f43_p5_1_e1 x1 x2 x3 x4 x5 x6 x14 x15 x18 x19) ⟨h31, trivial⟩) (by intro hh; cases hh)
theorem f43_p1_ok (F : Nat) (x6 x2 : Int) (x5 x1 x4 : Int) (x3 : LI) : ∀ (k : Nat) (x15 : Int) (x14 : LL) (r : (List (List Int))), f43_p1 F x6 x2 x5 x1 x4 x3 k x15 x14 = some r → f43_p1_P x6 x2 x5 x1 x4 x3 x15 x14 r
 | 0, _, _, _, h => by cases h
 | k + 1, x15, x14, r, h => by
  unfold f43_p1 at h
  by_cases h22 : (decide (x15 < (w64 (1 + (Int.tmod (w64 (x1)) x4))))) = true
  ·rw [if_pos h22] at h
   obtain ⟨h23, h⟩ := req_some h
   obtain ⟨x21, h38, h⟩ := bind_some h
   have ch38 := f43_p5_1_ok F x6 x14 x2 x5 x15 x1 x4 x3 F 0 (List.replicate (Int.toNat (Int.tmod (w64 (x2)) (w64 (x5 + 1)))) (0 : Int)) _ h38
   try dsimp only at h
   obtain ⟨h39, h⟩ := req_some h
   obtain ⟨h40, h⟩ := req_some h
   exact Lp.again (gRun_ok cxOK (f43_p1_e0 x1 x2 x3 x4 x5 x6 x14 x15 x21) ⟨h22, h23, ch38, h39, h40, rfl, trivial⟩) (f43_p1_ok F x6 x2 x5 x1 x4 x3 k (w64 (x15 + 1)) (x14 ++ ([(List.drop 0 (List.take (0 + (Int.toNat (Int.tmod (w64 (x2)) (w64 (x5 + 1))))) x21))] : List (List Int))) r h)
  ·rw [if_neg h22] at h
   have h22 := eF h22
   obtain rfl := sI h
   exact Lp.out (gRun_ok cxOK (f43_p1_e1 x1 x2 x3 x4 x5 x6 x14 x15) ⟨h22, trivial⟩) (by intro hh; cases hh)
theorem f43_ok (F : Nat) (x1 x2 : Int) (x3 : LI) (x4 x5 x6 : Int) (r : (List (List Int))) (h : f43 F x1 x2 x3 x4 x5 x6 = some r) : f43_C x1 x2 x3 x4 x5 x6 r := by
 unfold f43 at h
 obtain ⟨h1, h⟩ := req_some h
 obtain ⟨h2, h⟩ := req_some h
 obtain ⟨x22, h41, h⟩ := bind_some h
 have ch41 := f43_p1_ok F x6 x2 x5 x1 x4 x3 F 0 ([] : List (List Int)) _ h41
 try dsimp only at h
 obtain rfl := sI h
 exact callOK cxOK cxW Try.func43 (by kernel_rfl) (f43_e0 x1 x2 x3 x4 x5 x6 x22) ⟨h1, h2, ch41, (Nat.le_of_eq (Nat.zero_add _)), trivial⟩

end Go.Gh.Sale
