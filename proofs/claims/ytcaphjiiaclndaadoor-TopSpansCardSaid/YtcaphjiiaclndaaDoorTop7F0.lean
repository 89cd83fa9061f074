/- Top7F0: printed by wip/tool/gx.py -/
import Derived.Test.YtcaphjiiaclndaaDoorTop7E0
import Derived.Test.YtcaphjiiaclndaaDoorTop7E1
namespace Go.Gh.Top
set_option linter.unusedVariables false
set_option linter.unusedSimpArgs false
open Go.Proofs

theorem f36_p1_ok (F : Nat) (x1 : LI) (x2 : Int) : ∀ (k : Nat) (x3 : Int) (r : f36_p1_R), f36_p1 F x1 x2 k x3 = some r → f36_p1_P x1 x2 x3 r
 | 0, _, _, h => by cases h
 | k + 1, x3, r, h => by
  unfold f36_p1 at h
  by_cases h1 : (decide (x3 < ((List.length x1 : Nat) : Int))) = true
  ·rw [if_pos h1] at h
   obtain ⟨x4, h2, h⟩ := bind_some h
   try dsimp only at h
   by_cases h3 : (x2 == x4) = true
   ·rw [if_pos h3] at h
    obtain rfl := sI h
    exact Lp.out (gRun_ok cxOK (f36_p1_e0 x1 x2 x3 x4) ⟨h1, ⟨(at?_spec h2).1, x4, (at?_spec h2).2, rfl⟩, h3, trivial⟩) (by intro hh; cases hh)
   ·rw [if_neg h3] at h
    have h3 := eF h3
    exact Lp.again (gRun_ok cxOK (f36_p1_e1 x1 x2 x3 x4) ⟨h1, ⟨(at?_spec h2).1, x4, (at?_spec h2).2, rfl⟩, h3, trivial⟩) (f36_p1_ok F x1 x2 k (w64 (x3 + 1)) r h)
  ·rw [if_neg h1] at h
   have h1 := eF h1
   obtain rfl := sI h
   exact Lp.out (gRun_ok cxOK (f36_p1_e2 x1 x2 x3) ⟨h1, trivial⟩) (by intro hh; cases hh)
theorem f36_ok (F : Nat) (x1 : LI) (x2 : Int) (r : Int) (h : f36 F x1 x2 = some r) : f36_C x1 x2 r := by
 unfold f36 at h
 obtain ⟨rh4, h4, h⟩ := bind_some h
 have ch4 := f36_p1_ok F x1 x2 F 0 _ h4
 cases rh4 with
 | c0 x5 =>
  try dsimp only at h
  obtain rfl := sI h
  exact callOK cxOK cxW Tryd.func36 (by kernel_rfl) (f36_e0 x1 x2 x5) ⟨ch4, trivial⟩
 | c1 =>
  try dsimp only at h
  obtain rfl := sI h
  exact callOK cxOK cxW Tryd.func36 (by kernel_rfl) (f36_e1 x1 x2) ⟨ch4, trivial⟩

theorem f65_ok (F : Nat) (x1 : Int) (r : Bool) (h : f65 F x1 = some r) : f65_C x1 r := by
 unfold f65 at h
 by_cases h1 : (decide (x1 ≥ 1)) = true
 ·rw [if_pos h1] at h
  obtain rfl := sI h
  exact callOK cxOK cxW Tryd.func65 (by kernel_rfl) (f65_e0 x1) ⟨h1, h1, h1, trivial⟩
 ·rw [if_neg h1] at h
  have h1 := eF h1
  obtain rfl := sI h
  exact callOK cxOK cxW Tryd.func65 (by kernel_rfl) (f65_e1 x1) ⟨h1, h1, h1, trivial⟩

theorem f102_p1_ok (F : Nat) (x1 : Int) (x2 : LI) : ∀ (k : Nat) (x3 x4 x5 : Int) (r : f102_p1_R), f102_p1 F x1 x2 k x3 x4 x5 = some r → f102_p1_P x1 x2 x3 x4 x5 r
 | 0, _, _, _, _, h => by cases h
 | k + 1, x3, x4, x5, r, h => by
  unfold f102_p1 at h
  by_cases h1 : (decide (x5 < ((List.length x2 : Nat) : Int))) = true
  ·rw [if_pos h1] at h
   obtain ⟨x6, h2, h⟩ := bind_some h
   try dsimp only at h
   by_cases h3 : (decide (x6 < 0)) = true
   ·rw [if_pos h3] at h
    obtain rfl := sI h
    exact Lp.out (gRun_ok cxOK (f102_p1_e0 x1 x2 x3 x4 x5 x6) ⟨h1, ⟨(at?_spec h2).1, x6, (at?_spec h2).2, rfl⟩, h3, h3, h3, h3, rfl, trivial⟩) (by intro hh; cases hh)
   ·rw [if_neg h3] at h
    have h3 := eF h3
    by_cases h4 : (decide (x6 ≥ x1)) = true
    ·rw [if_pos h4] at h
     obtain rfl := sI h
     exact Lp.out (gRun_ok cxOK (f102_p1_e1 x1 x2 x3 x4 x5 x6) ⟨h1, ⟨(at?_spec h2).1, x6, (at?_spec h2).2, rfl⟩, h3, h3, h3, h3, h4, trivial⟩) (by intro hh; cases hh)
    ·rw [if_neg h4] at h
     have h4 := eF h4
     by_cases h5 : (decide (x6 ≤ x4)) = true
     ·rw [if_pos h5] at h
      obtain rfl := sI h
      exact Lp.out (gRun_ok cxOK (f102_p1_e2 x1 x2 x3 x4 x5 x6) ⟨h1, ⟨(at?_spec h2).1, x6, (at?_spec h2).2, rfl⟩, h3, h3, h3, h3, h4, h5, trivial⟩) (by intro hh; cases hh)
     ·rw [if_neg h5] at h
      have h5 := eF h5
      obtain ⟨h6, h⟩ := req_some h
      exact Lp.again (gRun_ok cxOK (f102_p1_e3 x1 x2 x3 x4 x5 x6) ⟨h1, ⟨(at?_spec h2).1, x6, (at?_spec h2).2, rfl⟩, h3, h3, h3, h3, h4, h5, h6, trivial⟩) (f102_p1_ok F x1 x2 k (iOr .u64 x3 (iShl .u64 1 x6)) x6 (w64 (x5 + 1)) r h)
  ·rw [if_neg h1] at h
   have h1 := eF h1
   obtain rfl := sI h
   exact Lp.out (gRun_ok cxOK (f102_p1_e4 x1 x2 x3 x4 x5) ⟨h1, trivial⟩) (by intro hh; cases hh)
theorem f102_ok (F : Nat) (x1 : Int) (x2 : LI) (r : Int × Int) (h : f102 F x1 x2 = some r) : f102_C x1 x2 r := by
 unfold f102 at h
 obtain ⟨rh7, h7, h⟩ := bind_some h
 have ch7 := f102_p1_ok F x1 x2 F 0 (-1) 0 _ h7
 cases rh7 with
 | c0 x7 =>
  try dsimp only at h
  obtain rfl := sI h
  exact callOK cxOK cxW Tryd.func102 (by kernel_rfl) (f102_e0 x1 x2 x7) ⟨ch7, trivial⟩
 | c1 x8 =>
  try dsimp only at h
  obtain rfl := sI h
  exact callOK cxOK cxW Tryd.func102 (by kernel_rfl) (f102_e1 x1 x2 x8) ⟨ch7, trivial⟩

theorem f86_ok (F : Nat) (x1 : Int) (r : Bool) (h : f86 F x1 = some r) : f86_C x1 r := by
 unfold f86 at h
 by_cases h1 : (decide (x1 ≥ 1)) = true
 ·rw [if_pos h1] at h
  obtain rfl := sI h
  exact callOK cxOK cxW Tryd.func86 (by kernel_rfl) (f86_e0 x1) ⟨h1, h1, h1, trivial⟩
 ·rw [if_neg h1] at h
  have h1 := eF h1
  obtain rfl := sI h
  exact callOK cxOK cxW Tryd.func86 (by kernel_rfl) (f86_e1 x1) ⟨h1, h1, h1, trivial⟩

theorem f104_ok (F : Nat) (x1 x2 : Int) (r : Bool) (h : f104 F x1 x2 = some r) : f104_C x1 x2 r := by
 unfold f104 at h
 obtain ⟨h1, h⟩ := req_some h
 obtain rfl := sI h
 exact callOK cxOK cxW Tryd.func104 (by kernel_rfl) (f104_e0 x1 x2) ⟨h1, trivial⟩

theorem f105_ok (F : Nat) (x1 x2 x3 : Int) (x4 : LI) (r : Int × (List Int)) (h : f105 F x1 x2 x3 x4 = some r) : f105_C x1 x2 x3 x4 r := by
 unfold f105 at h
 obtain ⟨h1, h⟩ := req_some h
 obtain ⟨x5, h2, h⟩ := bind_some h
 try dsimp only at h
 obtain ⟨h3, h⟩ := req_some h
 obtain ⟨h4, h⟩ := req_some h
 obtain ⟨h5, h⟩ := req_some h
 obtain ⟨x6, h6, h⟩ := bind_some h
 try dsimp only at h
 obtain ⟨h7, h⟩ := req_some h
 obtain ⟨h8, h⟩ := req_some h
 obtain rfl := sI h
 exact callOK cxOK cxW Tryd.func105 (by kernel_rfl) (f105_e0 x1 x2 x3 x4 x5 x6) ⟨h1, ⟨x5, h2, rfl⟩, h3, h1, h4, h5, ⟨x6, h6, rfl⟩, h7, h5, h8, trivial⟩

theorem f70_p2_ok (F : Nat) (x2 : List (Int × (Int × Unit))) (x1 : Int) : ∀ (k : Nat) (x12 x13 : Int) (x14 : LI) (r : f70_p2_R), f70_p2 F x2 x1 k x12 x13 x14 = some r → f70_p2_P x2 x1 x12 x13 x14 r
 | 0, _, _, _, _, h => by cases h
 | k + 1, x12, x13, x14, r, h => by
  unfold f70_p2 at h
  by_cases h15 : (decide (x12 < ((List.length x2 : Nat) : Int))) = true
  ·rw [if_pos h15] at h
   obtain ⟨x15, h16, h⟩ := bind_some h
   try dsimp only at h
   obtain ⟨x16, h17, h⟩ := bind_some h
   try dsimp only at h
   obtain ⟨x17, h18, h⟩ := bind_some h
   try dsimp only at h
   by_cases h19 : (decide ((if x17 < x16 then x17 else x16) < 0)) = true
   ·rw [if_pos h19] at h
    obtain rfl := sI h
    exact Lp.out (gRun_ok cxOK (f70_p2_e0 x1 x2 x12 x13 x14 x15 x16 x17) ⟨h15, ⟨(at?_spec h16).1, x15, (at?_spec h16).2, rfl⟩, (by decide), ⟨x16, h17, rfl⟩, (by decide), ⟨x17, h18, rfl⟩, h19, h19, h19, h19, h19, h19, h19, rfl, trivial⟩) (by intro hh; cases hh)
   ·rw [if_neg h19] at h
    have h19 := eF h19
    by_cases h20 : (decide ((if x17 > x16 then x17 else x16) ≥ x1)) = true
    ·rw [if_pos h20] at h
     obtain rfl := sI h
     exact Lp.out (gRun_ok cxOK (f70_p2_e1 x1 x2 x12 x13 x14 x15 x16 x17) ⟨h15, ⟨(at?_spec h16).1, x15, (at?_spec h16).2, rfl⟩, (by decide), ⟨x16, h17, rfl⟩, (by decide), ⟨x17, h18, rfl⟩, h19, h19, h19, h19, h19, h19, h19, h20, trivial⟩) (by intro hh; cases hh)
    ·rw [if_neg h20] at h
     have h20 := eF h20
     by_cases h21 : (decide (x16 ≥ x17)) = true
     ·rw [if_pos h21] at h
      obtain rfl := sI h
      exact Lp.out (gRun_ok cxOK (f70_p2_e2 x1 x2 x12 x13 x14 x15 x16 x17) ⟨h15, ⟨(at?_spec h16).1, x15, (at?_spec h16).2, rfl⟩, (by decide), ⟨x16, h17, rfl⟩, (by decide), ⟨x17, h18, rfl⟩, h19, h19, h19, h19, h19, h19, h19, h20, h21, trivial⟩) (by intro hh; cases hh)
     ·rw [if_neg h21] at h
      have h21 := eF h21
      obtain ⟨h22, h⟩ := req_some h
      obtain ⟨x18, h23, h⟩ := bind_some h
      try dsimp only at h
      obtain ⟨x19, h24, h⟩ := bind_some h
      have ch24 := f104_ok F x18 x17 _ h24
      try dsimp only at h
      by_cases h25 : x19 = true
      ·rw [if_pos h25] at h
       obtain rfl := sI h
       exact Lp.out (gRun_ok cxOK (f70_p2_e3 x1 x2 x12 x13 x14 x15 x16 x17 x18 x19) ⟨h15, ⟨(at?_spec h16).1, x15, (at?_spec h16).2, rfl⟩, (by decide), ⟨x16, h17, rfl⟩, (by decide), ⟨x17, h18, rfl⟩, h19, h19, h19, h19, h19, h19, h19, h20, h21, h22, ⟨x18, h23, rfl⟩, ch24, h25, trivial⟩) (by intro hh; cases hh)
      ·rw [if_neg h25] at h
       have h25 := eF h25
       obtain ⟨rh26, h26, h⟩ := bind_some h
       have ch26 := f105_ok F x16 x17 x13 x14 _ h26
       obtain ⟨x20, x21⟩ := rh26
       try dsimp only at h
       exact Lp.again (gRun_ok cxOK (f70_p2_e4 x1 x2 x12 x13 x14 x15 x16 x17 x18 x19 x20 x21) ⟨h15, ⟨(at?_spec h16).1, x15, (at?_spec h16).2, rfl⟩, (by decide), ⟨x16, h17, rfl⟩, (by decide), ⟨x17, h18, rfl⟩, h19, h19, h19, h19, h19, h19, h19, h20, h21, h22, ⟨x18, h23, rfl⟩, ch24, h25, ch26, trivial⟩) (f70_p2_ok F x2 x1 k (w64 (x12 + 1)) x20 x21 r h)
  ·rw [if_neg h15] at h
   have h15 := eF h15
   obtain rfl := sI h
   exact Lp.out (gRun_ok cxOK (f70_p2_e5 x1 x2 x12 x13 x14) ⟨h15, trivial⟩) (by intro hh; cases hh)
theorem f70_ok (F : Nat) (x1 : Int) (x2 : List (Int × (Int × Unit))) (r : f70_R) (h : f70 F x1 x2 = some r) : f70_C x1 x2 r := by
 unfold f70 at h
 obtain ⟨x3, h1, h⟩ := bind_some h
 have ch1 := f86_ok F x1 _ h1
 try dsimp only at h
 by_cases h2 : x3 = true
 ·rw [if_pos h2] at h
  obtain ⟨rh27, h27, h⟩ := bind_some h
  have ch27 := f70_p2_ok F x2 x1 F 0 x1 (List.replicate 8 0) _ h27
  cases rh27 with
  | c0 x22 =>
   try dsimp only at h
   obtain rfl := sI h
   exact callOK cxOK cxW Tryd.func70 (by kernel_rfl) (f70_e0 x1 x2 x3 x22) ⟨ch1, (by rw [h2]; rfl), ch27, trivial⟩
  | c1 x23 x24 =>
   try dsimp only at h
   obtain rfl := sI h
   exact callOK cxOK cxW Tryd.func70 (by kernel_rfl) (f70_e1 x1 x2 x3 x23 x24) ⟨ch1, (by rw [h2]; rfl), ch27, trivial⟩
 ·rw [if_neg h2] at h
  have h2 := eF h2
  obtain rfl := sI h
  exact callOK cxOK cxW Tryd.func70 (by kernel_rfl) (f70_e2 x1 x2 x3) ⟨ch1, (by rw [h2]; rfl), trivial⟩

theorem f71_p1_ok (F : Nat) : ∀ (k : Nat) (x1 : Int) (r : f71_p1_R), f71_p1 F k x1 = some r → f71_p1_P x1 r
 | 0, _, _, h => by cases h
 | k + 1, x1, r, h => by
  unfold f71_p1 at h
  dsimp only at h
  cases h
theorem f71_ok (F : Nat) (r : f71_R) (h : f71 F = some r) : f71_C r := by
 unfold f71 at h
 obtain ⟨rh1, h1, h⟩ := bind_some h
 have ch1 := f71_p1_ok F F 1 _ h1
 exact nomatch rh1

theorem f84_ok (F : Nat) (x1 : Int) (r : Int) (h : f84 F x1 = some r) : f84_C x1 r := by
 unfold f84 at h
 obtain ⟨h1, h⟩ := req_some h
 obtain rfl := sI h
 exact callOK cxOK cxW Tryd.func84 (by kernel_rfl) (f84_e0 x1) ⟨h1, trivial⟩

theorem f85_p1_ok (F : Nat) : ∀ (k : Nat) (x5 : Int) (x4 : LI) (r : (List Int)), f85_p1 F k x5 x4 = some r → f85_p1_P x5 x4 r
 | 0, _, _, _, h => by cases h
 | k + 1, x5, x4, r, h => by
  unfold f85_p1 at h
  by_cases h4 : (x5 != 0) = true
  ·rw [if_pos h4] at h
   obtain ⟨x6, h5, h⟩ := bind_some h
   have ch5 := f84_ok F x5 _ h5
   try dsimp only at h
   obtain ⟨h6, h⟩ := req_some h
   exact Lp.again (gRun_ok cxOK (f85_p1_e0 x4 x5 x6) ⟨h4, ch5, h6, rfl, trivial⟩) (f85_p1_ok F k (iAnd .u8 x5 (IntKind.wrap .u8 (x5 - 1))) (x4 ++ ([x6] : List Int)) r h)
  ·rw [if_neg h4] at h
   have h4 := eF h4
   obtain rfl := sI h
   exact Lp.out (gRun_ok cxOK (f85_p1_e1 x4 x5) ⟨h4, trivial⟩) (by intro hh; cases hh)
theorem f85_ok (F : Nat) (x1 : Int) (r : (List Int)) (h : f85 F x1 = some r) : f85_C x1 r := by
 unfold f85 at h
 obtain ⟨x7, h7, h⟩ := bind_some h
 have ch7 := f85_p1_ok F F x1 ([] : List Int) _ h7
 try dsimp only at h
 obtain rfl := sI h
 exact callOK cxOK cxW Tryd.func85 (by kernel_rfl) (f85_e0 x1 x7) ⟨ch7, (Nat.le_of_eq (Nat.zero_add _)), trivial⟩

theorem f106_p1_ok (F : Nat) (x1 : Int) (x4 : LI) (x2 : Int) (x3 : LI) : ∀ (k : Nat) (x5 : Int) (r : f106_p1_R), f106_p1 F x1 x4 x2 x3 k x5 = some r → f106_p1_P x1 x4 x2 x3 x5 r
 | 0, _, _, h => by cases h
 | k + 1, x5, r, h => by
  unfold f106_p1 at h
  by_cases h2 : (decide (x5 < ((List.length x4 : Nat) : Int))) = true
  ·rw [if_pos h2] at h
   obtain ⟨x6, h3, h⟩ := bind_some h
   try dsimp only at h
   obtain ⟨h4, h⟩ := req_some h
   obtain ⟨x7, h5, h⟩ := bind_some h
   try dsimp only at h
   obtain ⟨h6, h⟩ := req_some h
   by_cases h7 : ((iAndNot .u8 x1 x7) != (iShl .u8 1 x6)) = true
   ·rw [if_pos h7] at h
    obtain rfl := sI h
    exact Lp.out (gRun_ok cxOK (f106_p1_e0 x1 x2 x3 x4 x5 x6 x7) ⟨h2, ⟨(at?_spec h3).1, x6, (at?_spec h3).2, rfl⟩, h4, ⟨x7, h5, rfl⟩, h6, h7, trivial⟩) (by intro hh; cases hh)
   ·rw [if_neg h7] at h
    have h7 := eF h7
    exact Lp.again (gRun_ok cxOK (f106_p1_e1 x1 x2 x3 x4 x5 x6 x7) ⟨h2, ⟨(at?_spec h3).1, x6, (at?_spec h3).2, rfl⟩, h4, ⟨x7, h5, rfl⟩, h6, h7, trivial⟩) (f106_p1_ok F x1 x4 x2 x3 k (w64 (x5 + 1)) r h)
  ·rw [if_neg h2] at h
   have h2 := eF h2
   obtain rfl := sI h
   exact Lp.out (gRun_ok cxOK (f106_p1_e2 x1 x2 x3 x4 x5) ⟨h2, trivial⟩) (by intro hh; cases hh)
theorem f106_ok (F : Nat) (x1 x2 : Int) (x3 : LI) (r : Bool) (h : f106 F x1 x2 x3 = some r) : f106_C x1 x2 x3 r := by
 unfold f106 at h
 obtain ⟨x4, h1, h⟩ := bind_some h
 have ch1 := f85_ok F x1 _ h1
 try dsimp only at h
 obtain ⟨rh8, h8, h⟩ := bind_some h
 have ch8 := f106_p1_ok F x1 x4 x2 x3 F 0 _ h8
 cases rh8 with
 | c0 =>
  try dsimp only at h
  obtain rfl := sI h
  exact callOK cxOK cxW Tryd.func106 (by kernel_rfl) (f106_e0 x1 x2 x3 x4) ⟨ch1, ch8, trivial⟩
 | c1 =>
  try dsimp only at h
  obtain rfl := sI h
  exact callOK cxOK cxW Tryd.func106 (by kernel_rfl) (f106_e1 x1 x2 x3 x4) ⟨ch1, ch8, trivial⟩

theorem f147_ok (F : Nat) (x1 : Int) (r : Bool) (h : f147 F x1 = some r) : f147_C x1 r := by
 unfold f147 at h
 obtain rfl := sI h
 exact callOK cxOK cxW Tryd.func147 (by kernel_rfl) (f147_e0 x1) trivial

theorem f136_ok (F : Nat) (x1 x2 : Int) (r : Int) (h : f136 F x1 x2 = some r) : f136_C x1 x2 r := by
 unfold f136 at h
 obtain ⟨x3, h1, h⟩ := bind_some h
 have ch1 := f147_ok F x1 _ h1
 try dsimp only at h
 obtain ⟨x4, h2, h⟩ := bind_some h
 have ch2 := f147_ok F x2 _ h2
 try dsimp only at h
 by_cases h3 : x3 = true
 ·rw [if_pos h3] at h
  by_cases h4 : x4 = true
  ·rw [if_pos h4] at h
   obtain rfl := sI h
   exact callOK cxOK cxW Tryd.func136 (by kernel_rfl) (f136_e0 x1 x2 x3 x4) ⟨ch1, ch2, h3, h4, trivial⟩
  ·rw [if_neg h4] at h
   have h4 := eF h4
   obtain rfl := sI h
   exact callOK cxOK cxW Tryd.func136 (by kernel_rfl) (f136_e1 x1 x2 x3 x4) ⟨ch1, ch2, h3, h4, trivial⟩
 ·rw [if_neg h3] at h
  have h3 := eF h3
  by_cases h5 : x4 = true
  ·rw [if_pos h5] at h
   obtain rfl := sI h
   exact callOK cxOK cxW Tryd.func136 (by kernel_rfl) (f136_e2 x1 x2 x3 x4) ⟨ch1, ch2, h3, h5, trivial⟩
  ·rw [if_neg h5] at h
   have h5 := eF h5
   by_cases h6 : (decide (x1 < x2)) = true
   ·rw [if_pos h6] at h
    obtain rfl := sI h
    exact callOK cxOK cxW Tryd.func136 (by kernel_rfl) (f136_e3 x1 x2 x3 x4) ⟨ch1, ch2, h3, h5, h6, trivial⟩
   ·rw [if_neg h6] at h
    have h6 := eF h6
    by_cases h7 : (decide (x1 > x2)) = true
    ·rw [if_pos h7] at h
     obtain rfl := sI h
     exact callOK cxOK cxW Tryd.func136 (by kernel_rfl) (f136_e4 x1 x2 x3 x4) ⟨ch1, ch2, h3, h5, h6, h7, trivial⟩
    ·rw [if_neg h7] at h
     have h7 := eF h7
     obtain rfl := sI h
     exact callOK cxOK cxW Tryd.func136 (by kernel_rfl) (f136_e5 x1 x2 x3 x4) ⟨ch1, ch2, h3, h5, h6, h7, trivial⟩

theorem f107_p1_ok (F : Nat) (x1 x2 : LI) : ∀ (k : Nat) (x3 : Int) (r : f107_p1_R), f107_p1 F x1 x2 k x3 = some r → f107_p1_P x1 x2 x3 r
 | 0, _, _, h => by cases h
 | k + 1, x3, r, h => by
  unfold f107_p1 at h
  by_cases h1 : (decide (x3 < ((List.length x1 : Nat) : Int))) = true
  ·rw [if_pos h1] at h
   obtain ⟨x4, h2, h⟩ := bind_some h
   try dsimp only at h
   by_cases h3 : (decide (x3 ≥ ((List.length x2 : Nat) : Int))) = true
   ·rw [if_pos h3] at h
    obtain rfl := sI h
    exact Lp.out (gRun_ok cxOK (f107_p1_e0 x1 x2 x3 x4) ⟨h1, ⟨(at?_spec h2).1, x4, (at?_spec h2).2, rfl⟩, h3, trivial⟩) (by intro hh; cases hh)
   ·rw [if_neg h3] at h
    have h3 := eF h3
    obtain ⟨x5, h4, h⟩ := bind_some h
    try dsimp only at h
    obtain ⟨x6, h5, h⟩ := bind_some h
    have ch5 := f136_ok F x4 x5 _ h5
    try dsimp only at h
    by_cases h6 : (x6 != 0) = true
    ·rw [if_pos h6] at h
     obtain rfl := sI h
     exact Lp.out (gRun_ok cxOK (f107_p1_e1 x1 x2 x3 x4 x5 x6) ⟨h1, ⟨(at?_spec h2).1, x4, (at?_spec h2).2, rfl⟩, h3, ⟨(at?_spec h4).1, x5, (at?_spec h4).2, rfl⟩, ch5, h6, trivial⟩) (by intro hh; cases hh)
    ·rw [if_neg h6] at h
     have h6 := eF h6
     exact Lp.again (gRun_ok cxOK (f107_p1_e2 x1 x2 x3 x4 x5 x6) ⟨h1, ⟨(at?_spec h2).1, x4, (at?_spec h2).2, rfl⟩, h3, ⟨(at?_spec h4).1, x5, (at?_spec h4).2, rfl⟩, ch5, h6, trivial⟩) (f107_p1_ok F x1 x2 k (w64 (x3 + 1)) r h)
  ·rw [if_neg h1] at h
   have h1 := eF h1
   obtain rfl := sI h
   exact Lp.out (gRun_ok cxOK (f107_p1_e3 x1 x2 x3) ⟨h1, trivial⟩) (by intro hh; cases hh)
theorem f107_ok (F : Nat) (x1 x2 : LI) (r : Int) (h : f107 F x1 x2 = some r) : f107_C x1 x2 r := by
 unfold f107 at h
 obtain ⟨rh7, h7, h⟩ := bind_some h
 have ch7 := f107_p1_ok F x1 x2 F 0 _ h7
 cases rh7 with
 | c0 x7 =>
  try dsimp only at h
  obtain rfl := sI h
  exact callOK cxOK cxW Tryd.func107 (by kernel_rfl) (f107_e0 x1 x2 x7) ⟨ch7, trivial⟩
 | c1 =>
  try dsimp only at h
  by_cases h8 : (decide (((List.length x1 : Nat) : Int) < ((List.length x2 : Nat) : Int))) = true
  ·rw [if_pos h8] at h
   obtain rfl := sI h
   exact callOK cxOK cxW Tryd.func107 (by kernel_rfl) (f107_e1 x1 x2) ⟨ch7, h8, trivial⟩
  ·rw [if_neg h8] at h
   have h8 := eF h8
   obtain rfl := sI h
   exact callOK cxOK cxW Tryd.func107 (by kernel_rfl) (f107_e2 x1 x2) ⟨ch7, h8, trivial⟩

theorem f71_1_p4_ok (F : Nat) (x6 : LI) (x7 : Int) (x8 : LI) (x10 x1 : Int) (x2 : LI) (r : (List Int)) (h : f71_1_p4 F x6 x7 x8 x10 x1 x2 = some r) : f71_1_p4_P x6 x7 x8 x10 x1 x2 r := by
 unfold f71_1_p4 at h
 by_cases h16 : (decide (x10 < 0)) = true
 ·rw [if_pos h16] at h
  obtain rfl := sI h
  exact gRun_ok cxOK (f71_1_p4_e0 x1 x2 x6 x7 x8 x10) ⟨h16, trivial⟩
 ·rw [if_neg h16] at h
  have h16 := eF h16
  obtain rfl := sI h
  exact gRun_ok cxOK (f71_1_p4_e1 x1 x2 x6 x7 x8 x10) ⟨h16, trivial⟩
theorem f71_1_p1_ok (F : Nat) (x1 : Int) (x2 : LI) : ∀ (k : Nat) (x6 : LI) (x7 : Int) (r : (List Int)), f71_1_p1 F x1 x2 k x6 x7 = some r → f71_1_p1_P x1 x2 x6 x7 r
 | 0, _, _, _, h => by cases h
 | k + 1, x6, x7, r, h => by
  unfold f71_1_p1 at h
  obtain ⟨h8, h⟩ := req_some h
  by_cases h9 : (decide (x7 < (iShl .i64 1 x1))) = true
  ·rw [if_pos h9] at h
   obtain ⟨x8, h10, h⟩ := bind_some h
   have ch10 := f85_ok F (IntKind.wrap .u8 (x7)) _ h10
   try dsimp only at h
   by_cases h11 : (decide (((List.length x8 : Nat) : Int) ≥ ((List.length x6 : Nat) : Int))) = true
   ·rw [if_pos h11] at h
    obtain ⟨x9, h12, h⟩ := bind_some h
    have ch12 := f106_ok F (IntKind.wrap .u8 (x7)) x1 x2 _ h12
    try dsimp only at h
    by_cases h13 : x9 = true
    ·rw [if_pos h13] at h
     by_cases h14 : (decide (((List.length x8 : Nat) : Int) > ((List.length x6 : Nat) : Int))) = true
     ·rw [if_pos h14] at h
      exact Lp.again (gRun_ok cxOK (f71_1_p1_e0 x1 x2 x6 x7 x8 x9) ⟨h8, h9, ch10, h11, h11, h11, h11, ch12, h11, h13, h13, h13, h13, h13, h13, h14, h14, h14, h14, h13, h14, h13, rfl, trivial⟩) (f71_1_p1_ok F x1 x2 k x8 (w64 (x7 + 1)) r h)
     ·rw [if_neg h14] at h
      have h14 := eF h14
      obtain ⟨x10, h15, h⟩ := bind_some h
      have ch15 := f107_ok F x8 x6 _ h15
      try dsimp only at h
      obtain ⟨x11, h17, h⟩ := bind_some h
      have ch17 := f71_1_p4_ok F x6 x7 x8 x10 x1 x2 _ h17
      try dsimp only at h
      exact Lp.again (gRun_ok cxOK (f71_1_p1_e1 x1 x2 x6 x7 x8 x9 x10 x11) ⟨h8, h9, ch10, h11, h11, h11, h11, ch12, h11, h13, h13, h13, h13, h13, h13, h14, h14, h14, ch15, h14, h13, h14, h13, ch17, trivial⟩) (f71_1_p1_ok F x1 x2 k x11 (w64 (x7 + 1)) r h)
    ·rw [if_neg h13] at h
     have h13 := eF h13
     exact Lp.again (gRun_ok cxOK (f71_1_p1_e2 x1 x2 x6 x7 x8 x9) ⟨h8, h9, ch10, h11, h11, h11, h11, ch12, h11, h13, h13, h13, h13, h13, h13, h13, h13, rfl, trivial⟩) (f71_1_p1_ok F x1 x2 k x6 (w64 (x7 + 1)) r h)
   ·rw [if_neg h11] at h
    have h11 := eF h11
    exact Lp.again (gRun_ok cxOK (f71_1_p1_e3 x1 x2 x6 x7 x8) ⟨h8, h9, ch10, h11, h11, h11, h11, h11, rfl, rfl, rfl, rfl, rfl, rfl, rfl, rfl, rfl, trivial⟩) (f71_1_p1_ok F x1 x2 k x6 (w64 (x7 + 1)) r h)
  ·rw [if_neg h9] at h
   have h9 := eF h9
   obtain rfl := sI h
   exact Lp.out (gRun_ok cxOK (f71_1_p1_e4 x1 x2 x6 x7) ⟨h8, h9, trivial⟩) (by intro hh; cases hh)
theorem f71_1_ok (F : Nat) (x1 : Int) (x2 : LI) (r : (List Int)) (h : f71_1 F x1 x2 = some r) : f71_1_C x1 x2 r := by
 unfold f71_1 at h
 obtain ⟨x12, h18, h⟩ := bind_some h
 have ch18 := f71_1_p1_ok F x1 x2 F ([] : List Int) 1 _ h18
 try dsimp only at h
 obtain rfl := sI h
 exact callOK cxOK cxW Tryd.func71 (by kernel_rfl) (f71_1_e0 x1 x2 x12) ⟨ch18, trivial⟩

theorem f30_ok (F : Nat) (x1 : Int) (x2 : List (Int × (Int × Unit))) (r : (List Int) × Int) (h : f30 F x1 x2 = some r) : f30_C x1 x2 r := by
 unfold f30 at h
 obtain ⟨rh1, h1, h⟩ := bind_some h
 have ch1 := f70_ok F x1 x2 _ h1
 cases rh1 with
 | c0 x3 =>
  try dsimp only at h
  by_cases h2 : (x3 != 0) = true
  ·rw [if_pos h2] at h
   obtain rfl := sI h
   exact callOK cxOK cxW Tryd.func30 (by kernel_rfl) (f30_e0 x1 x2 x3) ⟨ch1, h2, trivial⟩
  ·rw [if_neg h2] at h
   have h2 := eF h2
   obtain ⟨rh3, h3, h⟩ := bind_some h
   have ch3 := f71_ok F _ h3
   exact nomatch rh3
 | c1 x4 x5 x6 =>
  try dsimp only at h
  by_cases h4 : (x4 != 0) = true
  ·rw [if_pos h4] at h
   obtain rfl := sI h
   exact callOK cxOK cxW Tryd.func30 (by kernel_rfl) (f30_e1 x1 x2 x4 x5 x6) ⟨ch1, h4, trivial⟩
  ·rw [if_neg h4] at h
   have h4 := eF h4
   obtain ⟨x7, h5, h⟩ := bind_some h
   have ch5 := f71_1_ok F x5 x6 _ h5
   try dsimp only at h
   obtain rfl := sI h
   exact callOK cxOK cxW Tryd.func30 (by kernel_rfl) (f30_e2 x1 x2 x4 x5 x6 x7) ⟨ch1, h4, ch5, trivial⟩

theorem f72_p5_1_ok (F : Nat) (x1 x2 : Nat) (x3 x4 x20 : Int) (x5 x18 : LI) : ∀ (k : Nat) (x24 : LI) (r : (List Int)), f72_p5_1 F x1 x2 x3 x4 x20 x5 x18 k x24 = some r → f72_p5_1_P x1 x2 x3 x4 x20 x5 x18 x24 r
 | 0, _, _, h => by cases h
 | k + 1, x24, r, h => by
  unfold f72_p5_1 at h
  obtain ⟨h39, h⟩ := req_some h
  obtain ⟨x25, h40, h⟩ := bind_some h
  try dsimp only at h
  by_cases h41 : (decide (x25 < x3)) = true
  ·rw [if_pos h41] at h
   obtain ⟨h42, h⟩ := req_some h
   obtain ⟨x26, h43, h⟩ := bind_some h
   try dsimp only at h
   obtain ⟨h44, h⟩ := req_some h
   obtain ⟨x27, h45, h⟩ := bind_some h
   try dsimp only at h
   by_cases h46 : ((iAnd .u8 x26 x27) == 0) = true
   ·rw [if_pos h46] at h
    obtain rfl := sI h
    exact Lp.out (gRun_ok cxOK (f72_p5_1_e0 x1 x2 x3 x4 x5 x18 x20 x24 x25 x26 x27) ⟨h39, ⟨x25, h40, rfl⟩, h41, h39, ⟨x25, h40, rfl⟩, h42, ⟨x26, h43, rfl⟩, h44, ⟨x27, h45, rfl⟩, h46, trivial⟩) (by intro hh; cases hh)
   ·rw [if_neg h46] at h
    have h46 := eF h46
    obtain ⟨h47, h⟩ := req_some h
    exact Lp.again (gRun_ok cxOK (f72_p5_1_e1 x1 x2 x3 x4 x5 x18 x20 x24 x25 x26 x27) ⟨h39, ⟨x25, h40, rfl⟩, h41, h39, ⟨x25, h40, rfl⟩, h42, ⟨x26, h43, rfl⟩, h44, ⟨x27, h45, rfl⟩, h46, h39, ⟨x25, h40, rfl⟩, h39, h47, trivial⟩) (f72_p5_1_ok F x1 x2 x3 x4 x20 x5 x18 k (List.set x24 (0 + (Int.toNat x20)) (w64 (x25 + 1))) r h)
  ·rw [if_neg h41] at h
   have h41 := eF h41
   obtain rfl := sI h
   exact Lp.out (gRun_ok cxOK (f72_p5_1_e2 x1 x2 x3 x4 x5 x18 x20 x24 x25) ⟨h39, ⟨x25, h40, rfl⟩, h41, trivial⟩) (by intro hh; cases hh)
theorem f72_p1_ok (F : Nat) (x1 x2 : Nat) (x3 x4 : Int) (x5 : LI) : ∀ (k : Nat) (x20 : Int) (x18 x19 : LI) (r : f72_p1_R), f72_p1 F x1 x2 x3 x4 x5 k x20 x18 x19 = some r → f72_p1_P x1 x2 x3 x4 x5 x20 x18 x19 r
 | 0, _, _, _, _, h => by cases h
 | k + 1, x20, x18, x19, r, h => by
  unfold f72_p1 at h
  by_cases h29 : (decide (x20 < x4)) = true
  ·rw [if_pos h29] at h
   obtain ⟨x28, h48, h⟩ := bind_some h
   have ch48 := f72_p5_1_ok F x1 x2 x3 x4 x20 x5 x18 F x19 _ h48
   try dsimp only at h
   obtain ⟨h49, h⟩ := req_some h
   obtain ⟨x29, h50, h⟩ := bind_some h
   try dsimp only at h
   by_cases h51 : (decide (x29 < x3)) = true
   ·rw [if_pos h51] at h
    obtain ⟨h52, h⟩ := req_some h
    obtain ⟨x30, h53, h⟩ := bind_some h
    try dsimp only at h
    obtain ⟨h54, h⟩ := req_some h
    obtain ⟨h55, h⟩ := req_some h
    exact Lp.again (gRun_ok cxOK (f72_p1_e0 x1 x2 x3 x4 x5 x18 x19 x20 x28 x29 x30) ⟨h29, ch48, h49, ⟨x29, h50, rfl⟩, h51, h49, ⟨x29, h50, rfl⟩, h52, ⟨x30, h53, rfl⟩, h54, h52, h55, trivial⟩) (f72_p1_ok F x1 x2 x3 x4 x5 k (w64 (x20 + 1)) (List.set x18 (x1 + (Int.toNat x29)) (iOr .u8 x30 (iShl .u8 1 x20))) x28 r h)
   ·rw [if_neg h51] at h
    have h51 := eF h51
    obtain ⟨h56, h⟩ := req_some h
    by_cases h57 : (x20 == 0) = true
    ·rw [if_pos h57] at h
     obtain rfl := sI h
     exact Lp.out (gRun_ok cxOK (f72_p1_e1 x1 x2 x3 x4 x5 x18 x19 x20 x28 x29) ⟨h29, ch48, h49, ⟨x29, h50, rfl⟩, h51, h49, h56, h57, trivial⟩) (by intro hh; cases hh)
    ·rw [if_neg h57] at h
     have h57 := eF h57
     obtain ⟨h58, h⟩ := req_some h
     obtain ⟨x31, h59, h⟩ := bind_some h
     try dsimp only at h
     obtain ⟨h60, h⟩ := req_some h
     obtain ⟨x32, h61, h⟩ := bind_some h
     try dsimp only at h
     obtain ⟨h62, h⟩ := req_some h
     obtain ⟨h63, h⟩ := req_some h
     obtain ⟨h64, h⟩ := req_some h
     exact Lp.again (gRun_ok cxOK (f72_p1_e2 x1 x2 x3 x4 x5 x18 x19 x20 x28 x29 x31 x32) ⟨h29, ch48, h49, ⟨x29, h50, rfl⟩, h51, h49, h56, h57, h58, ⟨x31, h59, rfl⟩, h60, ⟨x32, h61, rfl⟩, h62, h60, h63, h58, ⟨x31, h59, rfl⟩, h58, h64, trivial⟩) (f72_p1_ok F x1 x2 x3 x4 x5 k (w64 (x20 - 1)) (List.set x18 (x1 + (Int.toNat x31)) (iAndNot .u8 x32 (iShl .u8 1 (w64 (x20 - 1))))) (List.set (List.set x28 (0 + (Int.toNat x20)) 0) (0 + (Int.toNat (w64 (x20 - 1)))) (w64 (x31 + 1))) r h)
  ·rw [if_neg h29] at h
   have h29 := eF h29
   obtain rfl := sI h
   exact Lp.out (gRun_ok cxOK (f72_p1_e3 x1 x2 x3 x4 x5 x18 x19 x20) ⟨h29, trivial⟩) (by intro hh; cases hh)
theorem f72_ok (F : Nat) (x1 x2 : Nat) (x3 x4 : Int) (x5 x6 : LI) (r : (List Int) × Bool × (List Int)) (h : f72 F x1 x2 x3 x4 x5 x6 = some r) : f72_C x1 x2 x3 x4 x5 x6 r := by
 unfold f72 at h
 obtain ⟨h1, h⟩ := req_some h
 obtain ⟨rh65, h65, h⟩ := bind_some h
 have ch65 := f72_p1_ok F x1 x2 x3 x4 x5 F 0 x6 (List.replicate (Int.toNat x4) (0 : Int)) _ h65
 cases rh65 with
 | c0 x33 =>
  try dsimp only at h
  obtain rfl := sI h
  exact callOK cxOK cxW Tryd.func72 (by kernel_rfl) (f72_e0 x1 x2 x3 x4 x5 x6 x33) ⟨h1, ch65, trivial⟩
 | c1 x34 x35 =>
  try dsimp only at h
  obtain ⟨h66, h⟩ := req_some h
  obtain rfl := sI h
  exact callOK cxOK cxW Tryd.func72 (by kernel_rfl) (f72_e1 x1 x2 x3 x4 x5 x6 x34 x35) ⟨h1, ch65, h66, trivial⟩

theorem f31_p2_ok (F : Nat) : ∀ (k : Nat) (x4 : Int) (r : f31_p2_R), f31_p2 F k x4 = some r → f31_p2_P x4 r
 | 0, _, _, h => by cases h
 | k + 1, x4, r, h => by
  unfold f31_p2 at h
  dsimp only at h
  cases h
theorem f31_p2_1_ok (F : Nat) (x6 : Int) (x7 : LI) : ∀ (k : Nat) (x8 : Int) (r : f31_p2_1_R), f31_p2_1 F x6 x7 k x8 = some r → f31_p2_1_P x6 x7 x8 r
 | 0, _, _, h => by cases h
 | k + 1, x8, r, h => by
  unfold f31_p2_1 at h
  by_cases h5 : (decide (x8 < x6)) = true
  ·rw [if_pos h5] at h
   obtain ⟨h6, h⟩ := req_some h
   obtain ⟨rh7, h7, h⟩ := bind_some h
   have ch7 := f72_ok F 0 (Int.toNat x8) x8 x6 x7 (List.replicate (Int.toNat x8) (0 : Int)) _ h7
   obtain ⟨x9, x10, x11⟩ := rh7
   try dsimp only at h
   by_cases h8 : x10 = true
   ·rw [if_pos h8] at h
    obtain rfl := sI h
    exact Lp.out (gRun_ok cxOK (f31_p2_1_e0 x6 x7 x8 x9 x10 x11) ⟨h5, h6, ch7, h8, trivial⟩) (by intro hh; cases hh)
   ·rw [if_neg h8] at h
    have h8 := eF h8
    exact Lp.again (gRun_ok cxOK (f31_p2_1_e1 x6 x7 x8 x9 x10 x11) ⟨h5, h6, ch7, h8, trivial⟩) (f31_p2_1_ok F x6 x7 k (w64 (x8 + 1)) r h)
  ·rw [if_neg h5] at h
   have h5 := eF h5
   obtain rfl := sI h
   exact Lp.out (gRun_ok cxOK (f31_p2_1_e2 x6 x7 x8) ⟨h5, trivial⟩) (by intro hh; cases hh)
theorem f31_p7_ok (F : Nat) (x6 : Int) : ∀ (k : Nat) (x15 : Int) (x14 : LI) (r : (List Int)), f31_p7 F x6 k x15 x14 = some r → f31_p7_P x6 x15 x14 r
 | 0, _, _, _, h => by cases h
 | k + 1, x15, x14, r, h => by
  unfold f31_p7 at h
  by_cases h12 : (decide (x15 < x6)) = true
  ·rw [if_pos h12] at h
   obtain ⟨h13, h⟩ := req_some h
   exact Lp.again (gRun_ok cxOK (f31_p7_e0 x6 x14 x15) ⟨h12, h13, rfl, trivial⟩) (f31_p7_ok F x6 k (w64 (x15 + 1)) (x14 ++ ([x15] : List Int)) r h)
  ·rw [if_neg h12] at h
   have h12 := eF h12
   obtain rfl := sI h
   exact Lp.out (gRun_ok cxOK (f31_p7_e1 x6 x14 x15) ⟨h12, trivial⟩) (by intro hh; cases hh)
theorem f31_ok (F : Nat) (x1 : Int) (x2 : List (Int × (Int × Unit))) (r : (List Int) × Int) (h : f31 F x1 x2 = some r) : f31_C x1 x2 r := by
 unfold f31 at h
 obtain ⟨rh1, h1, h⟩ := bind_some h
 have ch1 := f70_ok F x1 x2 _ h1
 cases rh1 with
 | c0 x3 =>
  try dsimp only at h
  by_cases h2 : (x3 != 0) = true
  ·rw [if_pos h2] at h
   obtain rfl := sI h
   exact callOK cxOK cxW Tryd.func31 (by kernel_rfl) (f31_e0 x1 x2 x3) ⟨ch1, h2, trivial⟩
  ·rw [if_neg h2] at h
   have h2 := eF h2
   obtain ⟨rh3, h3, h⟩ := bind_some h
   have ch3 := f31_p2_ok F F 1 _ h3
   exact nomatch rh3
 | c1 x5 x6 x7 =>
  try dsimp only at h
  by_cases h4 : (x5 != 0) = true
  ·rw [if_pos h4] at h
   obtain rfl := sI h
   exact callOK cxOK cxW Tryd.func31 (by kernel_rfl) (f31_e1 x1 x2 x5 x6 x7) ⟨ch1, h4, trivial⟩
  ·rw [if_neg h4] at h
   have h4 := eF h4
   obtain ⟨rh9, h9, h⟩ := bind_some h
   have ch9 := f31_p2_1_ok F x6 x7 F 1 _ h9
   cases rh9 with
   | c0 x12 =>
    try dsimp only at h
    obtain rfl := sI h
    exact callOK cxOK cxW Tryd.func31 (by kernel_rfl) (f31_e2 x1 x2 x5 x6 x7 x12) ⟨ch1, h4, ch9, trivial⟩
   | c1 =>
    try dsimp only at h
    obtain ⟨x16, h14, h⟩ := bind_some h
    have ch14 := f31_p7_ok F x6 F 0 ([] : List Int) _ h14
    try dsimp only at h
    obtain rfl := sI h
    exact callOK cxOK cxW Tryd.func31 (by kernel_rfl) (f31_e3 x1 x2 x5 x6 x7 x16) ⟨ch1, h4, ch9, ch14, (Nat.le_of_eq (Nat.zero_add _)), trivial⟩

theorem f32_p0_ok (F : Nat) (x1 : LI) (r : Unit) (h : f32_p0 F x1 = some r) : f32_p0_P x1 r := by
 unfold f32_p0 at h
 by_cases h1 : (decide (((List.length x1 : Nat) : Int) < 1)) = true
 ·rw [if_pos h1] at h
  cases h
 ·rw [if_neg h1] at h
  have h1 := eF h1
  obtain rfl := sI h
  exact gRun_ok cxOK (f32_p0_e0 x1) ⟨h1, trivial⟩
theorem f32_p2_ok (F : Nat) (x1 : LI) : ∀ (k : Nat) (x3 x4 : Int) (r : Int), f32_p2 F x1 k x3 x4 = some r → f32_p2_P x1 x3 x4 r
 | 0, _, _, _, h => by cases h
 | k + 1, x3, x4, r, h => by
  unfold f32_p2 at h
  by_cases h4 : (decide (x4 < ((List.length x1 : Nat) : Int))) = true
  ·rw [if_pos h4] at h
   obtain ⟨x5, h5, h⟩ := bind_some h
   try dsimp only at h
   exact Lp.again (gRun_ok cxOK (f32_p2_e0 x1 x3 x4 x5) ⟨h4, ⟨(at?_spec h5).1, x5, (at?_spec h5).2, rfl⟩, trivial⟩) (f32_p2_ok F x1 k (if x5 > x3 then x5 else x3) (w64 (x4 + 1)) r h)
  ·rw [if_neg h4] at h
   have h4 := eF h4
   obtain rfl := sI h
   exact Lp.out (gRun_ok cxOK (f32_p2_e1 x1 x3 x4) ⟨h4, trivial⟩) (by intro hh; cases hh)
theorem f32_ok (F : Nat) (x1 : LI) (r : Int) (h : f32 F x1 = some r) : f32_C x1 r := by
 unfold f32 at h
 obtain ⟨rh2, h2, h⟩ := bind_some h
 have ch2 := f32_p0_ok F x1 _ h2
 try dsimp only at h
 obtain ⟨x2, h3, h⟩ := bind_some h
 try dsimp only at h
 obtain ⟨x6, h6, h⟩ := bind_some h
 have ch6 := f32_p2_ok F x1 F x2 1 _ h6
 try dsimp only at h
 obtain rfl := sI h
 exact callOK cxOK cxW Tryd.func32 (by kernel_rfl) (f32_e0 x1 x2 x6) ⟨ch2, ⟨(at?_spec h3).1, x2, (at?_spec h3).2, rfl⟩, ch6, trivial⟩

theorem f16_ok (F : Nat) (x1 : LI) (r : (List Int)) (h : f16 F x1 = some r) : f16_C x1 r := by
 unfold f16 at h
 obtain rfl := sI h
 exact callOK cxOK cxW Tryd.func16 (by kernel_rfl) (f16_e0 x1) trivial

theorem f63_p2_ok (F : Nat) (x1 x2 : LI) : ∀ (k : Nat) (x3 : Int) (r : f63_p2_R), f63_p2 F x1 x2 k x3 = some r → f63_p2_P x1 x2 x3 r
 | 0, _, _, h => by cases h
 | k + 1, x3, r, h => by
  unfold f63_p2 at h
  by_cases h2 : (decide (x3 < ((List.length x1 : Nat) : Int))) = true
  ·rw [if_pos h2] at h
   obtain ⟨x4, h3, h⟩ := bind_some h
   try dsimp only at h
   obtain ⟨x5, h4, h⟩ := bind_some h
   try dsimp only at h
   by_cases h5 : (x4 != x5) = true
   ·rw [if_pos h5] at h
    obtain rfl := sI h
    exact Lp.out (gRun_ok cxOK (f63_p2_e0 x1 x2 x3 x4 x5) ⟨h2, ⟨(at?_spec h3).1, x4, (at?_spec h3).2, rfl⟩, ⟨(at?_spec h4).1, x5, (at?_spec h4).2, rfl⟩, h5, trivial⟩) (by intro hh; cases hh)
   ·rw [if_neg h5] at h
    have h5 := eF h5
    exact Lp.again (gRun_ok cxOK (f63_p2_e1 x1 x2 x3 x4 x5) ⟨h2, ⟨(at?_spec h3).1, x4, (at?_spec h3).2, rfl⟩, ⟨(at?_spec h4).1, x5, (at?_spec h4).2, rfl⟩, h5, trivial⟩) (f63_p2_ok F x1 x2 k (w64 (x3 + 1)) r h)
  ·rw [if_neg h2] at h
   have h2 := eF h2
   obtain rfl := sI h
   exact Lp.out (gRun_ok cxOK (f63_p2_e2 x1 x2 x3) ⟨h2, trivial⟩) (by intro hh; cases hh)
theorem f63_ok (F : Nat) (x1 x2 : LI) (r : Bool) (h : f63 F x1 x2 = some r) : f63_C x1 x2 r := by
 unfold f63 at h
 by_cases h1 : (((List.length x1 : Nat) : Int) != ((List.length x2 : Nat) : Int)) = true
 ·rw [if_pos h1] at h
  obtain rfl := sI h
  exact callOK cxOK cxW Tryd.func63 (by kernel_rfl) (f63_e0 x1 x2) ⟨h1, trivial⟩
 ·rw [if_neg h1] at h
  have h1 := eF h1
  obtain ⟨rh6, h6, h⟩ := bind_some h
  have ch6 := f63_p2_ok F x1 x2 F 0 _ h6
  cases rh6 with
  | c0 =>
   try dsimp only at h
   obtain rfl := sI h
   exact callOK cxOK cxW Tryd.func63 (by kernel_rfl) (f63_e1 x1 x2) ⟨h1, ch6, trivial⟩
  | c1 =>
   try dsimp only at h
   obtain rfl := sI h
   exact callOK cxOK cxW Tryd.func63 (by kernel_rfl) (f63_e2 x1 x2) ⟨h1, ch6, trivial⟩

theorem f97_ok (F : Nat) (x1 : Int) (r : Bool) (h : f97 F x1 = some r) : f97_C x1 r := by
 unfold f97 at h
 by_cases h1 : (decide (x1 ≥ 1)) = true
 ·rw [if_pos h1] at h
  obtain rfl := sI h
  exact callOK cxOK cxW Tryd.func97 (by kernel_rfl) (f97_e0 x1) ⟨h1, h1, h1, trivial⟩
 ·rw [if_neg h1] at h
  have h1 := eF h1
  obtain rfl := sI h
  exact callOK cxOK cxW Tryd.func97 (by kernel_rfl) (f97_e1 x1) ⟨h1, h1, h1, trivial⟩

theorem f129_ok (F : Nat) (x1 : Int) (r : Int) (h : f129 F x1 = some r) : f129_C x1 r := by
 unfold f129 at h
 obtain ⟨h1, h⟩ := req_some h
 obtain ⟨h2, h⟩ := req_some h
 obtain rfl := sI h
 exact callOK cxOK cxW Tryd.func129 (by kernel_rfl) (f129_e0 x1) ⟨(by decide), h1, h2, trivial⟩

theorem f130_ok (F : Nat) (x1 : LI) (r : (List Int)) (h : f130 F x1 = some r) : f130_C x1 r := by
 unfold f130 at h
 obtain ⟨h1, h⟩ := req_some h
 obtain rfl := sI h
 exact callOK cxOK cxW Tryd.func130 (by kernel_rfl) (f130_e0 x1) ⟨h1, trivial⟩

theorem f99_p2_ok (F : Nat) (x4 : LI) (x5 x6 x1 : Int) (x2 : LI) (x3 : Int) (r : Int) (h : f99_p2 F x4 x5 x6 x1 x2 x3 = some r) : f99_p2_P x4 x5 x6 x1 x2 x3 r := by
 unfold f99_p2 at h
 by_cases h4 : (decide (((List.length x4 : Nat) : Int) > 0)) = true
 ·rw [if_pos h4] at h
  obtain ⟨x8, h5, h⟩ := bind_some h
  try dsimp only at h
  obtain rfl := sI h
  exact gRun_ok cxOK (f99_p2_e0 x1 x2 x3 x4 x5 x6 x8) ⟨h4, ⟨(at?_spec h5).1, x8, (at?_spec h5).2, rfl⟩, trivial⟩
 ·rw [if_neg h4] at h
  have h4 := eF h4
  obtain rfl := sI h
  exact gRun_ok cxOK (f99_p2_e1 x1 x2 x3 x4 x5 x6) ⟨h4, trivial⟩
theorem f99_p4_ok (F : Nat) (rec : Int → (List Int) → Int → (List Int) → Int → Int → Option ((List Int) × Bool)) (hrec : ∀ (x1 : Int) (x2 : LI) (x3 : Int) (x4 : LI) (x5 x6 : Int) (r : (List Int) × Bool), rec x1 x2 x3 x4 x5 x6 = some r → f99_C x1 x2 x3 x4 x5 x6 r) (x4 : LI) (x5 x6 x1 : Int) (x2 : LI) (x3 : Int) : ∀ (k : Nat) (x10 : Int) (r : f99_p4_R), f99_p4 F rec x4 x5 x6 x1 x2 x3 k x10 = some r → f99_p4_P x4 x5 x6 x1 x2 x3 x10 r
 | 0, _, _, h => by cases h
 | k + 1, x10, r, h => by
  unfold f99_p4 at h
  by_cases h7 : (decide (x10 < ((List.length x2 : Nat) : Int))) = true
  ·rw [if_pos h7] at h
   obtain ⟨x11, h8, h⟩ := bind_some h
   have ch8 := f130_ok F x4 _ h8
   try dsimp only at h
   obtain ⟨h9, h⟩ := req_some h
   obtain ⟨x12, h10, h⟩ := bind_some h
   try dsimp only at h
   obtain ⟨rh11, h11, h⟩ := bind_some h
   have ch11 := hrec x1 x2 x3 (x11 ++ ([x10] : List Int)) (iOr .u16 x5 x12) (w64 (x6 - 1)) _ h11
   obtain ⟨x13, x14⟩ := rh11
   try dsimp only at h
   by_cases h12 : x14 = true
   ·rw [if_pos h12] at h
    obtain rfl := sI h
    exact Lp.out (gRun_ok cxOK (f99_p4_e0 x1 x2 x3 x4 x5 x6 x10 x11 x12 x13 x14) ⟨h7, ch8, h9, (.inr (by simp)), rfl, ⟨(at?_spec h10).1, x12, (at?_spec h10).2, rfl⟩, ch11, h12, trivial⟩) (by intro hh; cases hh)
   ·rw [if_neg h12] at h
    have h12 := eF h12
    exact Lp.again (gRun_ok cxOK (f99_p4_e1 x1 x2 x3 x4 x5 x6 x10 x11 x12 x13 x14) ⟨h7, ch8, h9, (.inr (by simp)), rfl, ⟨(at?_spec h10).1, x12, (at?_spec h10).2, rfl⟩, ch11, h12, trivial⟩) (f99_p4_ok F rec hrec x4 x5 x6 x1 x2 x3 k (w64 (x10 + 1)) r h)
  ·rw [if_neg h7] at h
   have h7 := eF h7
   obtain rfl := sI h
   exact Lp.out (gRun_ok cxOK (f99_p4_e2 x1 x2 x3 x4 x5 x6 x10) ⟨h7, trivial⟩) (by intro hh; cases hh)
theorem f99_b_ok (F : Nat) (rec : Int → (List Int) → Int → (List Int) → Int → Int → Option ((List Int) × Bool)) (hrec : ∀ (x1 : Int) (x2 : LI) (x3 : Int) (x4 : LI) (x5 x6 : Int) (r : (List Int) × Bool), rec x1 x2 x3 x4 x5 x6 = some r → f99_C x1 x2 x3 x4 x5 x6 r) (x1 : Int) (x2 : LI) (x3 : Int) (x4 : LI) (x5 x6 : Int) (r : (List Int) × Bool) (h : f99_b F rec x1 x2 x3 x4 x5 x6 = some r) : f99_C x1 x2 x3 x4 x5 x6 r := by
 unfold f99_b at h
 by_cases h1 : (x6 == 0) = true
 ·rw [if_pos h1] at h
  obtain rfl := sI h
  exact callOK cxOK cxW Tryd.func99 (by kernel_rfl) (f99_e0 x1 x2 x3 x4 x5 x6) ⟨h1, trivial⟩
 ·rw [if_neg h1] at h
  have h1 := eF h1
  obtain ⟨x7, h2, h⟩ := bind_some h
  have ch2 := f129_ok F (iAndNot .u16 x3 x5) _ h2
  try dsimp only at h
  by_cases h3 : (decide (x7 > (w64 (x6 * (w64 (x1 + 1)))))) = true
  ·rw [if_pos h3] at h
   obtain rfl := sI h
   exact callOK cxOK cxW Tryd.func99 (by kernel_rfl) (f99_e1 x1 x2 x3 x4 x5 x6 x7) ⟨h1, ch2, h3, trivial⟩
  ·rw [if_neg h3] at h
   have h3 := eF h3
   obtain ⟨x9, h6, h⟩ := bind_some h
   have ch6 := f99_p2_ok F x4 x5 x6 x1 x2 x3 _ h6
   try dsimp only at h
   obtain ⟨rh13, h13, h⟩ := bind_some h
   have ch13 := f99_p4_ok F rec hrec x4 x5 x6 x1 x2 x3 F x9 _ h13
   cases rh13 with
   | c0 x15 =>
    try dsimp only at h
    obtain rfl := sI h
    exact callOK cxOK cxW Tryd.func99 (by kernel_rfl) (f99_e2 x1 x2 x3 x4 x5 x6 x7 x9 x15) ⟨h1, ch2, h3, ch6, ch13, trivial⟩
   | c1 =>
    try dsimp only at h
    obtain rfl := sI h
    exact callOK cxOK cxW Tryd.func99 (by kernel_rfl) (f99_e3 x1 x2 x3 x4 x5 x6 x7 x9) ⟨h1, ch2, h3, ch6, ch13, trivial⟩
theorem f99_ok (F : Nat) : ∀ (k : Nat) (x1 : Int) (x2 : LI) (x3 : Int) (x4 : LI) (x5 x6 : Int) (r : (List Int) × Bool), f99 F k x1 x2 x3 x4 x5 x6 = some r → f99_C x1 x2 x3 x4 x5 x6 r
 | 0, _, _, _, _, _, _, _, h => by cases h
 | k + 1, x1, x2, x3, x4, x5, x6, r, h => f99_b_ok F (f99 F k) (f99_ok F k) x1 x2 x3 x4 x5 x6 r h

theorem f62_p8_2_ok (F : Nat) (x1 x14 x15 : Int) (x13 : LI) (x16 : Int) : ∀ (k : Nat) (x17 x18 : Int) (r : Int), f62_p8_2 F x1 x14 x15 x13 x16 k x17 x18 = some r → f62_p8_2_P x1 x14 x15 x13 x16 x17 x18 r
 | 0, _, _, _, h => by cases h
 | k + 1, x17, x18, r, h => by
  unfold f62_p8_2 at h
  by_cases h22 : (decide (x18 < x1)) = true
  ·rw [if_pos h22] at h
   obtain ⟨h23, h⟩ := req_some h
   obtain ⟨h24, h⟩ := req_some h
   exact Lp.again (gRun_ok cxOK (f62_p8_2_e0 x1 x13 x14 x15 x16 x17 x18) ⟨h22, h23, h24, trivial⟩) (f62_p8_2_ok F x1 x14 x15 x13 x16 k (iOr .u16 x17 (iShl .u16 1 (iXor .i64 x14 (iShl .i64 1 x18)))) (w64 (x18 + 1)) r h)
  ·rw [if_neg h22] at h
   have h22 := eF h22
   obtain rfl := sI h
   exact Lp.out (gRun_ok cxOK (f62_p8_2_e1 x1 x13 x14 x15 x16 x17 x18) ⟨h22, trivial⟩) (by intro hh; cases hh)
theorem f62_p4_ok (F : Nat) (x1 : Int) : ∀ (k : Nat) (x14 x15 x16 : Int) (x13 : LI) (r : Int × Int × (List Int)), f62_p4 F x1 k x14 x15 x16 x13 = some r → f62_p4_P x1 x14 x15 x16 x13 r
 | 0, _, _, _, _, _, h => by cases h
 | k + 1, x14, x15, x16, x13, r, h => by
  unfold f62_p4 at h
  by_cases h20 : (decide (x14 < (iShl .i64 1 x1))) = true
  ·rw [if_pos h20] at h
   obtain ⟨h21, h⟩ := req_some h
   obtain ⟨x19, h25, h⟩ := bind_some h
   have ch25 := f62_p8_2_ok F x1 x14 x15 x13 x16 F (iShl .u16 1 x14) 0 _ h25
   try dsimp only at h
   obtain ⟨h26, h⟩ := req_some h
   exact Lp.again (gRun_ok cxOK (f62_p4_e0 x1 x13 x14 x15 x16 x19) ⟨h20, h21, ch25, h26, rfl, trivial⟩) (f62_p4_ok F x1 k (w64 (x14 + 1)) x15 x16 (x13 ++ ([x19] : List Int)) r h)
  ·rw [if_neg h20] at h
   have h20 := eF h20
   obtain rfl := sI h
   exact Lp.out (gRun_ok cxOK (f62_p4_e1 x1 x13 x14 x15 x16) ⟨h20, trivial⟩) (by intro hh; cases hh)
theorem f62_p12_ok (F : Nat) (x20 : Int) (x22 : LI) (x21 : Int) : ∀ (k : Nat) (x26 : Int) (r : f62_p12_R), f62_p12 F x20 x22 x21 k x26 = some r → f62_p12_P x20 x22 x21 x26 r
 | 0, _, _, h => by cases h
 | k + 1, x26, r, h => by
  unfold f62_p12 at h
  by_cases h31 : (decide (x26 ≤ ((List.length (List.drop 0 (List.take (0 + (List.length x22)) x22)) : Nat) : Int))) = true
  ·rw [if_pos h31] at h
   obtain ⟨rh32, h32, h⟩ := bind_some h
   have ch32 := f99_ok F F x20 (List.drop 0 (List.take (0 + (List.length x22)) x22)) x21 ([] : List Int) 0 x26 _ h32
   obtain ⟨x27, x28⟩ := rh32
   try dsimp only at h
   by_cases h33 : x28 = true
   ·rw [if_pos h33] at h
    obtain rfl := sI h
    exact Lp.out (gRun_ok cxOK (f62_p12_e0 x20 x21 x22 x26 x27 x28) ⟨h31, ch32, h33, trivial⟩) (by intro hh; cases hh)
   ·rw [if_neg h33] at h
    have h33 := eF h33
    exact Lp.again (gRun_ok cxOK (f62_p12_e1 x20 x21 x22 x26 x27 x28) ⟨h31, ch32, h33, trivial⟩) (f62_p12_ok F x20 x22 x21 k (w64 (x26 + 1)) r h)
  ·rw [if_neg h31] at h
   have h31 := eF h31
   obtain rfl := sI h
   exact Lp.out (gRun_ok cxOK (f62_p12_e2 x20 x21 x22 x26) ⟨h31, trivial⟩) (by intro hh; cases hh)
theorem f62_ok (F : Nat) (x1 : Int) (r : (List Int) × Int) (h : f62 F x1 = some r) : f62_C x1 r := by
 unfold f62 at h
 obtain ⟨x2, h1, h⟩ := bind_some h
 have ch1 := f97_ok F x1 _ h1
 try dsimp only at h
 by_cases h2 : x2 = true
 ·rw [if_pos h2] at h
  by_cases h3 : (decide (x1 > 4)) = true
  ·rw [if_pos h3] at h
   obtain rfl := sI h
   exact callOK cxOK cxW Tryd.func62 (by kernel_rfl) (f62_e0 x1 x2) ⟨ch1, (by rw [h2]; rfl), h3, trivial⟩
  ·rw [if_neg h3] at h
   have h3 := eF h3
   obtain ⟨h4, h⟩ := req_some h
   obtain ⟨h5, h⟩ := req_some h
   obtain ⟨rh27, h27, h⟩ := bind_some h
   have ch27 := f62_p4_ok F x1 F 0 x1 (IntKind.wrap .u16 ((iShl .u16 1 (iShl .u64 1 x1)) - 1)) ([] : List Int) _ h27
   obtain ⟨x20, x21, x22⟩ := rh27
   try dsimp only at h
   obtain ⟨rh34, h34, h⟩ := bind_some h
   have ch34 := f62_p12_ok F x20 x22 x21 F 1 _ h34
   cases rh34 with
   | c0 x29 =>
    try dsimp only at h
    obtain rfl := sI h
    exact callOK cxOK cxW Tryd.func62 (by kernel_rfl) (f62_e1 x1 x2 x20 x21 x22 x29) ⟨ch1, (by rw [h2]; rfl), h3, h4, h5, h4, ch27, (Nat.le_of_eq (Nat.zero_add _)), ch34, trivial⟩
   | c1 =>
    try dsimp only at h
    obtain rfl := sI h
    exact callOK cxOK cxW Tryd.func62 (by kernel_rfl) (f62_e2 x1 x2 x20 x21 x22) ⟨ch1, (by rw [h2]; rfl), h3, h4, h5, h4, ch27, (Nat.le_of_eq (Nat.zero_add _)), ch34, trivial⟩
 ·rw [if_neg h2] at h
  have h2 := eF h2
  obtain rfl := sI h
  exact callOK cxOK cxW Tryd.func62 (by kernel_rfl) (f62_e3 x1 x2) ⟨ch1, (by rw [h2]; rfl), trivial⟩

theorem f131_ok (F : Nat) (x1 : Int) (x2 : LI) (r : Int × Int) (h : f131 F x1 x2 = some r) : f131_C x1 x2 r := by
 unfold f131 at h
 obtain ⟨x3, h1, h⟩ := bind_some h
 have ch1 := f65_ok F x1 _ h1
 try dsimp only at h
 by_cases h2 : x3 = true
 ·rw [if_pos h2] at h
  obtain ⟨rh3, h3, h⟩ := bind_some h
  have ch3 := f102_ok F x1 x2 _ h3
  obtain ⟨x4, x5⟩ := rh3
  try dsimp only at h
  obtain rfl := sI h
  exact callOK cxOK cxW Tryd.func131 (by kernel_rfl) (f131_e0 x1 x2 x3 x4 x5) ⟨ch1, (by rw [h2]; rfl), ch3, trivial⟩
 ·rw [if_neg h2] at h
  have h2 := eF h2
  obtain rfl := sI h
  exact callOK cxOK cxW Tryd.func131 (by kernel_rfl) (f131_e1 x1 x2 x3) ⟨ch1, (by rw [h2]; rfl), trivial⟩

theorem f128_ok (F : Nat) (x1 : Int) (r : Int) (h : f128 F x1 = some r) : f128_C x1 r := by
 unfold f128 at h
 by_cases h1 : (x1 == 0) = true
 ·rw [if_pos h1] at h
  obtain rfl := sI h
  exact callOK cxOK cxW Tryd.func128 (by kernel_rfl) (f128_e0 x1) ⟨h1, trivial⟩
 ·rw [if_neg h1] at h
  have h1 := eF h1
  obtain ⟨x2, h2, h⟩ := bind_some h
  try dsimp only at h
  obtain rfl := sI h
  exact callOK cxOK cxW Tryd.func128 (by kernel_rfl) (f128_e1 x1 x2) ⟨h1, (by decide), ⟨(at?_spec h2).1, at?_lt h2, x2, (at?_spec h2).2, rfl⟩, trivial⟩

theorem f98_ok (F : Nat) (x1 : Int) (r : Int) (h : f98 F x1 = some r) : f98_C x1 r := by
 unfold f98 at h
 obtain ⟨x2, h1, h⟩ := bind_some h
 have ch1 := f128_ok F x1 _ h1
 try dsimp only at h
 obtain rfl := sI h
 exact callOK cxOK cxW Tryd.func98 (by kernel_rfl) (f98_e0 x1 x2) ⟨rfl, ch1, trivial⟩

theorem f142_p1_ok (F : Nat) : ∀ (k : Nat) (x5 : Int) (x4 : LI) (r : (List Int)), f142_p1 F k x5 x4 = some r → f142_p1_P x5 x4 r
 | 0, _, _, _, h => by cases h
 | k + 1, x5, x4, r, h => by
  unfold f142_p1 at h
  by_cases h4 : (x5 != 0) = true
  ·rw [if_pos h4] at h
   obtain ⟨x6, h5, h⟩ := bind_some h
   have ch5 := f98_ok F x5 _ h5
   try dsimp only at h
   obtain ⟨h6, h⟩ := req_some h
   exact Lp.again (gRun_ok cxOK (f142_p1_e0 x4 x5 x6) ⟨h4, ch5, h6, rfl, trivial⟩) (f142_p1_ok F k (iAnd .u64 x5 (IntKind.wrap .u64 (x5 - 1))) (x4 ++ ([x6] : List Int)) r h)
  ·rw [if_neg h4] at h
   have h4 := eF h4
   obtain rfl := sI h
   exact Lp.out (gRun_ok cxOK (f142_p1_e1 x4 x5) ⟨h4, trivial⟩) (by intro hh; cases hh)
theorem f142_ok (F : Nat) (x1 : Int) (r : (List Int)) (h : f142 F x1 = some r) : f142_C x1 r := by
 unfold f142 at h
 obtain ⟨x7, h7, h⟩ := bind_some h
 have ch7 := f142_p1_ok F F x1 ([] : List Int) _ h7
 try dsimp only at h
 obtain rfl := sI h
 exact callOK cxOK cxW Tryd.func142 (by kernel_rfl) (f142_e0 x1 x7) ⟨ch7, trivial⟩

theorem f143_1_ok (F : Nat) (x1 x2 : Nat) (x3 x4 : Int) (x5 : LI) (r : Nat × Nat × (List Int)) (h : f143_1 F x1 x2 x3 x4 x5 = some r) : f143_1_C x1 x2 x3 x4 x5 r := by
 unfold f143_1 at h
 obtain ⟨h1, h⟩ := req_some h
 by_cases h2 : (x3 == x4) = true
 ·rw [if_pos h2] at h
  obtain rfl := sI h
  exact callOK cxOK cxW Tryd.func143 (by kernel_rfl) (f143_1_e0 x1 x2 x3 x4 x5) ⟨h1, h2, trivial⟩
 ·rw [if_neg h2] at h
  have h2 := eF h2
  obtain ⟨h3, h⟩ := req_some h
  obtain ⟨h4, h⟩ := req_some h
  obtain ⟨h5, h⟩ := req_some h
  obtain ⟨h6, h⟩ := req_some h
  obtain ⟨h7, h⟩ := req_some h
  obtain ⟨h8, h⟩ := req_some h
  obtain rfl := sI h
  exact callOK cxOK cxW Tryd.func143 (by kernel_rfl) (f143_1_e1 x1 x2 x3 x4 x5) ⟨h1, h2, h3, h4, h5, h6, h7, h8, trivial⟩

theorem f132_p4_1_ok (F : Nat) (x2 : Int) (x16 x17 : Nat) (x18 x20 : Int) (x15 : LI) (r : Nat × Nat × Int × (List Int)) (h : f132_p4_1 F x2 x16 x17 x18 x20 x15 = some r) : f132_p4_1_P x2 x16 x17 x18 x20 x15 r := by
 unfold f132_p4_1 at h
 by_cases h22 : ((iAnd .u64 (iShr .u64 x2 x20) 1) == 0) = true
 ·rw [if_pos h22] at h
  obtain ⟨rh23, h23, h⟩ := bind_some h
  have ch23 := f143_1_ok F x16 x17 (w64 (x18 - 1)) (w64 (x18 + 1)) x15 _ h23
  obtain ⟨x21, x22, x23⟩ := rh23
  try dsimp only at h
  obtain rfl := sI h
  exact gRun_ok cxOK (f132_p4_1_e0 x2 x15 x16 x17 x18 x20 x21 x22 x23) ⟨h22, ch23, trivial⟩
 ·rw [if_neg h22] at h
  have h22 := eF h22
  obtain rfl := sI h
  exact gRun_ok cxOK (f132_p4_1_e1 x2 x15 x16 x17 x18 x20) ⟨h22, trivial⟩
theorem f132_p1_ok (F : Nat) (x2 : Int) : ∀ (k : Nat) (x16 x17 : Nat) (x18 : Int) (x15 : LI) (r : Nat × Nat × (List Int)), f132_p1 F x2 k x16 x17 x18 x15 = some r → f132_p1_P x2 x16 x17 x18 x15 r
 | 0, _, _, _, _, _, h => by cases h
 | k + 1, x16, x17, x18, x15, r, h => by
  unfold f132_p1 at h
  by_cases h14 : (decide (x18 < ((x17 : Nat) : Int))) = true
  ·rw [if_pos h14] at h
   obtain ⟨h15, h⟩ := req_some h
   obtain ⟨x19, h16, h⟩ := bind_some h
   try dsimp only at h
   obtain ⟨h17, h⟩ := req_some h
   by_cases h18 : ((iAnd .u64 (iShr .u64 x2 x19) 1) == 1) = true
   ·rw [if_pos h18] at h
    obtain ⟨h19, h⟩ := req_some h
    obtain ⟨x20, h20, h⟩ := bind_some h
    try dsimp only at h
    obtain ⟨h21, h⟩ := req_some h
    obtain ⟨rh24, h24, h⟩ := bind_some h
    have ch24 := f132_p4_1_ok F x2 x16 x17 x18 x20 x15 _ h24
    obtain ⟨x24, x25, x26, x27⟩ := rh24
    try dsimp only at h
    exact Lp.again (gRun_ok cxOK (f132_p1_e0 x2 x15 x16 x17 x18 x19 x20 x24 x25 x26 x27) ⟨h14, h15, ⟨x19, h16, rfl⟩, h17, h18, h18, h18, h18, h18, h19, h18, ⟨x20, h20, rfl⟩, h18, h21, h18, h18, h18, ch24, trivial⟩) (f132_p1_ok F x2 k x24 x25 x26 x27 r h)
   ·rw [if_neg h18] at h
    have h18 := eF h18
    exact Lp.again (gRun_ok cxOK (f132_p1_e1 x2 x15 x16 x17 x18 x19) ⟨h14, h15, ⟨x19, h16, rfl⟩, h17, h18, h18, h18, h18, h18, h18, h18, h18, h18, h18, rfl, trivial⟩) (f132_p1_ok F x2 k x16 x17 (w64 (x18 + 1)) x15 r h)
  ·rw [if_neg h14] at h
   have h14 := eF h14
   obtain rfl := sI h
   exact Lp.out (gRun_ok cxOK (f132_p1_e2 x2 x15 x16 x17 x18) ⟨h14, trivial⟩) (by intro hh; cases hh)
theorem f132_ok (F : Nat) (x1 x2 : Int) (r : (List Int)) (h : f132 F x1 x2 = some r) : f132_C x1 x2 r := by
 unfold f132 at h
 obtain ⟨h1, h⟩ := req_some h
 obtain ⟨x3, h2, h⟩ := bind_some h
 have ch2 := f142_ok F (IntKind.wrap .u64 ((iShl .u64 1 x1) - 1)) _ h2
 try dsimp only at h
 obtain ⟨rh25, h25, h⟩ := bind_some h
 have ch25 := f132_p1_ok F x2 F 0 (List.length x3) 1 x3 _ h25
 obtain ⟨x28, x29, x30⟩ := rh25
 try dsimp only at h
 obtain ⟨h26, h⟩ := req_some h
 obtain rfl := sI h
 exact callOK cxOK cxW Tryd.func132 (by kernel_rfl) (f132_e0 x1 x2 x3 x28 x29 x30) ⟨h1, ch2, ch25, h26, trivial⟩

theorem f100_ok (F : Nat) (x1 : Int) (x2 : LI) (r : (List Int) × Int) (h : f100 F x1 x2 = some r) : f100_C x1 x2 r := by
 unfold f100 at h
 obtain ⟨rh1, h1, h⟩ := bind_some h
 have ch1 := f131_ok F x1 x2 _ h1
 obtain ⟨x3, x4⟩ := rh1
 try dsimp only at h
 by_cases h2 : (x4 != 0) = true
 ·rw [if_pos h2] at h
  obtain rfl := sI h
  exact callOK cxOK cxW Tryd.func100 (by kernel_rfl) (f100_e0 x1 x2 x3 x4) ⟨ch1, h2, trivial⟩
 ·rw [if_neg h2] at h
  have h2 := eF h2
  obtain ⟨x5, h3, h⟩ := bind_some h
  have ch3 := f132_ok F x1 x3 _ h3
  try dsimp only at h
  obtain rfl := sI h
  exact callOK cxOK cxW Tryd.func100 (by kernel_rfl) (f100_e1 x1 x2 x3 x4 x5) ⟨ch1, h2, ch3, trivial⟩

theorem f91_ok (F : Nat) (x1 x2 x3 : Int) (r : Bool) (h : f91 F x1 x2 x3 = some r) : f91_C x1 x2 x3 r := by
 unfold f91 at h
 by_cases h1 : (decide (x1 ≤ x2)) = true
 ·rw [if_pos h1] at h
  obtain rfl := sI h
  exact callOK cxOK cxW Tryd.func91 (by kernel_rfl) (f91_e0 x1 x2 x3) ⟨h1, h1, h1, h1, trivial⟩
 ·rw [if_neg h1] at h
  have h1 := eF h1
  obtain rfl := sI h
  exact callOK cxOK cxW Tryd.func91 (by kernel_rfl) (f91_e1 x1 x2 x3) ⟨h1, h1, h1, h1, trivial⟩

theorem f126_p2_ok (F : Nat) (x1 x2 : Int) : ∀ (k : Nat) (x3 x4 : Int) (r : Int), f126_p2 F x1 x2 k x3 x4 = some r → f126_p2_P x1 x2 x3 x4 r
 | 0, _, _, _, h => by cases h
 | k + 1, x3, x4, r, h => by
  unfold f126_p2 at h
  by_cases h2 : (decide (x4 < x2)) = true
  ·rw [if_pos h2] at h
   obtain ⟨h3, h⟩ := req_some h
   exact Lp.again (gRun_ok cxOK (f126_p2_e0 x1 x2 x3 x4) ⟨h2, h3, trivial⟩) (f126_p2_ok F x1 x2 k (w64 (Int.tdiv (w64 (x3 * (w64 (x1 - x4)))) (w64 (x4 + 1)))) (w64 (x4 + 1)) r h)
  ·rw [if_neg h2] at h
   have h2 := eF h2
   obtain rfl := sI h
   exact Lp.out (gRun_ok cxOK (f126_p2_e1 x1 x2 x3 x4) ⟨h2, trivial⟩) (by intro hh; cases hh)
theorem f126_ok (F : Nat) (x1 x2 : Int) (r : Int) (h : f126 F x1 x2 = some r) : f126_C x1 x2 r := by
 unfold f126 at h
 by_cases h1 : (decide (x2 < 0)) = true
 ·rw [if_pos h1] at h
  obtain rfl := sI h
  exact callOK cxOK cxW Tryd.func126 (by kernel_rfl) (f126_e0 x1 x2) ⟨h1, trivial⟩
 ·rw [if_neg h1] at h
  have h1 := eF h1
  obtain ⟨x5, h4, h⟩ := bind_some h
  have ch4 := f126_p2_ok F x1 x2 F 1 0 _ h4
  try dsimp only at h
  obtain rfl := sI h
  exact callOK cxOK cxW Tryd.func126 (by kernel_rfl) (f126_e1 x1 x2 x5) ⟨h1, ch4, trivial⟩

theorem f96_ok (F : Nat) (x1 x2 x3 : Int) (r : Int) (h : f96 F x1 x2 x3 = some r) : f96_C x1 x2 x3 r := by
 unfold f96 at h
 by_cases h1 : (decide (x1 < 0)) = true
 ·rw [if_pos h1] at h
  obtain rfl := sI h
  exact callOK cxOK cxW Tryd.func96 (by kernel_rfl) (f96_e0 x1 x2 x3) ⟨h1, h1, h1, rfl, rfl, rfl, rfl, rfl, rfl, rfl, trivial⟩
 ·rw [if_neg h1] at h
  have h1 := eF h1
  by_cases h2 : (decide (x2 < 0)) = true
  ·rw [if_pos h2] at h
   obtain rfl := sI h
   exact callOK cxOK cxW Tryd.func96 (by kernel_rfl) (f96_e1 x1 x2 x3) ⟨h1, h1, h1, h2, h2, h2, h2, h2, h2, rfl, trivial⟩
  ·rw [if_neg h2] at h
   have h2 := eF h2
   by_cases h3 : (decide (x2 > (w64 (x1 + x3)))) = true
   ·rw [if_pos h3] at h
    obtain rfl := sI h
    exact callOK cxOK cxW Tryd.func96 (by kernel_rfl) (f96_e2 x1 x2 x3) ⟨h1, h1, h1, h2, h2, h2, h2, h2, h2, h3, trivial⟩
   ·rw [if_neg h3] at h
    have h3 := eF h3
    obtain ⟨x4, h4, h⟩ := bind_some h
    have ch4 := f126_ok F (w64 (x1 + x2)) x2 _ h4
    try dsimp only at h
    obtain ⟨x5, h5, h⟩ := bind_some h
    have ch5 := f126_ok F (w64 (x1 + x2)) (w64 ((w64 (x2 - x3)) - 1)) _ h5
    try dsimp only at h
    obtain rfl := sI h
    exact callOK cxOK cxW Tryd.func96 (by kernel_rfl) (f96_e3 x1 x2 x3 x4 x5) ⟨h1, h1, h1, h2, h2, h2, h2, h2, h2, h3, ch4, ch5, trivial⟩

theorem f58_ok (F : Nat) (x1 x2 x3 : Int) (r : Int × Int) (h : f58 F x1 x2 x3 = some r) : f58_C x1 x2 x3 r := by
 unfold f58 at h
 by_cases h1 : (decide ((if x2 < x1 then x2 else x1) < 0)) = true
 ·rw [if_pos h1] at h
  obtain rfl := sI h
  exact callOK cxOK cxW Tryd.func58 (by kernel_rfl) (f58_e0 x1 x2 x3) ⟨h1, h1, h1, h1, h1, rfl, rfl, rfl, rfl, rfl, rfl, trivial⟩
 ·rw [if_neg h1] at h
  have h1 := eF h1
  by_cases h2 : (decide ((if x2 > x1 then x2 else x1) > 16)) = true
  ·rw [if_pos h2] at h
   obtain rfl := sI h
   exact callOK cxOK cxW Tryd.func58 (by kernel_rfl) (f58_e1 x1 x2 x3) ⟨h1, h1, h1, h1, h1, h2, h2, h2, h2, h2, rfl, trivial⟩
  ·rw [if_neg h2] at h
   have h2 := eF h2
   by_cases h3 : (decide ((w64 (x1 + x2)) > 16)) = true
   ·rw [if_pos h3] at h
    obtain rfl := sI h
    exact callOK cxOK cxW Tryd.func58 (by kernel_rfl) (f58_e2 x1 x2 x3) ⟨h1, h1, h1, h1, h1, h2, h2, h2, h2, h2, h3, trivial⟩
   ·rw [if_neg h3] at h
    have h3 := eF h3
    obtain ⟨x4, h4, h⟩ := bind_some h
    have ch4 := f91_ok F 0 x3 20 _ h4
    try dsimp only at h
    by_cases h5 : x4 = true
    ·rw [if_pos h5] at h
     obtain ⟨x5, h6, h⟩ := bind_some h
     have ch6 := f96_ok F x1 x2 x3 _ h6
     try dsimp only at h
     obtain rfl := sI h
     exact callOK cxOK cxW Tryd.func58 (by kernel_rfl) (f58_e3 x1 x2 x3 x4 x5) ⟨h1, h1, h1, h1, h1, h2, h2, h2, h2, h2, h3, ch4, (by rw [h5]; rfl), ch6, trivial⟩
    ·rw [if_neg h5] at h
     have h5 := eF h5
     obtain rfl := sI h
     exact callOK cxOK cxW Tryd.func58 (by kernel_rfl) (f58_e4 x1 x2 x3 x4) ⟨h1, h1, h1, h1, h1, h2, h2, h2, h2, h2, h3, ch4, (by rw [h5]; rfl), trivial⟩

theorem f21_ok (F : Nat) (x1 x2 x3 : Int) (r : Int × Int) (h : f21 F x1 x2 x3 = some r) : f21_C x1 x2 x3 r := by
 unfold f21 at h
 obtain ⟨rh1, h1, h⟩ := bind_some h
 have ch1 := f58_ok F x1 x2 x3 _ h1
 obtain ⟨x4, x5⟩ := rh1
 try dsimp only at h
 obtain rfl := sI h
 exact callOK cxOK cxW Tryd.func21 (by kernel_rfl) (f21_e0 x1 x2 x3 x4 x5) ⟨ch1, trivial⟩

theorem f173_ok (F : Nat) (x1 x2 x3 : Int) (r : Bool) (h : f173 F x1 x2 x3 = some r) : f173_C x1 x2 x3 r := by
 unfold f173 at h
 by_cases h1 : (decide (x1 ≤ x2)) = true
 ·rw [if_pos h1] at h
  obtain rfl := sI h
  exact callOK cxOK cxW Tryd.func173 (by kernel_rfl) (f173_e0 x1 x2 x3) ⟨h1, h1, h1, h1, trivial⟩
 ·rw [if_neg h1] at h
  have h1 := eF h1
  obtain rfl := sI h
  exact callOK cxOK cxW Tryd.func173 (by kernel_rfl) (f173_e1 x1 x2 x3) ⟨h1, h1, h1, h1, trivial⟩

theorem f172_ok (F : Nat) (x1 : Int) (r : Bool) (h : f172 F x1 = some r) : f172_C x1 r := by
 unfold f172 at h
 obtain ⟨x2, h1, h⟩ := bind_some h
 have ch1 := f173_ok F 0 x1 99 _ h1
 try dsimp only at h
 obtain rfl := sI h
 exact callOK cxOK cxW Tryd.func172 (by kernel_rfl) (f172_e0 x1 x2) ⟨ch1, trivial⟩

theorem f92_p1_ok (F : Nat) (x1 : LI) : ∀ (k : Nat) (x2 : Int) (r : f92_p1_R), f92_p1 F x1 k x2 = some r → f92_p1_P x1 x2 r
 | 0, _, _, h => by cases h
 | k + 1, x2, r, h => by
  unfold f92_p1 at h
  by_cases h1 : (decide (x2 < ((List.length x1 : Nat) : Int))) = true
  ·rw [if_pos h1] at h
   obtain ⟨x3, h2, h⟩ := bind_some h
   try dsimp only at h
   obtain ⟨x4, h3, h⟩ := bind_some h
   have ch3 := f172_ok F x3 _ h3
   try dsimp only at h
   by_cases h4 : x4 = true
   ·rw [if_pos h4] at h
    obtain rfl := sI h
    exact Lp.out (gRun_ok cxOK (f92_p1_e0 x1 x2 x3 x4) ⟨h1, ⟨(at?_spec h2).1, x3, (at?_spec h2).2, rfl⟩, ch3, h4, trivial⟩) (by intro hh; cases hh)
   ·rw [if_neg h4] at h
    have h4 := eF h4
    exact Lp.again (gRun_ok cxOK (f92_p1_e1 x1 x2 x3 x4) ⟨h1, ⟨(at?_spec h2).1, x3, (at?_spec h2).2, rfl⟩, ch3, h4, trivial⟩) (f92_p1_ok F x1 k (w64 (x2 + 1)) r h)
  ·rw [if_neg h1] at h
   have h1 := eF h1
   obtain rfl := sI h
   exact Lp.out (gRun_ok cxOK (f92_p1_e2 x1 x2) ⟨h1, trivial⟩) (by intro hh; cases hh)
theorem f92_ok (F : Nat) (x1 : LI) (r : Int) (h : f92 F x1 = some r) : f92_C x1 r := by
 unfold f92 at h
 obtain ⟨rh5, h5, h⟩ := bind_some h
 have ch5 := f92_p1_ok F x1 F 0 _ h5
 cases rh5 with
 | c0 x5 =>
  try dsimp only at h
  obtain rfl := sI h
  exact callOK cxOK cxW Tryd.func92 (by kernel_rfl) (f92_e0 x1 x5) ⟨ch5, trivial⟩
 | c1 =>
  try dsimp only at h
  obtain rfl := sI h
  exact callOK cxOK cxW Tryd.func92 (by kernel_rfl) (f92_e1 x1) ⟨ch5, trivial⟩

theorem f168_ok (F : Nat) (x1 : LI) (r : Bool) (h : f168 F x1 = some r) : f168_C x1 r := by
 unfold f168 at h
 obtain ⟨x2, h1, h⟩ := bind_some h
 have ch1 := f92_ok F x1 _ h1
 try dsimp only at h
 obtain rfl := sI h
 exact callOK cxOK cxW Tryd.func168 (by kernel_rfl) (f168_e0 x1 x2) ⟨ch1, trivial⟩

theorem f167_ok (F : Nat) (x1 : LI) (x2 : Int) (r : Int) (h : f167 F x1 x2 = some r) : f167_C x1 x2 r := by
 unfold f167 at h
 by_cases h1 : (((List.length x1 : Nat) : Int) != x2) = true
 ·rw [if_pos h1] at h
  obtain rfl := sI h
  exact callOK cxOK cxW Tryd.func167 (by kernel_rfl) (f167_e0 x1 x2) ⟨h1, trivial⟩
 ·rw [if_neg h1] at h
  have h1 := eF h1
  obtain ⟨x3, h2, h⟩ := bind_some h
  have ch2 := f168_ok F x1 _ h2
  try dsimp only at h
  by_cases h3 : x3 = true
  ·rw [if_pos h3] at h
   obtain rfl := sI h
   exact callOK cxOK cxW Tryd.func167 (by kernel_rfl) (f167_e1 x1 x2 x3) ⟨h1, ch2, h3, trivial⟩
  ·rw [if_neg h3] at h
   have h3 := eF h3
   obtain rfl := sI h
   exact callOK cxOK cxW Tryd.func167 (by kernel_rfl) (f167_e2 x1 x2 x3) ⟨h1, ch2, h3, trivial⟩

theorem f161_p4_ok (F : Nat) (x1 : LL) : ∀ (k : Nat) (x3 : Int) (r : f161_p4_R), f161_p4 F x1 k x3 = some r → f161_p4_P x1 x3 r
 | 0, _, _, h => by cases h
 | k + 1, x3, r, h => by
  unfold f161_p4 at h
  by_cases h5 : (decide (x3 < ((List.length x1 : Nat) : Int))) = true
  ·rw [if_pos h5] at h
   obtain ⟨x4, h6, h⟩ := bind_some h
   try dsimp only at h
   obtain ⟨x5, h7, h⟩ := bind_some h
   try dsimp only at h
   obtain ⟨x6, h8, h⟩ := bind_some h
   have ch8 := f167_ok F x4 ((List.length x5 : Nat) : Int) _ h8
   try dsimp only at h
   by_cases h9 : (x6 != 0) = true
   ·rw [if_pos h9] at h
    obtain rfl := sI h
    exact Lp.out (gRun_ok cxOK (f161_p4_e0 x1 x3 x4 x5 x6) ⟨h5, ⟨(at?_spec h6).1, x4, (at?_spec h6).2, rfl⟩, ⟨(at?_spec h7).1, x5, (at?_spec h7).2, rfl⟩, ch8, h9, trivial⟩) (by intro hh; cases hh)
   ·rw [if_neg h9] at h
    have h9 := eF h9
    exact Lp.again (gRun_ok cxOK (f161_p4_e1 x1 x3 x4 x5 x6) ⟨h5, ⟨(at?_spec h6).1, x4, (at?_spec h6).2, rfl⟩, ⟨(at?_spec h7).1, x5, (at?_spec h7).2, rfl⟩, ch8, h9, trivial⟩) (f161_p4_ok F x1 k (w64 (x3 + 1)) r h)
  ·rw [if_neg h5] at h
   have h5 := eF h5
   obtain rfl := sI h
   exact Lp.out (gRun_ok cxOK (f161_p4_e2 x1 x3) ⟨h5, trivial⟩) (by intro hh; cases hh)
theorem f161_ok (F : Nat) (x1 : LL) (r : Int) (h : f161 F x1 = some r) : f161_C x1 r := by
 unfold f161 at h
 by_cases h1 : (((List.length x1 : Nat) : Int) == 0) = true
 ·rw [if_pos h1] at h
  obtain rfl := sI h
  exact callOK cxOK cxW Tryd.func161 (by kernel_rfl) (f161_e0 x1) ⟨h1, trivial⟩
 ·rw [if_neg h1] at h
  have h1 := eF h1
  by_cases h2 : (decide (((List.length x1 : Nat) : Int) > 5)) = true
  ·rw [if_pos h2] at h
   obtain rfl := sI h
   exact callOK cxOK cxW Tryd.func161 (by kernel_rfl) (f161_e1 x1) ⟨h1, h2, h2, h2, h2, h2, h2, rfl, trivial⟩
  ·rw [if_neg h2] at h
   have h2 := eF h2
   obtain ⟨x2, h3, h⟩ := bind_some h
   try dsimp only at h
   by_cases h4 : (decide (((List.length x2 : Nat) : Int) > 5)) = true
   ·rw [if_pos h4] at h
    obtain rfl := sI h
    exact callOK cxOK cxW Tryd.func161 (by kernel_rfl) (f161_e2 x1 x2) ⟨h1, h2, h2, ⟨(at?_spec h3).1, x2, (at?_spec h3).2, rfl⟩, h2, h2, h2, h2, h4, trivial⟩
   ·rw [if_neg h4] at h
    have h4 := eF h4
    obtain ⟨rh10, h10, h⟩ := bind_some h
    have ch10 := f161_p4_ok F x1 F 0 _ h10
    cases rh10 with
    | c0 x7 =>
     try dsimp only at h
     obtain rfl := sI h
     exact callOK cxOK cxW Tryd.func161 (by kernel_rfl) (f161_e3 x1 x2 x7) ⟨h1, h2, h2, ⟨(at?_spec h3).1, x2, (at?_spec h3).2, rfl⟩, h2, h2, h2, h2, h4, ch10, trivial⟩
    | c1 =>
     try dsimp only at h
     obtain rfl := sI h
     exact callOK cxOK cxW Tryd.func161 (by kernel_rfl) (f161_e4 x1 x2) ⟨h1, h2, h2, ⟨(at?_spec h3).1, x2, (at?_spec h3).2, rfl⟩, h2, h2, h2, h2, h4, ch10, trivial⟩

theorem f151_ok (F : Nat) (x1 : LL) (r : f151_R) (h : f151 F x1 = some r) : f151_C x1 r := by
 unfold f151 at h
 obtain ⟨x2, h1, h⟩ := bind_some h
 have ch1 := f161_ok F x1 _ h1
 try dsimp only at h
 by_cases h2 : (x2 != 0) = true
 ·rw [if_pos h2] at h
  obtain rfl := sI h
  exact callOK cxOK cxW Tryd.func151 (by kernel_rfl) (f151_e0 x1 x2) ⟨ch1, h2, trivial⟩
 ·rw [if_neg h2] at h
  have h2 := eF h2
  obtain ⟨x3, h3, h⟩ := bind_some h
  try dsimp only at h
  obtain rfl := sI h
  exact callOK cxOK cxW Tryd.func151 (by kernel_rfl) (f151_e1 x1 x2 x3) ⟨ch1, h2, ⟨(at?_spec h3).1, x3, (at?_spec h3).2, rfl⟩, trivial⟩

theorem f154_ok (F : Nat) (r : f154_R) (h : f154 F = some r) : f154_C r := by
 unfold f154 at h
 cases h

theorem f152_ok (F : Nat) (r : f152_R) (h : f152 F = some r) : f152_C r := by
 unfold f152 at h
 obtain ⟨rh1, h1, h⟩ := bind_some h
 have ch1 := f154_ok F _ h1
 exact nomatch rh1

theorem f154_1_ok (F : Nat) (x1 : List ((Int × (Int × (Int × Unit))) × (Int × (Int × Unit)))) (x2 : LL) (x3 : Int) (r : Int) (h : f154_1 F x1 x2 x3 = some r) : f154_1_C x1 x2 x3 r := by
 unfold f154_1 at h
 obtain ⟨h1, h⟩ := req_some h
 obtain rfl := sI h
 exact callOK cxOK cxW Tryd.func154 (by kernel_rfl) (f154_1_e0 x1 x2 x3) ⟨h1, trivial⟩

theorem f162_ok (F : Nat) (x1 x2 : Int) (r : Int × Bool) (h : f162 F x1 x2 = some r) : f162_C x1 x2 r := by
 unfold f162 at h
 by_cases h1 : (decide (x2 < 0)) = true
 ·rw [if_pos h1] at h
  obtain rfl := sI h
  exact callOK cxOK cxW Tryd.func162 (by kernel_rfl) (f162_e0 x1 x2) ⟨h1, trivial⟩
 ·rw [if_neg h1] at h
  have h1 := eF h1
  obtain ⟨h2, h⟩ := req_some h
  obtain rfl := sI h
  exact callOK cxOK cxW Tryd.func162 (by kernel_rfl) (f162_e1 x1 x2) ⟨h1, h2, h2, trivial⟩

theorem f155_ok (F : Nat) (x1 x2 : Int) (x3 : List ((Int × (Int × (Int × Unit))) × (Int × (Int × Unit)))) (x4 : LL) (x5 : Int) (r : Int) (h : f155 F x1 x2 x3 x4 x5 = some r) : f155_C x1 x2 x3 x4 x5 r := by
 unfold f155 at h
 by_cases h1 : (decide (x2 < 0)) = true
 ·rw [if_pos h1] at h
  obtain rfl := sI h
  exact callOK cxOK cxW Tryd.func155 (by kernel_rfl) (f155_e0 x1 x2 x3 x4 x5) ⟨h1, trivial⟩
 ·rw [if_neg h1] at h
  have h1 := eF h1
  obtain ⟨x6, h2, h⟩ := bind_some h
  try dsimp only at h
  obtain ⟨x7, h3, h⟩ := bind_some h
  try dsimp only at h
  obtain rfl := sI h
  exact callOK cxOK cxW Tryd.func155 (by kernel_rfl) (f155_e1 x1 x2 x3 x4 x5 x6 x7) ⟨h1, ⟨(at?_spec h2).1, x6, (at?_spec h2).2, rfl⟩, ⟨(at?_spec h3).1, x7, (at?_spec h3).2, rfl⟩, trivial⟩

theorem f153_p9_1_ok (F : Nat) (x17 x23 : Int) (x26 x19 : Int) (x25 : List ((Int × (Int × (Int × Unit))) × (Int × (Int × Unit)))) (x5 : LL) (x6 x1 : Int) (x2 x3 : Int) (x20 x24 : Int) (r : Int) (h : f153_p9_1 F x17 x23 x26 x19 x25 x5 x6 x1 x2 x3 x20 x24 = some r) : f153_p9_1_P x17 x23 x26 x19 x25 x5 x6 x1 x2 x3 x20 x24 r := by
 unfold f153_p9_1 at h
 by_cases h22 : ((w64 (x23 + x26)) == x19) = true
 ·rw [if_pos h22] at h
  obtain rfl := sI h
  exact gRun_ok cxOK (f153_p9_1_e0 x1 x2 x3 x5 x6 x17 x19 x20 x23 x24 x25 x26) ⟨h22, trivial⟩
 ·rw [if_neg h22] at h
  have h22 := eF h22
  obtain rfl := sI h
  exact gRun_ok cxOK (f153_p9_1_e1 x1 x2 x3 x5 x6 x17 x19 x20 x23 x24 x25 x26) ⟨h22, trivial⟩
theorem f153_p8_1_ok (F : Nat) (x17 x23 : Int) (x26 x19 : Int) (x25 : List ((Int × (Int × (Int × Unit))) × (Int × (Int × Unit)))) (x5 : LL) (x6 x1 : Int) (x2 x3 : Int) (x20 x24 : Int) (r : Int × Int) (h : f153_p8_1 F x17 x23 x26 x19 x25 x5 x6 x1 x2 x3 x20 x24 = some r) : f153_p8_1_P x17 x23 x26 x19 x25 x5 x6 x1 x2 x3 x20 x24 r := by
 unfold f153_p8_1 at h
 by_cases h21 : (decide ((w64 (x23 + x26)) > x19)) = true
 ·rw [if_pos h21] at h
  obtain rfl := sI h
  exact gRun_ok cxOK (f153_p8_1_e0 x1 x2 x3 x5 x6 x17 x19 x20 x23 x24 x25 x26) ⟨h21, trivial⟩
 ·rw [if_neg h21] at h
  have h21 := eF h21
  obtain ⟨x27, h23, h⟩ := bind_some h
  have ch23 := f153_p9_1_ok F x17 x23 x26 x19 x25 x5 x6 x1 x2 x3 x20 x24 _ h23
  try dsimp only at h
  obtain rfl := sI h
  exact gRun_ok cxOK (f153_p8_1_e1 x1 x2 x3 x5 x6 x17 x19 x20 x23 x24 x25 x26 x27) ⟨h21, ch23, trivial⟩
theorem f153_p9_2_ok (F : Nat) (x17 x30 : Int) (x33 x19 : Int) (x32 : List ((Int × (Int × (Int × Unit))) × (Int × (Int × Unit)))) (x5 : LL) (x6 x1 : Int) (x2 x3 : Int) (x20 x31 : Int) (r : Int) (h : f153_p9_2 F x17 x30 x33 x19 x32 x5 x6 x1 x2 x3 x20 x31 = some r) : f153_p9_2_P x17 x30 x33 x19 x32 x5 x6 x1 x2 x3 x20 x31 r := by
 unfold f153_p9_2 at h
 by_cases h28 : ((w64 (x30 + x33)) == x19) = true
 ·rw [if_pos h28] at h
  obtain rfl := sI h
  exact gRun_ok cxOK (f153_p9_2_e0 x1 x2 x3 x5 x6 x17 x19 x20 x30 x31 x32 x33) ⟨h28, trivial⟩
 ·rw [if_neg h28] at h
  have h28 := eF h28
  obtain rfl := sI h
  exact gRun_ok cxOK (f153_p9_2_e1 x1 x2 x3 x5 x6 x17 x19 x20 x30 x31 x32 x33) ⟨h28, trivial⟩
theorem f153_p8_2_ok (F : Nat) (x17 x30 : Int) (x33 x19 : Int) (x32 : List ((Int × (Int × (Int × Unit))) × (Int × (Int × Unit)))) (x5 : LL) (x6 x1 : Int) (x2 x3 : Int) (x20 x31 : Int) (r : Int × Int) (h : f153_p8_2 F x17 x30 x33 x19 x32 x5 x6 x1 x2 x3 x20 x31 = some r) : f153_p8_2_P x17 x30 x33 x19 x32 x5 x6 x1 x2 x3 x20 x31 r := by
 unfold f153_p8_2 at h
 by_cases h27 : (decide ((w64 (x30 + x33)) > x19)) = true
 ·rw [if_pos h27] at h
  obtain rfl := sI h
  exact gRun_ok cxOK (f153_p8_2_e0 x1 x2 x3 x5 x6 x17 x19 x20 x30 x31 x32 x33) ⟨h27, trivial⟩
 ·rw [if_neg h27] at h
  have h27 := eF h27
  obtain ⟨x34, h29, h⟩ := bind_some h
  have ch29 := f153_p9_2_ok F x17 x30 x33 x19 x32 x5 x6 x1 x2 x3 x20 x31 _ h29
  try dsimp only at h
  obtain rfl := sI h
  exact gRun_ok cxOK (f153_p8_2_e1 x1 x2 x3 x5 x6 x17 x19 x20 x30 x31 x32 x33 x34) ⟨h27, ch29, trivial⟩
theorem f153_p3_ok (F : Nat) (rec : Int → Int → Int → (List ((Int × (Int × (Int × Unit))) × (Int × (Int × Unit)))) → (List (List Int)) → Int → Option (Int × Int × (List ((Int × (Int × (Int × Unit))) × (Int × (Int × Unit)))))) (hrec : ∀ (x1 x2 x3 : Int) (x4 : List ((Int × (Int × (Int × Unit))) × (Int × (Int × Unit)))) (x5 : LL) (x6 : Int) (r : Int × Int × (List ((Int × (Int × (Int × Unit))) × (Int × (Int × Unit))))), rec x1 x2 x3 x4 x5 x6 = some r → f153_C x1 x2 x3 x4 x5 x6 r) (x5 : LL) (x6 x1 : Int) (x2 x3 : Int) : ∀ (k : Nat) (x17 : Int) (x18 : List ((Int × (Int × (Int × Unit))) × (Int × (Int × Unit)))) (x19 x20 : Int) (r : (List ((Int × (Int × (Int × Unit))) × (Int × (Int × Unit)))) × Int × Int), f153_p3 F rec x5 x6 x1 x2 x3 k x17 x18 x19 x20 = some r → f153_p3_P x5 x6 x1 x2 x3 x17 x18 x19 x20 r
 | 0, _, _, _, _, _, h => by cases h
 | k + 1, x17, x18, x19, x20, r, h => by
  unfold f153_p3 at h
  by_cases h14 : (decide (x17 < x6)) = true
  ·rw [if_pos h14] at h
   obtain ⟨rh15, h15, h⟩ := bind_some h
   have ch15 := f162_ok F x3 x17 _ h15
   obtain ⟨x21, x22⟩ := rh15
   try dsimp only at h
   by_cases h16 : x22 = true
   ·rw [if_pos h16] at h
    by_cases h17 : (decide (x17 ≥ 0)) = true
    ·rw [if_pos h17] at h
     by_cases h18 : (x1 == x2) = true
     ·rw [if_pos h18] at h
      exact Lp.again (gRun_ok cxOK (f153_p3_e0 x1 x2 x3 x5 x6 x17 x18 x19 x20 x21 x22) ⟨h14, ch15, (by rw [h16]; rfl), (by rw [h16]; rfl), (by rw [h16]; rfl), h17, h17, h17, h17, h17, (by rw [h16]; rfl), h17, (by rw [h16]; rfl), h18, trivial⟩) (f153_p3_ok F rec hrec x5 x6 x1 x2 x3 k (w64 (x17 + 1)) x18 x19 x20 r h)
     ·rw [if_neg h18] at h
      have h18 := eF h18
      obtain ⟨rh19, h19, h⟩ := bind_some h
      have ch19 := hrec (w64 (x1 + 1)) x2 x21 x18 x5 x6 _ h19
      obtain ⟨x23, x24, x25⟩ := rh19
      try dsimp only at h
      obtain ⟨x26, h20, h⟩ := bind_some h
      have ch20 := f155_ok F x1 x17 x25 x5 x6 _ h20
      try dsimp only at h
      obtain ⟨rh24, h24, h⟩ := bind_some h
      have ch24 := f153_p8_1_ok F x17 x23 x26 x19 x25 x5 x6 x1 x2 x3 x20 x24 _ h24
      obtain ⟨x28, x29⟩ := rh24
      try dsimp only at h
      exact Lp.again (gRun_ok cxOK (f153_p3_e1 x1 x2 x3 x5 x6 x17 x18 x19 x20 x21 x22 x23 x24 x25 x26 x28 x29) ⟨h14, ch15, (by rw [h16]; rfl), (by rw [h16]; rfl), (by rw [h16]; rfl), h17, h17, h17, h17, h17, (by rw [h16]; rfl), h17, (by rw [h16]; rfl), h18, ch19, ch20, ch24, trivial⟩) (f153_p3_ok F rec hrec x5 x6 x1 x2 x3 k (w64 (x17 + 1)) x25 x28 x29 r h)
    ·rw [if_neg h17] at h
     have h17 := eF h17
     obtain ⟨rh25, h25, h⟩ := bind_some h
     have ch25 := hrec (w64 (x1 + 1)) x2 x21 x18 x5 x6 _ h25
     obtain ⟨x30, x31, x32⟩ := rh25
     try dsimp only at h
     obtain ⟨x33, h26, h⟩ := bind_some h
     have ch26 := f155_ok F x1 x17 x32 x5 x6 _ h26
     try dsimp only at h
     obtain ⟨rh30, h30, h⟩ := bind_some h
     have ch30 := f153_p8_2_ok F x17 x30 x33 x19 x32 x5 x6 x1 x2 x3 x20 x31 _ h30
     obtain ⟨x35, x36⟩ := rh30
     try dsimp only at h
     exact Lp.again (gRun_ok cxOK (f153_p3_e2 x1 x2 x3 x5 x6 x17 x18 x19 x20 x21 x22 x30 x31 x32 x33 x35 x36) ⟨h14, ch15, (by rw [h16]; rfl), (by rw [h16]; rfl), (by rw [h16]; rfl), h17, h17, h17, h17, h17, (by rw [h16]; rfl), h17, (by rw [h16]; rfl), rfl, ch25, ch26, ch30, trivial⟩) (f153_p3_ok F rec hrec x5 x6 x1 x2 x3 k (w64 (x17 + 1)) x32 x35 x36 r h)
   ·rw [if_neg h16] at h
    have h16 := eF h16
    exact Lp.again (gRun_ok cxOK (f153_p3_e3 x1 x2 x3 x5 x6 x17 x18 x19 x20 x21 x22) ⟨h14, ch15, (by rw [h16]; rfl), (by rw [h16]; rfl), (by rw [h16]; rfl), (by rw [h16]; rfl), (by rw [h16]; rfl), rfl, trivial⟩) (f153_p3_ok F rec hrec x5 x6 x1 x2 x3 k (w64 (x17 + 1)) x18 x19 x20 r h)
  ·rw [if_neg h14] at h
   have h14 := eF h14
   obtain rfl := sI h
   exact Lp.out (gRun_ok cxOK (f153_p3_e4 x1 x2 x3 x5 x6 x17 x18 x19 x20) ⟨h14, trivial⟩) (by intro hh; cases hh)
theorem f153_b_ok (F : Nat) (rec : Int → Int → Int → (List ((Int × (Int × (Int × Unit))) × (Int × (Int × Unit)))) → (List (List Int)) → Int → Option (Int × Int × (List ((Int × (Int × (Int × Unit))) × (Int × (Int × Unit)))))) (hrec : ∀ (x1 x2 x3 : Int) (x4 : List ((Int × (Int × (Int × Unit))) × (Int × (Int × Unit)))) (x5 : LL) (x6 : Int) (r : Int × Int × (List ((Int × (Int × (Int × Unit))) × (Int × (Int × Unit))))), rec x1 x2 x3 x4 x5 x6 = some r → f153_C x1 x2 x3 x4 x5 x6 r) (x1 x2 x3 : Int) (x4 : List ((Int × (Int × (Int × Unit))) × (Int × (Int × Unit)))) (x5 : LL) (x6 : Int) (r : Int × Int × (List ((Int × (Int × (Int × Unit))) × (Int × (Int × Unit))))) (h : f153_b F rec x1 x2 x3 x4 x5 x6 = some r) : f153_C x1 x2 x3 x4 x5 x6 r := by
 unfold f153_b at h
 by_cases h1 : (x1 == ((List.length x5 : Nat) : Int)) = true
 ·rw [if_pos h1] at h
  obtain rfl := sI h
  exact callOK cxOK cxW Tryd.func153 (by kernel_rfl) (f153_e0 x1 x2 x3 x4 x5 x6) ⟨h1, trivial⟩
 ·rw [if_neg h1] at h
  have h1 := eF h1
  by_cases h2 : (Option.isSome (mget x4 (x1, (x2, (x3, ()))))) = true
  ·rw [if_pos h2] at h
   obtain rfl := sI h
   exact callOK cxOK cxW Tryd.func153 (by kernel_rfl) (f153_e1 x1 x2 x3 x4 x5 x6) ⟨h1, (by kernel_rfl), h2, trivial⟩
  ·rw [if_neg h2] at h
   have h2 := eF h2
   obtain ⟨rh31, h31, h⟩ := bind_some h
   have ch31 := f153_p3_ok F rec hrec x5 x6 x1 x2 x3 F (-1) x4 (-1) 0 _ h31
   obtain ⟨x37, x38, x39⟩ := rh31
   try dsimp only at h
   obtain rfl := sI h
   exact callOK cxOK cxW Tryd.func153 (by kernel_rfl) (f153_e2 x1 x2 x3 x4 x5 x6 x37 x38 x39) ⟨h1, (by kernel_rfl), h2, ch31, (by kernel_rfl), trivial⟩
theorem f153_ok (F : Nat) : ∀ (k : Nat) (x1 x2 x3 : Int) (x4 : List ((Int × (Int × (Int × Unit))) × (Int × (Int × Unit)))) (x5 : LL) (x6 : Int) (r : Int × Int × (List ((Int × (Int × (Int × Unit))) × (Int × (Int × Unit))))), f153 F k x1 x2 x3 x4 x5 x6 = some r → f153_C x1 x2 x3 x4 x5 x6 r
 | 0, _, _, _, _, _, _, _, h => by cases h
 | k + 1, x1, x2, x3, x4, x5, x6, r, h => f153_b_ok F (f153 F k) (f153_ok F k) x1 x2 x3 x4 x5 x6 r h

theorem f152_1_p5_2_ok (F : Nat) (x64 : Int) (x2 : LL) (x3 : Int) : ∀ (k : Nat) (x79 x80 : Int) (x81 : List ((Int × (Int × (Int × Unit))) × (Int × (Int × Unit)))) (x78 : LI) (r : Int × (List ((Int × (Int × (Int × Unit))) × (Int × (Int × Unit)))) × (List Int)), f152_1_p5_2 F x64 x2 x3 k x79 x80 x81 x78 = some r → f152_1_p5_2_P x64 x2 x3 x79 x80 x81 x78 r
 | 0, _, _, _, _, _, h => by cases h
 | k + 1, x79, x80, x81, x78, r, h => by
  unfold f152_1_p5_2 at h
  by_cases h47 : (decide (x80 < x3)) = true
  ·rw [if_pos h47] at h
   obtain ⟨rh48, h48, h⟩ := bind_some h
   have ch48 := f162_ok F x79 x80 _ h48
   obtain ⟨x82, x83⟩ := rh48
   try dsimp only at h
   by_cases h49 : x83 = true
   ·rw [if_pos h49] at h
    obtain ⟨rh50, h50, h⟩ := bind_some h
    have ch50 := f153_ok F F (w64 (x64 + 1)) (-1) x82 x81 x2 x3 _ h50
    obtain ⟨x84, x85, x86⟩ := rh50
    try dsimp only at h
    obtain ⟨x87, h51, h⟩ := bind_some h
    have ch51 := f155_ok F x64 x80 x86 x2 x3 _ h51
    try dsimp only at h
    obtain ⟨rh52, h52, h⟩ := bind_some h
    have ch52 := f153_ok F F x64 (-1) x79 x86 x2 x3 _ h52
    obtain ⟨x88, x89, x90⟩ := rh52
    try dsimp only at h
    by_cases h53 : ((w64 (x84 + x87)) == x88) = true
    ·rw [if_pos h53] at h
     obtain ⟨h54, h⟩ := req_some h
     obtain rfl := sI h
     exact Lp.out (gRun_ok cxOK (f152_1_p5_2_e0 x2 x3 x64 x78 x79 x80 x81 x82 x83 x84 x85 x86 x87 x88 x89 x90) ⟨h47, ch48, h49, h49, h49, h49, h49, h49, ch50, h49, h49, h49, h49, h49, ch51, h49, h49, h49, h49, h49, h49, ch52, h49, h49, h49, h53, h54, rfl, trivial⟩) (by intro hh; cases hh)
    ·rw [if_neg h53] at h
     have h53 := eF h53
     exact Lp.again (gRun_ok cxOK (f152_1_p5_2_e1 x2 x3 x64 x78 x79 x80 x81 x82 x83 x84 x85 x86 x87 x88 x89 x90) ⟨h47, ch48, h49, h49, h49, h49, h49, h49, ch50, h49, h49, h49, h49, h49, ch51, h49, h49, h49, h49, h49, h49, ch52, h49, h49, h49, h53, trivial⟩) (f152_1_p5_2_ok F x64 x2 x3 k x79 (w64 (x80 + 1)) x90 x78 r h)
   ·rw [if_neg h49] at h
    have h49 := eF h49
    exact Lp.again (gRun_ok cxOK (f152_1_p5_2_e2 x2 x3 x64 x78 x79 x80 x81 x82 x83) ⟨h47, ch48, h49, h49, h49, h49, h49, h49, h49, h49, h49, h49, h49, h49, h49, h49, h49, h49, h49, h49, h49, h49, rfl, trivial⟩) (f152_1_p5_2_ok F x64 x2 x3 k x79 (w64 (x80 + 1)) x81 x78 r h)
  ·rw [if_neg h47] at h
   have h47 := eF h47
   obtain rfl := sI h
   exact Lp.out (gRun_ok cxOK (f152_1_p5_2_e3 x2 x3 x64 x78 x79 x80 x81) ⟨h47, trivial⟩) (by intro hh; cases hh)
theorem f152_1_p1_ok (F : Nat) (x2 : LL) (x3 : Int) : ∀ (k : Nat) (x63 x64 : Int) (x65 : List ((Int × (Int × (Int × Unit))) × (Int × (Int × Unit)))) (x62 : LI) (r : (List ((Int × (Int × (Int × Unit))) × (Int × (Int × Unit)))) × (List Int)), f152_1_p1 F x2 x3 k x63 x64 x65 x62 = some r → f152_1_p1_P x2 x3 x63 x64 x65 x62 r
 | 0, _, _, _, _, _, h => by cases h
 | k + 1, x63, x64, x65, x62, r, h => by
  unfold f152_1_p1 at h
  by_cases h38 : (decide (x64 < ((List.length x2 : Nat) : Int))) = true
  ·rw [if_pos h38] at h
   obtain ⟨rh55, h55, h⟩ := bind_some h
   have ch55 := f152_1_p5_2_ok F x64 x2 x3 F x63 (-1) x65 x62 _ h55
   obtain ⟨x91, x92, x93⟩ := rh55
   try dsimp only at h
   exact Lp.again (gRun_ok cxOK (f152_1_p1_e0 x2 x3 x62 x63 x64 x65 x91 x92 x93) ⟨h38, ch55, trivial⟩) (f152_1_p1_ok F x2 x3 k x91 (w64 (x64 + 1)) x92 x93 r h)
  ·rw [if_neg h38] at h
   have h38 := eF h38
   obtain rfl := sI h
   exact Lp.out (gRun_ok cxOK (f152_1_p1_e1 x2 x3 x62 x63 x64 x65) ⟨h38, trivial⟩) (by intro hh; cases hh)
theorem f152_1_ok (F : Nat) (x1 : List ((Int × (Int × (Int × Unit))) × (Int × (Int × Unit)))) (x2 : LL) (x3 : Int) (r : (List Int) × (List ((Int × (Int × (Int × Unit))) × (Int × (Int × Unit))))) (h : f152_1 F x1 x2 x3 = some r) : f152_1_C x1 x2 x3 r := by
 unfold f152_1 at h
 obtain ⟨x4, h1, h⟩ := bind_some h
 have ch1 := f154_1_ok F x1 x2 x3 _ h1
 try dsimp only at h
 obtain ⟨rh56, h56, h⟩ := bind_some h
 have ch56 := f152_1_p1_ok F x2 x3 F x4 0 x1 ([] : List Int) _ h56
 obtain ⟨x94, x95⟩ := rh56
 try dsimp only at h
 obtain rfl := sI h
 exact callOK cxOK cxW Tryd.func152 (by kernel_rfl) (f152_1_e0 x1 x2 x3 x4 x94 x95) ⟨ch1, ch56, (Nat.le_of_eq (Nat.zero_add _)), trivial⟩

theorem f145_ok (F : Nat) (x1 x2 : Int) (x3 : List ((Int × (Int × (Int × Unit))) × (Int × (Int × Unit)))) (x4 : LL) (x5 : Int) (r : Int × (List ((Int × (Int × (Int × Unit))) × (Int × (Int × Unit))))) (h : f145 F x1 x2 x3 x4 x5 = some r) : f145_C x1 x2 x3 x4 x5 r := by
 unfold f145 at h
 obtain ⟨x6, h1, h⟩ := bind_some h
 have ch1 := f154_1_ok F x3 x4 x5 _ h1
 try dsimp only at h
 obtain ⟨rh2, h2, h⟩ := bind_some h
 have ch2 := f153_ok F F 0 (-1) x6 x3 x4 x5 _ h2
 obtain ⟨x7, x8, x9⟩ := rh2
 try dsimp only at h
 obtain ⟨x10, h3, h⟩ := bind_some h
 have ch3 := f155_ok F x1 x2 x9 x4 x5 _ h3
 try dsimp only at h
 obtain ⟨x11, h4, h⟩ := bind_some h
 have ch4 := f154_1_ok F x9 x4 x5 _ h4
 try dsimp only at h
 obtain ⟨rh5, h5, h⟩ := bind_some h
 have ch5 := f153_ok F F 0 x1 x11 x9 x4 x5 _ h5
 obtain ⟨x12, x13, x14⟩ := rh5
 try dsimp only at h
 obtain rfl := sI h
 exact callOK cxOK cxW Tryd.func145 (by kernel_rfl) (f145_e0 x1 x2 x3 x4 x5 x6 x7 x8 x9 x10 x11 x12 x13 x14) ⟨ch1, ch2, ch3, ch4, ch5, trivial⟩

theorem f144_p2_ok (F : Nat) (x7 : LI) (x5 : LL) (x6 : Int) : ∀ (k : Nat) (x19 : Int) (x20 : List ((Int × (Int × (Int × Unit))) × (Int × (Int × Unit)))) (x18 : LI) (r : (List Int)), f144_p2 F x7 x5 x6 k x19 x20 x18 = some r → f144_p2_P x7 x5 x6 x19 x20 x18 r
 | 0, _, _, _, _, h => by cases h
 | k + 1, x19, x20, x18, r, h => by
  unfold f144_p2 at h
  by_cases h14 : (decide (x19 < ((List.length x7 : Nat) : Int))) = true
  ·rw [if_pos h14] at h
   obtain ⟨x21, h15, h⟩ := bind_some h
   try dsimp only at h
   obtain ⟨rh16, h16, h⟩ := bind_some h
   have ch16 := f145_ok F x19 x21 x20 x5 x6 _ h16
   obtain ⟨x22, x23⟩ := rh16
   try dsimp only at h
   obtain ⟨h17, h⟩ := req_some h
   exact Lp.again (gRun_ok cxOK (f144_p2_e0 x5 x6 x7 x18 x19 x20 x21 x22 x23) ⟨h14, ⟨(at?_spec h15).1, x21, (at?_spec h15).2, rfl⟩, ch16, h17, rfl, trivial⟩) (f144_p2_ok F x7 x5 x6 k (w64 (x19 + 1)) x23 (x18 ++ ([x22] : List Int)) r h)
  ·rw [if_neg h14] at h
   have h14 := eF h14
   obtain rfl := sI h
   exact Lp.out (gRun_ok cxOK (f144_p2_e1 x5 x6 x7 x18 x19 x20) ⟨h14, trivial⟩) (by intro hh; cases hh)
theorem f144_ok (F : Nat) (x1 : LL) (r : (List Int) × Int) (h : f144 F x1 = some r) : f144_C x1 r := by
 unfold f144 at h
 obtain ⟨rh1, h1, h⟩ := bind_some h
 have ch1 := f151_ok F x1 _ h1
 cases rh1 with
 | c0 x2 =>
  try dsimp only at h
  by_cases h2 : (x2 != 0) = true
  ·rw [if_pos h2] at h
   obtain rfl := sI h
   exact callOK cxOK cxW Tryd.func144 (by kernel_rfl) (f144_e0 x1 x2) ⟨ch1, h2, trivial⟩
  ·rw [if_neg h2] at h
   have h2 := eF h2
   obtain ⟨rh3, h3, h⟩ := bind_some h
   have ch3 := f152_ok F _ h3
   exact nomatch rh3
 | c1 x3 x4 x5 x6 =>
  try dsimp only at h
  by_cases h4 : (x3 != 0) = true
  ·rw [if_pos h4] at h
   obtain rfl := sI h
   exact callOK cxOK cxW Tryd.func144 (by kernel_rfl) (f144_e1 x1 x3 x4 x5 x6) ⟨ch1, h4, trivial⟩
  ·rw [if_neg h4] at h
   have h4 := eF h4
   obtain ⟨rh5, h5, h⟩ := bind_some h
   have ch5 := f152_1_ok F x4 x5 x6 _ h5
   obtain ⟨x7, x8⟩ := rh5
   try dsimp only at h
   obtain ⟨x24, h18, h⟩ := bind_some h
   have ch18 := f144_p2_ok F x7 x5 x6 F 0 x8 ([] : List Int) _ h18
   try dsimp only at h
   obtain rfl := sI h
   exact callOK cxOK cxW Tryd.func144 (by kernel_rfl) (f144_e2 x1 x3 x4 x5 x6 x7 x8 x24) ⟨ch1, h4, ch5, ch18, (Nat.le_of_eq (Nat.zero_add _)), trivial⟩

theorem f133_ok (F : Nat) (x1 : LL) (r : (List Int) × Int) (h : f133 F x1 = some r) : f133_C x1 r := by
 unfold f133 at h
 obtain ⟨rh1, h1, h⟩ := bind_some h
 have ch1 := f144_ok F x1 _ h1
 obtain ⟨x2, x3⟩ := rh1
 try dsimp only at h
 obtain rfl := sI h
 exact callOK cxOK cxW Tryd.func133 (by kernel_rfl) (f133_e0 x1 x2 x3) ⟨ch1, trivial⟩

theorem f77_ok (F : Nat) (x1 x2 x3 : Int) (r : Bool) (h : f77 F x1 x2 x3 = some r) : f77_C x1 x2 x3 r := by
 unfold f77 at h
 by_cases h1 : (decide (x1 ≤ x2)) = true
 ·rw [if_pos h1] at h
  obtain rfl := sI h
  exact callOK cxOK cxW Tryd.func77 (by kernel_rfl) (f77_e0 x1 x2 x3) ⟨h1, h1, h1, h1, trivial⟩
 ·rw [if_neg h1] at h
  have h1 := eF h1
  obtain rfl := sI h
  exact callOK cxOK cxW Tryd.func77 (by kernel_rfl) (f77_e1 x1 x2 x3) ⟨h1, h1, h1, h1, trivial⟩

theorem f113_p0_ok (F : Nat) (x1 : Int) (x2 : Bool) (r : Int) (h : f113_p0 F x1 x2 = some r) : f113_p0_P x1 x2 r := by
 unfold f113_p0 at h
 by_cases h1 : x2 = true
 ·rw [if_pos h1] at h
  obtain rfl := sI h
  exact gRun_ok cxOK (f113_p0_e0 x1 x2) ⟨h1, trivial⟩
 ·rw [if_neg h1] at h
  have h1 := eF h1
  obtain rfl := sI h
  exact gRun_ok cxOK (f113_p0_e1 x1 x2) ⟨h1, trivial⟩
theorem f113_ok (F : Nat) (x1 : Int) (x2 : Bool) (r : Int) (h : f113 F x1 x2 = some r) : f113_C x1 x2 r := by
 unfold f113 at h
 obtain ⟨x3, h2, h⟩ := bind_some h
 have ch2 := f113_p0_ok F x1 x2 _ h2
 try dsimp only at h
 obtain rfl := sI h
 exact callOK cxOK cxW Tryd.func113 (by kernel_rfl) (f113_e0 x1 x2 x3) ⟨ch2, trivial⟩

theorem f76_ok (F : Nat) (x1 x2 : Int) (x3 : Bool) (x4 x5 : LI) (r : Int) (h : f76 F x1 x2 x3 x4 x5 = some r) : f76_C x1 x2 x3 x4 x5 r := by
 unfold f76 at h
 obtain ⟨h1, h⟩ := req_some h
 obtain ⟨x6, h2, h⟩ := bind_some h
 try dsimp only at h
 obtain ⟨x7, h3, h⟩ := bind_some h
 have ch3 := f113_ok F x1 x3 _ h3
 try dsimp only at h
 obtain rfl := sI h
 exact callOK cxOK cxW Tryd.func76 (by kernel_rfl) (f76_e0 x1 x2 x3 x4 x5 x6 x7) ⟨h1, ⟨x6, h2, rfl⟩, ch3, trivial⟩

theorem f108_p4_ok (F : Nat) (x1 : Int) (x2 : Bool) (x3 : LI) : ∀ (k : Nat) (x6 x7 : Int) (x8 : Bool) (x9 x10 : LI) (r : Int × Bool × (List Int) × (List Int)), f108_p4 F x1 x2 x3 k x6 x7 x8 x9 x10 = some r → f108_p4_P x1 x2 x3 x6 x7 x8 x9 x10 r
 | 0, _, _, _, _, _, _, h => by cases h
 | k + 1, x6, x7, x8, x9, x10, r, h => by
  unfold f108_p4 at h
  by_cases h7 : (decide (x6 < 9)) = true
  ·rw [if_pos h7] at h
   obtain ⟨h8, h⟩ := req_some h
   obtain ⟨h9, h⟩ := req_some h
   exact Lp.again (gRun_ok cxOK (f108_p4_e0 x1 x2 x3 x6 x7 x8 x9 x10) ⟨h7, h8, h9, trivial⟩) (f108_p4_ok F x1 x2 x3 k (w64 (x6 + 1)) x7 x8 x9 (List.set x10 (0 + ((Int.toNat x6) * 1)) (-1)) r h)
  ·rw [if_neg h7] at h
   have h7 := eF h7
   obtain rfl := sI h
   exact Lp.out (gRun_ok cxOK (f108_p4_e1 x1 x2 x3 x6 x7 x8 x9 x10) ⟨h7, trivial⟩) (by intro hh; cases hh)
theorem f108_p12_1_ok (F : Nat) (x21 x28 : Int) (x3 : LI) (x31 x1 : Int) (x2 : Bool) (x22 : Int) (x23 : Bool) (x24 x25 x26 : LI) (x30 : Int) (x27 : LI) (r : (List Int)) (h : f108_p12_1 F x21 x28 x3 x31 x1 x2 x22 x23 x24 x25 x26 x30 x27 = some r) : f108_p12_1_P x21 x28 x3 x31 x1 x2 x22 x23 x24 x25 x26 x30 x27 r := by
 unfold f108_p12_1 at h
 by_cases h33 : (x31 == 1) = true
 ·rw [if_pos h33] at h
  obtain ⟨h34, h⟩ := req_some h
  obtain ⟨h35, h⟩ := req_some h
  obtain rfl := sI h
  exact gRun_ok cxOK (f108_p12_1_e0 x1 x2 x3 x21 x22 x23 x24 x25 x26 x27 x28 x30 x31) ⟨h33, h34, h35, trivial⟩
 ·rw [if_neg h33] at h
  have h33 := eF h33
  obtain rfl := sI h
  exact gRun_ok cxOK (f108_p12_1_e1 x1 x2 x3 x21 x22 x23 x24 x25 x26 x27 x28 x30 x31) ⟨h33, trivial⟩
theorem f108_p8_ok (F : Nat) (x3 : LI) (x1 : Int) (x2 : Bool) : ∀ (k : Nat) (x21 x22 : Int) (x23 : Bool) (x24 x25 : LI) (x26 x27 : LI) (r : f108_p8_R), f108_p8 F x3 x1 x2 k x21 x22 x23 x24 x25 x26 x27 = some r → f108_p8_P x3 x1 x2 x21 x22 x23 x24 x25 x26 x27 r
 | 0, _, _, _, _, _, _, _, _, h => by cases h
 | k + 1, x21, x22, x23, x24, x25, x26, x27, r, h => by
  unfold f108_p8 at h
  by_cases h25 : (decide (x21 < ((List.length x3 : Nat) : Int))) = true
  ·rw [if_pos h25] at h
   obtain ⟨x28, h26, h⟩ := bind_some h
   try dsimp only at h
   obtain ⟨x29, h27, h⟩ := bind_some h
   have ch27 := f77_ok F 0 x28 x1 _ h27
   try dsimp only at h
   by_cases h28 : x29 = true
   ·rw [if_pos h28] at h
    obtain ⟨h29, h⟩ := req_some h
    obtain ⟨x30, h30, h⟩ := bind_some h
    try dsimp only at h
    obtain ⟨h31, h⟩ := req_some h
    obtain ⟨x31, h32, h⟩ := bind_some h
    try dsimp only at h
    obtain ⟨x32, h36, h⟩ := bind_some h
    have ch36 := f108_p12_1_ok F x21 x28 x3 x31 x1 x2 x22 x23 x24 x25 x26 x30 x27 _ h36
    try dsimp only at h
    obtain ⟨h37, h⟩ := req_some h
    obtain ⟨h38, h⟩ := req_some h
    exact Lp.again (gRun_ok cxOK (f108_p8_e0 x1 x2 x3 x21 x22 x23 x24 x25 x26 x27 x28 x29 x30 x31 x32) ⟨h25, ⟨(at?_spec h26).1, x28, (at?_spec h26).2, rfl⟩, ch27, (by rw [h28]; rfl), h29, ⟨x30, h30, rfl⟩, h29, h31, h29, ⟨x31, h32, rfl⟩, ch36, h29, h31, h37, h38, trivial⟩) (f108_p8_ok F x3 x1 x2 k (w64 (x21 + 1)) x22 x23 (List.set x24 (0 + ((Int.toNat x21) * 1)) x28) x32 (List.set x26 (0 + ((Int.toNat x28) * 1)) (w64 (x30 + 1))) (List.set x27 (0 + ((Int.toNat x28) * 1)) x21) r h)
   ·rw [if_neg h28] at h
    have h28 := eF h28
    obtain rfl := sI h
    exact Lp.out (gRun_ok cxOK (f108_p8_e1 x1 x2 x3 x21 x22 x23 x24 x25 x26 x27 x28 x29) ⟨h25, ⟨(at?_spec h26).1, x28, (at?_spec h26).2, rfl⟩, ch27, (by rw [h28]; rfl), trivial⟩) (by intro hh; cases hh)
  ·rw [if_neg h25] at h
   have h25 := eF h25
   obtain rfl := sI h
   exact Lp.out (gRun_ok cxOK (f108_p8_e2 x1 x2 x3 x21 x22 x23 x24 x25 x26 x27) ⟨h25, trivial⟩) (by intro hh; cases hh)
theorem f108_p14_ok (F : Nat) (x1 : Int) (x2 : Bool) (x3 : LI) (x33 : Int) (x34 : Bool) (x35 x36 : LI) (x37 x38 : LI) : ∀ (k : Nat) (x39 : Int) (r : f108_p14_R), f108_p14 F x1 x2 x3 x33 x34 x35 x36 x37 x38 k x39 = some r → f108_p14_P x1 x2 x3 x33 x34 x35 x36 x37 x38 x39 r
 | 0, _, _, h => by cases h
 | k + 1, x39, r, h => by
  unfold f108_p14 at h
  by_cases h40 : (decide (x39 ≤ x1)) = true
  ·rw [if_pos h40] at h
   obtain ⟨h41, h⟩ := req_some h
   obtain ⟨x40, h42, h⟩ := bind_some h
   try dsimp only at h
   by_cases h43 : (decide (x40 > 2)) = true
   ·rw [if_pos h43] at h
    obtain rfl := sI h
    exact Lp.out (gRun_ok cxOK (f108_p14_e0 x1 x2 x3 x33 x34 x35 x36 x37 x38 x39 x40) ⟨h40, h41, ⟨x40, h42, rfl⟩, h43, trivial⟩) (by intro hh; cases hh)
   ·rw [if_neg h43] at h
    have h43 := eF h43
    by_cases h44 : (x40 == 1) = true
    ·rw [if_pos h44] at h
     obtain rfl := sI h
     exact Lp.out (gRun_ok cxOK (f108_p14_e1 x1 x2 x3 x33 x34 x35 x36 x37 x38 x39 x40) ⟨h40, h41, ⟨x40, h42, rfl⟩, h43, h41, ⟨x40, h42, rfl⟩, h44, trivial⟩) (by intro hh; cases hh)
    ·rw [if_neg h44] at h
     have h44 := eF h44
     by_cases h45 : (x40 == 2) = true
     ·rw [if_pos h45] at h
      obtain ⟨x41, h46, h⟩ := bind_some h
      try dsimp only at h
      obtain ⟨x42, h47, h⟩ := bind_some h
      have ch47 := f76_ok F x39 x33 x34 x35 x36 _ h47
      try dsimp only at h
      by_cases h48 : (x41 != x42) = true
      ·rw [if_pos h48] at h
       obtain rfl := sI h
       exact Lp.out (gRun_ok cxOK (f108_p14_e2 x1 x2 x3 x33 x34 x35 x36 x37 x38 x39 x40 x41 x42) ⟨h40, h41, ⟨x40, h42, rfl⟩, h43, h41, ⟨x40, h42, rfl⟩, h44, h41, ⟨x40, h42, rfl⟩, h45, h45, h41, h45, ⟨x41, h46, rfl⟩, h45, h45, h45, ch47, h45, h45, h48, trivial⟩) (by intro hh; cases hh)
      ·rw [if_neg h48] at h
       have h48 := eF h48
       exact Lp.again (gRun_ok cxOK (f108_p14_e3 x1 x2 x3 x33 x34 x35 x36 x37 x38 x39 x40 x41 x42) ⟨h40, h41, ⟨x40, h42, rfl⟩, h43, h41, ⟨x40, h42, rfl⟩, h44, h41, ⟨x40, h42, rfl⟩, h45, h45, h41, h45, ⟨x41, h46, rfl⟩, h45, h45, h45, ch47, h45, h45, h48, trivial⟩) (f108_p14_ok F x1 x2 x3 x33 x34 x35 x36 x37 x38 k (w64 (x39 + 1)) r h)
     ·rw [if_neg h45] at h
      have h45 := eF h45
      exact Lp.again (gRun_ok cxOK (f108_p14_e4 x1 x2 x3 x33 x34 x35 x36 x37 x38 x39 x40) ⟨h40, h41, ⟨x40, h42, rfl⟩, h43, h41, ⟨x40, h42, rfl⟩, h44, h41, ⟨x40, h42, rfl⟩, h45, h45, h45, h45, h45, h45, h45, h45, rfl, trivial⟩) (f108_p14_ok F x1 x2 x3 x33 x34 x35 x36 x37 x38 k (w64 (x39 + 1)) r h)
  ·rw [if_neg h40] at h
   have h40 := eF h40
   obtain rfl := sI h
   exact Lp.out (gRun_ok cxOK (f108_p14_e5 x1 x2 x3 x33 x34 x35 x36 x37 x38 x39) ⟨h40, trivial⟩) (by intro hh; cases hh)
theorem f108_ok (F : Nat) (x1 : Int) (x2 : Bool) (x3 : LI) (r : f108_R) (h : f108 F x1 x2 x3 = some r) : f108_C x1 x2 x3 r := by
 unfold f108 at h
 obtain ⟨x4, h1, h⟩ := bind_some h
 have ch1 := f77_ok F 1 x1 8 _ h1
 try dsimp only at h
 by_cases h2 : x4 = true
 ·rw [if_pos h2] at h
  by_cases h3 : (((List.length x3 : Nat) : Int) != (w64 (2 * x1))) = true
  ·rw [if_pos h3] at h
   obtain rfl := sI h
   exact callOK cxOK cxW Tryd.func108 (by kernel_rfl) (f108_e0 x1 x2 x3 x4) ⟨ch1, (by rw [h2]; rfl), h3, trivial⟩
  ·rw [if_neg h3] at h
   have h3 := eF h3
   obtain ⟨rh10, h10, h⟩ := bind_some h
   have ch10 := f108_p4_ok F x1 x2 x3 F 0 x1 x2 (List.replicate 16 0) (List.replicate 9 0) _ h10
   obtain ⟨x11, x12, x13, x14⟩ := rh10
   try dsimp only at h
   obtain ⟨rh39, h39, h⟩ := bind_some h
   have ch39 := f108_p8_ok F x3 x1 x2 F 0 x11 x12 x13 x14 (List.replicate 9 0) (List.replicate 9 0) _ h39
   cases rh39 with
   | c0 =>
    try dsimp only at h
    obtain rfl := sI h
    exact callOK cxOK cxW Tryd.func108 (by kernel_rfl) (f108_e1 x1 x2 x3 x4 x11 x12 x13 x14) ⟨ch1, (by rw [h2]; rfl), h3, ch10, ch39, trivial⟩
   | c1 x33 x34 x35 x36 x37 x38 =>
    try dsimp only at h
    obtain ⟨rh49, h49, h⟩ := bind_some h
    have ch49 := f108_p14_ok F x1 x2 x3 x33 x34 x35 x36 x37 x38 F 1 _ h49
    cases rh49 with
    | c0 x43 =>
     try dsimp only at h
     obtain rfl := sI h
     exact callOK cxOK cxW Tryd.func108 (by kernel_rfl) (f108_e2 x1 x2 x3 x4 x11 x12 x13 x14 x33 x34 x35 x36 x37 x38 x43) ⟨ch1, (by rw [h2]; rfl), h3, ch10, ch39, ch49, trivial⟩
    | c1 =>
     try dsimp only at h
     obtain rfl := sI h
     exact callOK cxOK cxW Tryd.func108 (by kernel_rfl) (f108_e3 x1 x2 x3 x4 x11 x12 x13 x14 x33 x34 x35 x36 x37 x38) ⟨ch1, (by rw [h2]; rfl), h3, ch10, ch39, ch49, trivial⟩
 ·rw [if_neg h2] at h
  have h2 := eF h2
  obtain rfl := sI h
  exact callOK cxOK cxW Tryd.func108 (by kernel_rfl) (f108_e4 x1 x2 x3 x4) ⟨ch1, (by rw [h2]; rfl), trivial⟩

theorem f75_ok (F : Nat) (x1 : Int) (x2 : Bool) (x3 : LI) (x4 : Int) (r : f75_R) (h : f75 F x1 x2 x3 x4 = some r) : f75_C x1 x2 x3 x4 r := by
 unfold f75 at h
 obtain ⟨rh1, h1, h⟩ := bind_some h
 have ch1 := f108_ok F x1 x2 x3 _ h1
 cases rh1 with
 | c0 x5 =>
  try dsimp only at h
  by_cases h2 : (x5 != 0) = true
  ·rw [if_pos h2] at h
   obtain rfl := sI h
   exact callOK cxOK cxW Tryd.func75 (by kernel_rfl) (f75_e0 x1 x2 x3 x4 x5) ⟨ch1, h2, trivial⟩
  ·rw [if_neg h2] at h
   have h2 := eF h2
   cases h
 | c1 x6 x7 x8 x9 x10 =>
  try dsimp only at h
  by_cases h3 : (x6 != 0) = true
  ·rw [if_pos h3] at h
   obtain rfl := sI h
   exact callOK cxOK cxW Tryd.func75 (by kernel_rfl) (f75_e1 x1 x2 x3 x4 x6 x7 x8 x9 x10) ⟨ch1, h3, trivial⟩
  ·rw [if_neg h3] at h
   have h3 := eF h3
   obtain ⟨x11, h4, h⟩ := bind_some h
   have ch4 := f77_ok F 1 x4 x7 _ h4
   try dsimp only at h
   by_cases h5 : x11 = true
   ·rw [if_pos h5] at h
    obtain ⟨h6, h⟩ := req_some h
    obtain ⟨x12, h7, h⟩ := bind_some h
    try dsimp only at h
    by_cases h8 : (decide (x12 < 0)) = true
    ·rw [if_pos h8] at h
     obtain rfl := sI h
     exact callOK cxOK cxW Tryd.func75 (by kernel_rfl) (f75_e2 x1 x2 x3 x4 x6 x7 x8 x9 x10 x11 x12) ⟨ch1, h3, ch4, (by rw [h5]; rfl), h6, ⟨x12, h7, rfl⟩, h8, trivial⟩
    ·rw [if_neg h8] at h
     have h8 := eF h8
     obtain rfl := sI h
     exact callOK cxOK cxW Tryd.func75 (by kernel_rfl) (f75_e3 x1 x2 x3 x4 x6 x7 x8 x9 x10 x11 x12) ⟨ch1, h3, ch4, (by rw [h5]; rfl), h6, ⟨x12, h7, rfl⟩, h8, trivial⟩
   ·rw [if_neg h5] at h
    have h5 := eF h5
    obtain rfl := sI h
    exact callOK cxOK cxW Tryd.func75 (by kernel_rfl) (f75_e4 x1 x2 x3 x4 x6 x7 x8 x9 x10 x11) ⟨ch1, h3, ch4, (by rw [h5]; rfl), trivial⟩

theorem f37_p6_1_ok (F : Nat) (x4 x11 x12 : Int) (x18 : LI) (x19 : Int) (x22 x23 : Bool) (x7 : Int) (x8 : Bool) (x9 x10 : LI) (r : (List Int)) (h : f37_p6_1 F x4 x11 x12 x18 x19 x22 x23 x7 x8 x9 x10 = some r) : f37_p6_1_P x4 x11 x12 x18 x19 x22 x23 x7 x8 x9 x10 r := by
 unfold f37_p6_1 at h
 by_cases h26 : (x22 == x23) = true
 ·rw [if_pos h26] at h
  obtain rfl := sI h
  exact gRun_ok cxOK (f37_p6_1_e0 x4 x7 x8 x9 x10 x11 x12 x18 x19 x22 x23) ⟨(by rw [h26]; rfl), trivial⟩
 ·rw [if_neg h26] at h
  have h26 := eF h26
  obtain ⟨h27, h⟩ := req_some h
  obtain rfl := sI h
  exact gRun_ok cxOK (f37_p6_1_e1 x4 x7 x8 x9 x10 x11 x12 x18 x19 x22 x23) ⟨(by rw [h26]; rfl), h27, rfl, trivial⟩
theorem f37_p2_ok (F : Nat) (x4 x11 : Int) (x12 x7 : Int) (x8 : Bool) (x9 x10 : LI) : ∀ (k : Nat) (x19 : Int) (x18 : LI) (r : (List Int)), f37_p2 F x4 x11 x12 x7 x8 x9 x10 k x19 x18 = some r → f37_p2_P x4 x11 x12 x7 x8 x9 x10 x19 x18 r
 | 0, _, _, _, h => by cases h
 | k + 1, x19, x18, r, h => by
  unfold f37_p2 at h
  by_cases h18 : (decide (x19 ≤ x7)) = true
  ·rw [if_pos h18] at h
   obtain ⟨h19, h⟩ := req_some h
   obtain ⟨x20, h20, h⟩ := bind_some h
   try dsimp only at h
   by_cases h21 : (decide (x20 < 0)) = true
   ·rw [if_pos h21] at h
    exact Lp.again (gRun_ok cxOK (f37_p2_e0 x4 x7 x8 x9 x10 x11 x12 x18 x19 x20) ⟨h18, h19, ⟨x20, h20, rfl⟩, h21, h21, h21, h21, rfl, trivial⟩) (f37_p2_ok F x4 x11 x12 x7 x8 x9 x10 k (w64 (x19 + 1)) x18 r h)
   ·rw [if_neg h21] at h
    have h21 := eF h21
    by_cases h22 : (x19 == x4) = true
    ·rw [if_pos h22] at h
     exact Lp.again (gRun_ok cxOK (f37_p2_e1 x4 x7 x8 x9 x10 x11 x12 x18 x19 x20) ⟨h18, h19, ⟨x20, h20, rfl⟩, h21, h21, h21, h21, h22, trivial⟩) (f37_p2_ok F x4 x11 x12 x7 x8 x9 x10 k (w64 (x19 + 1)) x18 r h)
    ·rw [if_neg h22] at h
     have h22 := eF h22
     obtain ⟨x21, h23, h⟩ := bind_some h
     have ch23 := f76_ok F x19 x7 x8 x9 x10 _ h23
     try dsimp only at h
     obtain ⟨x22, h24, h⟩ := bind_some h
     have ch24 := f77_ok F x11 x20 x12 _ h24
     try dsimp only at h
     obtain ⟨x23, h25, h⟩ := bind_some h
     have ch25 := f77_ok F x11 x21 x12 _ h25
     try dsimp only at h
     obtain ⟨x24, h28, h⟩ := bind_some h
     have ch28 := f37_p6_1_ok F x4 x11 x12 x18 x19 x22 x23 x7 x8 x9 x10 _ h28
     try dsimp only at h
     exact Lp.again (gRun_ok cxOK (f37_p2_e2 x4 x7 x8 x9 x10 x11 x12 x18 x19 x20 x21 x22 x23 x24) ⟨h18, h19, ⟨x20, h20, rfl⟩, h21, h21, h21, h21, h22, h19, ⟨x20, h20, rfl⟩, ch23, ch24, ch25, ch28, trivial⟩) (f37_p2_ok F x4 x11 x12 x7 x8 x9 x10 k (w64 (x19 + 1)) x24 r h)
  ·rw [if_neg h18] at h
   have h18 := eF h18
   obtain rfl := sI h
   exact Lp.out (gRun_ok cxOK (f37_p2_e3 x4 x7 x8 x9 x10 x11 x12 x18 x19) ⟨h18, trivial⟩) (by intro hh; cases hh)
theorem f37_ok (F : Nat) (x1 : Int) (x2 : Bool) (x3 : LI) (x4 : Int) (r : (List Int) × Int) (h : f37 F x1 x2 x3 x4 = some r) : f37_C x1 x2 x3 x4 r := by
 unfold f37 at h
 obtain ⟨rh1, h1, h⟩ := bind_some h
 have ch1 := f75_ok F x1 x2 x3 x4 _ h1
 cases rh1 with
 | c0 x5 =>
  try dsimp only at h
  by_cases h2 : (x5 != 0) = true
  ·rw [if_pos h2] at h
   obtain rfl := sI h
   exact callOK cxOK cxW Tryd.func37 (by kernel_rfl) (f37_e0 x1 x2 x3 x4 x5) ⟨ch1, h2, trivial⟩
  ·rw [if_neg h2] at h
   have h2 := eF h2
   cases h
 | c1 x6 x7 x8 x9 x10 =>
  try dsimp only at h
  by_cases h3 : (x6 != 0) = true
  ·rw [if_pos h3] at h
   obtain rfl := sI h
   exact callOK cxOK cxW Tryd.func37 (by kernel_rfl) (f37_e1 x1 x2 x3 x4 x6 x7 x8 x9 x10) ⟨ch1, h3, trivial⟩
  ·rw [if_neg h3] at h
   have h3 := eF h3
   obtain ⟨h4, h⟩ := req_some h
   obtain ⟨x11, h5, h⟩ := bind_some h
   try dsimp only at h
   obtain ⟨x12, h6, h⟩ := bind_some h
   have ch6 := f76_ok F x4 x7 x8 x9 x10 _ h6
   try dsimp only at h
   obtain ⟨x25, h29, h⟩ := bind_some h
   have ch29 := f37_p2_ok F x4 x11 x12 x7 x8 x9 x10 F 1 ([] : List Int) _ h29
   try dsimp only at h
   obtain rfl := sI h
   exact callOK cxOK cxW Tryd.func37 (by kernel_rfl) (f37_e2 x1 x2 x3 x4 x6 x7 x8 x9 x10 x11 x12 x25) ⟨ch1, h3, h4, ⟨x11, h5, rfl⟩, ch6, ch29, (Nat.le_of_eq (Nat.zero_add _)), trivial⟩

theorem f57_ok (F : Nat) (x1 x2 x3 : Int) (r : Bool) (h : f57 F x1 x2 x3 = some r) : f57_C x1 x2 x3 r := by
 unfold f57 at h
 by_cases h1 : (decide (x1 ≥ x2)) = true
 ·rw [if_pos h1] at h
  obtain rfl := sI h
  exact callOK cxOK cxW Tryd.func57 (by kernel_rfl) (f57_e0 x1 x2 x3) ⟨h1, h1, h1, h1, trivial⟩
 ·rw [if_neg h1] at h
  have h1 := eF h1
  obtain rfl := sI h
  exact callOK cxOK cxW Tryd.func57 (by kernel_rfl) (f57_e1 x1 x2 x3) ⟨h1, h1, h1, h1, trivial⟩

theorem f124_p4_ok (F : Nat) (x1 : LI) : ∀ (k : Nat) (x2 x3 : Int) (r : f124_p4_R), f124_p4 F x1 k x2 x3 = some r → f124_p4_P x1 x2 x3 r
 | 0, _, _, _, h => by cases h
 | k + 1, x2, x3, r, h => by
  unfold f124_p4 at h
  by_cases h3 : (decide (x3 < ((List.length x1 : Nat) : Int))) = true
  ·rw [if_pos h3] at h
   obtain ⟨x4, h4, h⟩ := bind_some h
   try dsimp only at h
   obtain ⟨x5, h5, h⟩ := bind_some h
   have ch5 := f57_ok F x4 1 30 _ h5
   try dsimp only at h
   by_cases h6 : x5 = true
   ·rw [if_pos h6] at h
    by_cases h7 : (decide (x4 ≤ x2)) = true
    ·rw [if_pos h7] at h
     obtain rfl := sI h
     exact Lp.out (gRun_ok cxOK (f124_p4_e0 x1 x2 x3 x4 x5) ⟨h3, ⟨(at?_spec h4).1, x4, (at?_spec h4).2, rfl⟩, ch5, (by rw [h6]; rfl), h7, trivial⟩) (by intro hh; cases hh)
    ·rw [if_neg h7] at h
     have h7 := eF h7
     exact Lp.again (gRun_ok cxOK (f124_p4_e1 x1 x2 x3 x4 x5) ⟨h3, ⟨(at?_spec h4).1, x4, (at?_spec h4).2, rfl⟩, ch5, (by rw [h6]; rfl), h7, trivial⟩) (f124_p4_ok F x1 k x4 (w64 (x3 + 1)) r h)
   ·rw [if_neg h6] at h
    have h6 := eF h6
    obtain rfl := sI h
    exact Lp.out (gRun_ok cxOK (f124_p4_e2 x1 x2 x3 x4 x5) ⟨h3, ⟨(at?_spec h4).1, x4, (at?_spec h4).2, rfl⟩, ch5, (by rw [h6]; rfl), trivial⟩) (by intro hh; cases hh)
  ·rw [if_neg h3] at h
   have h3 := eF h3
   obtain rfl := sI h
   exact Lp.out (gRun_ok cxOK (f124_p4_e3 x1 x2 x3) ⟨h3, trivial⟩) (by intro hh; cases hh)
theorem f124_ok (F : Nat) (x1 : LI) (r : Int) (h : f124 F x1 = some r) : f124_C x1 r := by
 unfold f124 at h
 by_cases h1 : (((List.length x1 : Nat) : Int) == 0) = true
 ·rw [if_pos h1] at h
  obtain rfl := sI h
  exact callOK cxOK cxW Tryd.func124 (by kernel_rfl) (f124_e0 x1) ⟨h1, trivial⟩
 ·rw [if_neg h1] at h
  have h1 := eF h1
  by_cases h2 : (decide (((List.length x1 : Nat) : Int) > 5)) = true
  ·rw [if_pos h2] at h
   obtain rfl := sI h
   exact callOK cxOK cxW Tryd.func124 (by kernel_rfl) (f124_e1 x1) ⟨h1, h2, trivial⟩
  ·rw [if_neg h2] at h
   have h2 := eF h2
   obtain ⟨rh8, h8, h⟩ := bind_some h
   have ch8 := f124_p4_ok F x1 F 0 0 _ h8
   cases rh8 with
   | c0 x6 =>
    try dsimp only at h
    obtain rfl := sI h
    exact callOK cxOK cxW Tryd.func124 (by kernel_rfl) (f124_e2 x1 x6) ⟨h1, h2, ch8, trivial⟩
   | c1 =>
    try dsimp only at h
    obtain rfl := sI h
    exact callOK cxOK cxW Tryd.func124 (by kernel_rfl) (f124_e3 x1) ⟨h1, h2, ch8, trivial⟩

theorem f125_p0_ok (F : Nat) (x1 : LI) (r : Unit) (h : f125_p0 F x1 = some r) : f125_p0_P x1 r := by
 unfold f125_p0 at h
 by_cases h1 : (decide (((List.length x1 : Nat) : Int) < 1)) = true
 ·rw [if_pos h1] at h
  cases h
 ·rw [if_neg h1] at h
  have h1 := eF h1
  obtain rfl := sI h
  exact gRun_ok cxOK (f125_p0_e0 x1) ⟨h1, trivial⟩
theorem f125_p2_ok (F : Nat) (x1 : LI) : ∀ (k : Nat) (x3 x4 : Int) (r : Int), f125_p2 F x1 k x3 x4 = some r → f125_p2_P x1 x3 x4 r
 | 0, _, _, _, h => by cases h
 | k + 1, x3, x4, r, h => by
  unfold f125_p2 at h
  by_cases h4 : (decide (x4 < ((List.length x1 : Nat) : Int))) = true
  ·rw [if_pos h4] at h
   obtain ⟨x5, h5, h⟩ := bind_some h
   try dsimp only at h
   exact Lp.again (gRun_ok cxOK (f125_p2_e0 x1 x3 x4 x5) ⟨h4, ⟨(at?_spec h5).1, x5, (at?_spec h5).2, rfl⟩, trivial⟩) (f125_p2_ok F x1 k (if x5 < x3 then x5 else x3) (w64 (x4 + 1)) r h)
  ·rw [if_neg h4] at h
   have h4 := eF h4
   obtain rfl := sI h
   exact Lp.out (gRun_ok cxOK (f125_p2_e1 x1 x3 x4) ⟨h4, trivial⟩) (by intro hh; cases hh)
theorem f125_ok (F : Nat) (x1 : LI) (r : Int) (h : f125 F x1 = some r) : f125_C x1 r := by
 unfold f125 at h
 obtain ⟨rh2, h2, h⟩ := bind_some h
 have ch2 := f125_p0_ok F x1 _ h2
 try dsimp only at h
 obtain ⟨x2, h3, h⟩ := bind_some h
 try dsimp only at h
 obtain ⟨x6, h6, h⟩ := bind_some h
 have ch6 := f125_p2_ok F x1 F x2 1 _ h6
 try dsimp only at h
 obtain rfl := sI h
 exact callOK cxOK cxW Tryd.func125 (by kernel_rfl) (f125_e0 x1 x2 x6) ⟨ch2, ⟨(at?_spec h3).1, x2, (at?_spec h3).2, rfl⟩, ch6, trivial⟩

theorem f95_ok (F : Nat) (x1 x2 : LI) (r : (List Int) × (List Int) × Int) (h : f95 F x1 x2 = some r) : f95_C x1 x2 r := by
 unfold f95 at h
 obtain ⟨x3, h1, h⟩ := bind_some h
 have ch1 := f124_ok F x1 _ h1
 try dsimp only at h
 by_cases h2 : (x3 != 0) = true
 ·rw [if_pos h2] at h
  obtain rfl := sI h
  exact callOK cxOK cxW Tryd.func95 (by kernel_rfl) (f95_e0 x1 x2 x3) ⟨ch1, h2, trivial⟩
 ·rw [if_neg h2] at h
  have h2 := eF h2
  by_cases h3 : (((List.length x2 : Nat) : Int) != ((List.length x1 : Nat) : Int)) = true
  ·rw [if_pos h3] at h
   obtain rfl := sI h
   exact callOK cxOK cxW Tryd.func95 (by kernel_rfl) (f95_e1 x1 x2 x3) ⟨ch1, h2, h3, trivial⟩
  ·rw [if_neg h3] at h
   have h3 := eF h3
   obtain ⟨x4, h4, h⟩ := bind_some h
   have ch4 := f125_ok F x2 _ h4
   try dsimp only at h
   by_cases h5 : (decide (x4 < 0)) = true
   ·rw [if_pos h5] at h
    obtain rfl := sI h
    exact callOK cxOK cxW Tryd.func95 (by kernel_rfl) (f95_e2 x1 x2 x3 x4) ⟨ch1, h2, h3, ch4, h5, h5, h5, h5, rfl, trivial⟩
   ·rw [if_neg h5] at h
    have h5 := eF h5
    obtain ⟨x5, h6, h⟩ := bind_some h
    have ch6 := f32_ok F x2 _ h6
    try dsimp only at h
    by_cases h7 : (decide (x5 > 40)) = true
    ·rw [if_pos h7] at h
     obtain rfl := sI h
     exact callOK cxOK cxW Tryd.func95 (by kernel_rfl) (f95_e3 x1 x2 x3 x4 x5) ⟨ch1, h2, h3, ch4, h5, h5, ch6, h5, h5, h7, trivial⟩
    ·rw [if_neg h7] at h
     have h7 := eF h7
     obtain rfl := sI h
     exact callOK cxOK cxW Tryd.func95 (by kernel_rfl) (f95_e4 x1 x2 x3 x4 x5) ⟨ch1, h2, h3, ch4, h5, h5, ch6, h5, h5, h7, trivial⟩

theorem f55_p0_ok (F : Nat) (x6 : Int) (x7 : Bool) (x4 x5 : LI) (r : Int) (h : f55_p0 F x6 x7 x4 x5 = some r) : f55_p0_P x6 x7 x4 x5 r := by
 unfold f55_p0 at h
 by_cases h4 : x7 = true
 ·rw [if_pos h4] at h
  obtain rfl := sI h
  exact gRun_ok cxOK (f55_p0_e0 x4 x5 x6 x7) ⟨(by rw [h4]; rfl), trivial⟩
 ·rw [if_neg h4] at h
  have h4 := eF h4
  obtain rfl := sI h
  exact gRun_ok cxOK (f55_p0_e1 x4 x5 x6 x7) ⟨(by rw [h4]; rfl), trivial⟩
theorem f55_ok (F : Nat) (x1 x2 : LI) (x3 : Int) (r : (List Int) × (List Int) × Int) (h : f55 F x1 x2 x3 = some r) : f55_C x1 x2 x3 r := by
 unfold f55 at h
 obtain ⟨rh1, h1, h⟩ := bind_some h
 have ch1 := f95_ok F x1 x2 _ h1
 obtain ⟨x4, x5, x6⟩ := rh1
 try dsimp only at h
 by_cases h2 : (x6 == 0) = true
 ·rw [if_pos h2] at h
  obtain ⟨x7, h3, h⟩ := bind_some h
  have ch3 := f57_ok F x3 0 1000 _ h3
  try dsimp only at h
  obtain ⟨x8, h5, h⟩ := bind_some h
  have ch5 := f55_p0_ok F x6 x7 x4 x5 _ h5
  try dsimp only at h
  obtain rfl := sI h
  exact callOK cxOK cxW Tryd.func55 (by kernel_rfl) (f55_e0 x1 x2 x3 x4 x5 x6 x7 x8) ⟨ch1, h2, h2, ch3, h2, h2, ch5, trivial⟩
 ·rw [if_neg h2] at h
  have h2 := eF h2
  obtain rfl := sI h
  exact callOK cxOK cxW Tryd.func55 (by kernel_rfl) (f55_e1 x1 x2 x3 x4 x5 x6) ⟨ch1, h2, h2, h2, h2, rfl, trivial⟩

theorem f141_1_ok (F : Nat) (x1 : Int) (x2 : LI) (x3 x4 x5 : Int) (r : Int) (h : f141_1 F x1 x2 x3 x4 x5 = some r) : f141_1_C x1 x2 x3 x4 x5 r := by
 unfold f141_1 at h
 obtain ⟨x6, h1, h⟩ := bind_some h
 try dsimp only at h
 obtain rfl := sI h
 exact callOK cxOK cxW Tryd.func141 (by kernel_rfl) (f141_1_e0 x1 x2 x3 x4 x5 x6) ⟨⟨(at?_spec h1).1, x6, (at?_spec h1).2, rfl⟩, trivial⟩

theorem f123_p1_ok (F : Nat) (x3 : Int) (x1 x2 : LI) : ∀ (k : Nat) (x6 : Int) (x5 : LI) (r : (List Int)), f123_p1 F x3 x1 x2 k x6 x5 = some r → f123_p1_P x3 x1 x2 x6 x5 r
 | 0, _, _, _, h => by cases h
 | k + 1, x6, x5, r, h => by
  unfold f123_p1 at h
  by_cases h5 : (decide (x6 < (((Int.toNat (w64 (x3 + 1))) : Nat) : Int))) = true
  ·rw [if_pos h5] at h
   obtain ⟨h6, h⟩ := req_some h
   obtain ⟨h7, h⟩ := req_some h
   exact Lp.again (gRun_ok cxOK (f123_p1_e0 x1 x2 x3 x5 x6) ⟨h5, h6, h7, trivial⟩) (f123_p1_ok F x3 x1 x2 k (w64 (x6 + 1)) (List.set x5 (0 + (Int.toNat x6)) 1001) r h)
  ·rw [if_neg h5] at h
   have h5 := eF h5
   obtain rfl := sI h
   exact Lp.out (gRun_ok cxOK (f123_p1_e1 x1 x2 x3 x5 x6) ⟨h5, trivial⟩) (by intro hh; cases hh)
theorem f123_p17_17_ok (F : Nat) (x3 : Int) (x1 : LI) (x134 x137 : Int) (x136 x167 : Int) (x2 x135 : LI) (x133 : LL) (x179 x180 : LI) (x182 : Int) : ∀ (k : Nat) (x183 : LI) (r : (List Int)), f123_p17_17 F x3 x1 x134 x137 x136 x167 x2 x135 x133 x179 x180 x182 k x183 = some r → f123_p17_17_P x3 x1 x134 x137 x136 x167 x2 x135 x133 x179 x180 x182 x183 r
 | 0, _, _, h => by cases h
 | k + 1, x183, r, h => by
  unfold f123_p17_17 at h
  by_cases h343 : (decide ((((List.length x183) : Nat) : Int) > 0)) = true
  ·rw [if_pos h343] at h
   obtain ⟨h344, h⟩ := req_some h
   obtain ⟨x184, h345, h⟩ := bind_some h
   try dsimp only at h
   obtain ⟨x185, h346, h⟩ := bind_some h
   have ch346 := f141_1_ok F x184 x135 x136 x167 x182 _ h346
   try dsimp only at h
   obtain ⟨x186, h347, h⟩ := bind_some h
   have ch347 := f141_1_ok F x182 x135 x136 x167 x182 _ h347
   try dsimp only at h
   by_cases h348 : (decide (x185 ≥ x186)) = true
   ·rw [if_pos h348] at h
    obtain ⟨h349, h⟩ := req_some h
    obtain ⟨h350, h⟩ := req_some h
    exact Lp.again (gRun_ok cxOK (f123_p17_17_e0 x1 x2 x3 x133 x134 x135 x136 x137 x167 x179 x180 x182 x183 x184 x185 x186) ⟨h343, h343, h343, h343, h343, h343, h344, h343, ⟨x184, h345, rfl⟩, h343, ch346, h343, h343, h343, ch347, h343, h343, h348, h349, (Nat.le_refl _), h350, trivial⟩) (f123_p17_17_ok F x3 x1 x134 x137 x136 x167 x2 x135 x133 x179 x180 x182 k (List.drop 0 (List.take (Int.toNat (w64 ((((List.length x183) : Nat) : Int) - 1))) x183)) r h)
   ·rw [if_neg h348] at h
    have h348 := eF h348
    obtain rfl := sI h
    exact Lp.out (gRun_ok cxOK (f123_p17_17_e1 x1 x2 x3 x133 x134 x135 x136 x137 x167 x179 x180 x182 x183 x184 x185 x186) ⟨h343, h343, h343, h343, h343, h343, h344, h343, ⟨x184, h345, rfl⟩, h343, ch346, h343, h343, h343, ch347, h343, h343, h348, trivial⟩) (by intro hh; cases hh)
  ·rw [if_neg h343] at h
   have h343 := eF h343
   obtain rfl := sI h
   exact Lp.out (gRun_ok cxOK (f123_p17_17_e2 x1 x2 x3 x133 x134 x135 x136 x137 x167 x179 x180 x182 x183) ⟨h343, h343, h343, h343, h343, h343, h343, h343, h343, h343, h343, h343, h343, rfl, trivial⟩) (by intro hh; cases hh)
theorem f123_p20_17_ok (F : Nat) (x3 : Int) (x1 : LI) (x134 x137 : Int) (x187 : LI) (x182 x136 : Int) (x167 x188 : Int) (x2 x135 : LI) (x133 : LL) (x179 x180 : LI) (r : (List Int)) (h : f123_p20_17 F x3 x1 x134 x137 x187 x182 x136 x167 x188 x2 x135 x133 x179 x180 = some r) : f123_p20_17_P x3 x1 x134 x137 x187 x182 x136 x167 x188 x2 x135 x133 x179 x180 r := by
 unfold f123_p20_17 at h
 by_cases h355 : (decide (x188 < (w64 (x182 - x137)))) = true
 ·rw [if_pos h355] at h
  obtain ⟨h356, h⟩ := req_some h
  obtain ⟨h357, h⟩ := req_some h
  obtain rfl := sI h
  exact gRun_ok cxOK (f123_p20_17_e0 x1 x2 x3 x133 x134 x135 x136 x137 x167 x179 x180 x182 x187 x188) ⟨h355, h356, (Nat.le_refl _), h357, trivial⟩
 ·rw [if_neg h355] at h
  have h355 := eF h355
  obtain rfl := sI h
  exact gRun_ok cxOK (f123_p20_17_e1 x1 x2 x3 x133 x134 x135 x136 x137 x167 x179 x180 x182 x187 x188) ⟨h355, trivial⟩
theorem f123_p13_5_ok (F : Nat) (x3 : Int) (x1 : LI) (x134 x137 : Int) (x136 x167 : Int) (x2 x135 : LI) (x133 : LL) : ∀ (k : Nat) (x179 x180 : LI) (x182 : Int) (x181 : LI) (r : (List Int) × (List Int)), f123_p13_5 F x3 x1 x134 x137 x136 x167 x2 x135 x133 k x179 x180 x182 x181 = some r → f123_p13_5_P x3 x1 x134 x137 x136 x167 x2 x135 x133 x179 x180 x182 x181 r
 | 0, _, _, _, _, _, h => by cases h
 | k + 1, x179, x180, x182, x181, r, h => by
  unfold f123_p13_5 at h
  by_cases h342 : (decide ((w64 (x167 + (w64 (x182 * x136)))) ≤ x3)) = true
  ·rw [if_pos h342] at h
   obtain ⟨x187, h351, h⟩ := bind_some h
   have ch351 := f123_p17_17_ok F x3 x1 x134 x137 x136 x167 x2 x135 x133 x179 x180 x182 F x181 _ h351
   try dsimp only at h
   obtain ⟨h352, h⟩ := req_some h
   obtain ⟨h353, h⟩ := req_some h
   obtain ⟨x188, h354, h⟩ := bind_some h
   try dsimp only at h
   obtain ⟨x189, h358, h⟩ := bind_some h
   have ch358 := f123_p20_17_ok F x3 x1 x134 x137 x187 x182 x136 x167 x188 x2 x135 x133 x179 x180 _ h358
   try dsimp only at h
   obtain ⟨h359, h⟩ := req_some h
   obtain ⟨x190, h360, h⟩ := bind_some h
   try dsimp only at h
   obtain ⟨x191, h361, h⟩ := bind_some h
   have ch361 := f141_1_ok F x190 x135 x136 x167 x182 _ h361
   try dsimp only at h
   obtain ⟨h362, h⟩ := req_some h
   obtain ⟨h363, h⟩ := req_some h
   obtain ⟨h364, h⟩ := req_some h
   exact Lp.again (gRun_ok cxOK (f123_p13_5_e0 x1 x2 x3 x133 x134 x135 x136 x137 x167 x179 x180 x181 x182 x187 x188 x189 x190 x191) ⟨h342, ch351, h352, rfl, h353, ⟨x188, h354, rfl⟩, ch358, h359, ⟨x190, h360, rfl⟩, ch361, h359, ⟨x190, h360, rfl⟩, h362, h363, h362, h364, trivial⟩) (f123_p13_5_ok F x3 x1 x134 x137 x136 x167 x2 x135 x133 k (List.set x179 (0 + (Int.toNat (w64 (x167 + (w64 (x182 * x136)))))) (if x191 < 1001 then x191 else 1001)) (List.set x180 (0 + (Int.toNat (w64 (x167 + (w64 (x182 * x136)))))) (w64 (x182 - x190))) (w64 (x182 + 1)) x189 r h)
  ·rw [if_neg h342] at h
   have h342 := eF h342
   obtain rfl := sI h
   exact Lp.out (gRun_ok cxOK (f123_p13_5_e1 x1 x2 x3 x133 x134 x135 x136 x137 x167 x179 x180 x181 x182) ⟨h342, trivial⟩) (by intro hh; cases hh)
theorem f123_p9_2_ok (F : Nat) (x3 : Int) (x1 : LI) (x134 x137 x136 : Int) (x2 x135 : LI) (x133 : LL) : ∀ (k : Nat) (x167 : Int) (x165 x166 : LI) (r : (List Int) × (List Int)), f123_p9_2 F x3 x1 x134 x137 x136 x2 x135 x133 k x167 x165 x166 = some r → f123_p9_2_P x3 x1 x134 x137 x136 x2 x135 x133 x167 x165 x166 r
 | 0, _, _, _, _, h => by cases h
 | k + 1, x167, x165, x166, r, h => by
  unfold f123_p9_2 at h
  by_cases h311 : (decide (x167 < (if (w64 (x3 + 1)) < x136 then (w64 (x3 + 1)) else x136))) = true
  ·rw [if_pos h311] at h
   obtain ⟨rh365, h365, h⟩ := bind_some h
   have ch365 := f123_p13_5_ok F x3 x1 x134 x137 x136 x167 x2 x135 x133 F x165 x166 0 ([] : List Int) _ h365
   obtain ⟨x192, x193⟩ := rh365
   try dsimp only at h
   exact Lp.again (gRun_ok cxOK (f123_p9_2_e0 x1 x2 x3 x133 x134 x135 x136 x137 x165 x166 x167 x192 x193) ⟨h311, ch365, trivial⟩) (f123_p9_2_ok F x3 x1 x134 x137 x136 x2 x135 x133 k (w64 (x167 + 1)) x192 x193 r h)
  ·rw [if_neg h311] at h
   have h311 := eF h311
   obtain rfl := sI h
   exact Lp.out (gRun_ok cxOK (f123_p9_2_e1 x1 x2 x3 x133 x134 x135 x136 x137 x165 x166 x167) ⟨h311, trivial⟩) (by intro hh; cases hh)
theorem f123_p5_ok (F : Nat) (x3 : Int) (x1 x2 : LI) : ∀ (k : Nat) (x134 : Int) (x135 : LI) (x133 : LL) (r : (List Int) × (List (List Int))), f123_p5 F x3 x1 x2 k x134 x135 x133 = some r → f123_p5_P x3 x1 x2 x134 x135 x133 r
 | 0, _, _, _, _, h => by cases h
 | k + 1, x134, x135, x133, r, h => by
  unfold f123_p5 at h
  by_cases h253 : (decide (x134 ≥ 0)) = true
  ·rw [if_pos h253] at h
   obtain ⟨x136, h254, h⟩ := bind_some h
   try dsimp only at h
   obtain ⟨x137, h255, h⟩ := bind_some h
   try dsimp only at h
   obtain ⟨h256, h⟩ := req_some h
   obtain ⟨rh366, h366, h⟩ := bind_some h
   have ch366 := f123_p9_2_ok F x3 x1 x134 x137 x136 x2 x135 x133 F 0 (List.replicate (Int.toNat (w64 (x3 + 1))) (0 : Int)) (List.replicate (Int.toNat (w64 (x3 + 1))) (0 : Int)) _ h366
   obtain ⟨x194, x195⟩ := rh366
   try dsimp only at h
   obtain ⟨h369, h⟩ := req_some h
   obtain ⟨h370, h⟩ := req_some h
   obtain ⟨h371, h⟩ := req_some h
   obtain ⟨h372, h⟩ := req_some h
   exact Lp.again (gRun_ok cxOK (f123_p5_e0 x1 x2 x3 x133 x134 x135 x136 x137 x194 x195) ⟨h253, ⟨(at?_spec h254).1, x136, (at?_spec h254).2, rfl⟩, ⟨(at?_spec h255).1, x137, (at?_spec h255).2, rfl⟩, h256, h256, ch366, h369, h370, h371, h372, trivial⟩) (f123_p5_ok F x3 x1 x2 k (w64 (x134 - 1)) (List.drop 0 (List.take (0 + (Int.toNat (w64 (x3 + 1)))) x194)) (List.set x133 (0 + (Int.toNat x134)) (List.drop 0 (List.take (0 + (Int.toNat (w64 (x3 + 1)))) x195))) r h)
  ·rw [if_neg h253] at h
   have h253 := eF h253
   obtain rfl := sI h
   exact Lp.out (gRun_ok cxOK (f123_p5_e1 x1 x2 x3 x133 x134 x135) ⟨h253, trivial⟩) (by intro hh; cases hh)
theorem f123_p23_ok (F : Nat) (x1 x2 : LI) (x197 : LL) : ∀ (k : Nat) (x205 x206 : Int) (x204 : LI) (r : (List Int)), f123_p23 F x1 x2 x197 k x205 x206 x204 = some r → f123_p23_P x1 x2 x197 x205 x206 x204 r
 | 0, _, _, _, _, h => by cases h
 | k + 1, x205, x206, x204, r, h => by
  unfold f123_p23 at h
  by_cases h382 : (decide (x206 < (((Int.toNat ((List.length x1 : Nat) : Int)) : Nat) : Int))) = true
  ·rw [if_pos h382] at h
   obtain ⟨h383, h⟩ := req_some h
   obtain ⟨x207, h384, h⟩ := bind_some h
   try dsimp only at h
   obtain ⟨x208, h385, h⟩ := bind_some h
   try dsimp only at h
   obtain ⟨h386, h⟩ := req_some h
   obtain ⟨x209, h387, h⟩ := bind_some h
   try dsimp only at h
   exact Lp.again (gRun_ok cxOK (f123_p23_e0 x1 x2 x197 x204 x205 x206 x207 x208 x209) ⟨h382, h383, ⟨x207, h384, rfl⟩, ⟨(at?_spec h385).1, x208, (at?_spec h385).2, rfl⟩, h386, rfl, ⟨(at?_spec h385).1, x208, (at?_spec h385).2, rfl⟩, ⟨(at?_spec h387).1, x209, (at?_spec h387).2, rfl⟩, trivial⟩) (f123_p23_ok F x1 x2 x197 k (w64 (x205 - (w64 (x208 * x209)))) (w64 (x206 + 1)) (x204 ++ ([x208] : List Int)) r h)
  ·rw [if_neg h382] at h
   have h382 := eF h382
   obtain rfl := sI h
   exact Lp.out (gRun_ok cxOK (f123_p23_e1 x1 x2 x197 x204 x205 x206) ⟨h382, trivial⟩) (by intro hh; cases hh)
theorem f123_ok (F : Nat) (x1 x2 : LI) (x3 : Int) (r : (List Int) × Int) (h : f123 F x1 x2 x3 = some r) : f123_C x1 x2 x3 r := by
 unfold f123 at h
 obtain ⟨h1, h⟩ := req_some h
 obtain ⟨x7, h8, h⟩ := bind_some h
 have ch8 := f123_p1_ok F x3 x1 x2 F 0 (List.replicate (Int.toNat (w64 (x3 + 1))) (0 : Int)) _ h8
 try dsimp only at h
 obtain ⟨h9, h⟩ := req_some h
 obtain ⟨h10, h⟩ := req_some h
 obtain ⟨h11, h⟩ := req_some h
 obtain ⟨h252, h⟩ := req_some h
 obtain ⟨rh373, h373, h⟩ := bind_some h
 have ch373 := f123_p5_ok F x3 x1 x2 F (w64 (((List.length x1 : Nat) : Int) - 1)) (List.drop 0 (List.take (0 + (Int.toNat (w64 (x3 + 1)))) (List.set x7 0 0))) (List.replicate (Int.toNat ((List.length x1 : Nat) : Int)) ([] : (List Int))) _ h373
 obtain ⟨x196, x197⟩ := rh373
 try dsimp only at h
 obtain ⟨x198, h374, h⟩ := bind_some h
 try dsimp only at h
 by_cases h375 : (x198 == 1001) = true
 ·rw [if_pos h375] at h
  obtain rfl := sI h
  exact callOK cxOK cxW Tryd.func123 (by kernel_rfl) (f123_e0 x1 x2 x3 x7 x196 x197 x198) ⟨h1, ch8, h9, h10, h11, h252, h252, ch373, ⟨(at?_spec h374).1, x198, (at?_spec h374).2, rfl⟩, h375, trivial⟩
 ·rw [if_neg h375] at h
  have h375 := eF h375
  obtain ⟨x210, h388, h⟩ := bind_some h
  have ch388 := f123_p23_ok F x1 x2 x197 F x3 0 ([] : List Int) _ h388
  try dsimp only at h
  obtain rfl := sI h
  exact callOK cxOK cxW Tryd.func123 (by kernel_rfl) (f123_e1 x1 x2 x3 x7 x196 x197 x198 x210) ⟨h1, ch8, h9, h10, h11, h252, h252, ch373, ⟨(at?_spec h374).1, x198, (at?_spec h374).2, rfl⟩, h375, ch388, (Nat.le_of_eq (Nat.zero_add _)), trivial⟩

theorem f94_ok (F : Nat) (x1 x2 : LI) (x3 : Int) (r : (List Int) × Int) (h : f94 F x1 x2 x3 = some r) : f94_C x1 x2 x3 r := by
 unfold f94 at h
 obtain ⟨rh1, h1, h⟩ := bind_some h
 have ch1 := f55_ok F x1 x2 x3 _ h1
 obtain ⟨x4, x5, x6⟩ := rh1
 try dsimp only at h
 by_cases h2 : (x6 != 0) = true
 ·rw [if_pos h2] at h
  obtain rfl := sI h
  exact callOK cxOK cxW Tryd.func94 (by kernel_rfl) (f94_e0 x1 x2 x3 x4 x5 x6) ⟨ch1, h2, trivial⟩
 ·rw [if_neg h2] at h
  have h2 := eF h2
  obtain ⟨rh3, h3, h⟩ := bind_some h
  have ch3 := f123_ok F x4 x5 x3 _ h3
  obtain ⟨x7, x8⟩ := rh3
  try dsimp only at h
  obtain rfl := sI h
  exact callOK cxOK cxW Tryd.func94 (by kernel_rfl) (f94_e1 x1 x2 x3 x4 x5 x6 x7 x8) ⟨ch1, h2, ch3, trivial⟩

theorem f170_ok (F : Nat) (x1 x2 x3 : Int) (r : Bool) (h : f170 F x1 x2 x3 = some r) : f170_C x1 x2 x3 r := by
 unfold f170 at h
 by_cases h1 : (decide (x1 ≤ x2)) = true
 ·rw [if_pos h1] at h
  obtain rfl := sI h
  exact callOK cxOK cxW Tryd.func170 (by kernel_rfl) (f170_e0 x1 x2 x3) ⟨h1, h1, h1, h1, trivial⟩
 ·rw [if_neg h1] at h
  have h1 := eF h1
  obtain rfl := sI h
  exact callOK cxOK cxW Tryd.func170 (by kernel_rfl) (f170_e1 x1 x2 x3) ⟨h1, h1, h1, h1, trivial⟩

theorem f169_ok (F : Nat) (x1 x2 : Int) (r : Bool) (h : f169 F x1 x2 = some r) : f169_C x1 x2 r := by
 unfold f169 at h
 obtain ⟨x3, h1, h⟩ := bind_some h
 have ch1 := f170_ok F 0 x1 (w64 (x2 - 1)) _ h1
 try dsimp only at h
 obtain rfl := sI h
 exact callOK cxOK cxW Tryd.func169 (by kernel_rfl) (f169_e0 x1 x2 x3) ⟨ch1, trivial⟩

theorem f92_1_p1_ok (F : Nat) (x1 : LI) (x2 : Int) : ∀ (k : Nat) (x3 : Int) (r : f92_1_p1_R), f92_1_p1 F x1 x2 k x3 = some r → f92_1_p1_P x1 x2 x3 r
 | 0, _, _, h => by cases h
 | k + 1, x3, r, h => by
  unfold f92_1_p1 at h
  by_cases h1 : (decide (x3 < ((List.length x1 : Nat) : Int))) = true
  ·rw [if_pos h1] at h
   obtain ⟨x4, h2, h⟩ := bind_some h
   try dsimp only at h
   obtain ⟨x5, h3, h⟩ := bind_some h
   have ch3 := f169_ok F x4 x2 _ h3
   try dsimp only at h
   by_cases h4 : x5 = true
   ·rw [if_pos h4] at h
    obtain rfl := sI h
    exact Lp.out (gRun_ok cxOK (f92_1_p1_e0 x1 x2 x3 x4 x5) ⟨h1, ⟨(at?_spec h2).1, x4, (at?_spec h2).2, rfl⟩, ch3, h4, trivial⟩) (by intro hh; cases hh)
   ·rw [if_neg h4] at h
    have h4 := eF h4
    exact Lp.again (gRun_ok cxOK (f92_1_p1_e1 x1 x2 x3 x4 x5) ⟨h1, ⟨(at?_spec h2).1, x4, (at?_spec h2).2, rfl⟩, ch3, h4, trivial⟩) (f92_1_p1_ok F x1 x2 k (w64 (x3 + 1)) r h)
  ·rw [if_neg h1] at h
   have h1 := eF h1
   obtain rfl := sI h
   exact Lp.out (gRun_ok cxOK (f92_1_p1_e2 x1 x2 x3) ⟨h1, trivial⟩) (by intro hh; cases hh)
theorem f92_1_ok (F : Nat) (x1 : LI) (x2 : Int) (r : Int) (h : f92_1 F x1 x2 = some r) : f92_1_C x1 x2 r := by
 unfold f92_1 at h
 obtain ⟨rh5, h5, h⟩ := bind_some h
 have ch5 := f92_1_p1_ok F x1 x2 F 0 _ h5
 cases rh5 with
 | c0 x6 =>
  try dsimp only at h
  obtain rfl := sI h
  exact callOK cxOK cxW Tryd.func92 (by kernel_rfl) (f92_1_e0 x1 x2 x6) ⟨ch5, trivial⟩
 | c1 =>
  try dsimp only at h
  obtain rfl := sI h
  exact callOK cxOK cxW Tryd.func92 (by kernel_rfl) (f92_1_e1 x1 x2) ⟨ch5, trivial⟩

theorem f168_1_ok (F : Nat) (x1 : LI) (x2 : Int) (r : Bool) (h : f168_1 F x1 x2 = some r) : f168_1_C x1 x2 r := by
 unfold f168_1 at h
 obtain ⟨x3, h1, h⟩ := bind_some h
 have ch1 := f92_1_ok F x1 x2 _ h1
 try dsimp only at h
 obtain rfl := sI h
 exact callOK cxOK cxW Tryd.func168 (by kernel_rfl) (f168_1_e0 x1 x2 x3) ⟨ch1, trivial⟩

theorem f163_p5_ok (F : Nat) (x1 : LI) : ∀ (k : Nat) (x5 x6 : Int) (r : Int), f163_p5 F x1 k x5 x6 = some r → f163_p5_P x1 x5 x6 r
 | 0, _, _, _, h => by cases h
 | k + 1, x5, x6, r, h => by
  unfold f163_p5 at h
  by_cases h7 : (decide (x5 < ((List.length x1 : Nat) : Int))) = true
  ·rw [if_pos h7] at h
   obtain ⟨x7, h8, h⟩ := bind_some h
   try dsimp only at h
   exact Lp.again (gRun_ok cxOK (f163_p5_e0 x1 x5 x6 x7) ⟨h7, ⟨(at?_spec h8).1, x7, (at?_spec h8).2, rfl⟩, trivial⟩) (f163_p5_ok F x1 k (w64 (x5 + 1)) (w64 (x6 - x7)) r h)
  ·rw [if_neg h7] at h
   have h7 := eF h7
   obtain rfl := sI h
   exact Lp.out (gRun_ok cxOK (f163_p5_e1 x1 x5 x6) ⟨h7, trivial⟩) (by intro hh; cases hh)
theorem f163_ok (F : Nat) (x1 : LI) (r : Int) (h : f163 F x1 = some r) : f163_C x1 r := by
 unfold f163 at h
 by_cases h1 : (((List.length x1 : Nat) : Int) == 0) = true
 ·rw [if_pos h1] at h
  obtain rfl := sI h
  exact callOK cxOK cxW Tryd.func163 (by kernel_rfl) (f163_e0 x1) ⟨h1, trivial⟩
 ·rw [if_neg h1] at h
  have h1 := eF h1
  by_cases h2 : (decide (((List.length x1 : Nat) : Int) > 7)) = true
  ·rw [if_pos h2] at h
   obtain rfl := sI h
   exact callOK cxOK cxW Tryd.func163 (by kernel_rfl) (f163_e1 x1) ⟨h1, h2, trivial⟩
  ·rw [if_neg h2] at h
   have h2 := eF h2
   obtain ⟨x2, h3, h⟩ := bind_some h
   have ch3 := f168_1_ok F x1 ((List.length x1 : Nat) : Int) _ h3
   try dsimp only at h
   by_cases h4 : x2 = true
   ·rw [if_pos h4] at h
    obtain rfl := sI h
    exact callOK cxOK cxW Tryd.func163 (by kernel_rfl) (f163_e2 x1 x2) ⟨h1, h2, ch3, h4, trivial⟩
   ·rw [if_neg h4] at h
    have h4 := eF h4
    obtain ⟨x8, h9, h⟩ := bind_some h
    have ch9 := f163_p5_ok F x1 F 0 ((List.length x1 : Nat) : Int) _ h9
    try dsimp only at h
    by_cases h10 : ((w64 (((List.length x1 : Nat) : Int) - x8)) != (w64 (Int.tdiv (w64 (((List.length x1 : Nat) : Int) * (w64 (((List.length x1 : Nat) : Int) - 1)))) 2))) = true
    ·rw [if_pos h10] at h
     obtain rfl := sI h
     exact callOK cxOK cxW Tryd.func163 (by kernel_rfl) (f163_e3 x1 x2 x8) ⟨h1, h2, ch3, h4, ch9, (by decide), h10, trivial⟩
    ·rw [if_neg h10] at h
     have h10 := eF h10
     obtain rfl := sI h
     exact callOK cxOK cxW Tryd.func163 (by kernel_rfl) (f163_e4 x1 x2 x8) ⟨h1, h2, ch3, h4, ch9, (by decide), h10, trivial⟩

theorem f165_p1_ok (F : Nat) : ∀ (k : Nat) (x5 : Int) (x4 : LI) (r : (List Int)), f165_p1 F k x5 x4 = some r → f165_p1_P x5 x4 r
 | 0, _, _, _, h => by cases h
 | k + 1, x5, x4, r, h => by
  unfold f165_p1 at h
  by_cases h4 : (x5 != 0) = true
  ·rw [if_pos h4] at h
   obtain ⟨x6, h5, h⟩ := bind_some h
   have ch5 := f84_ok F x5 _ h5
   try dsimp only at h
   obtain ⟨h6, h⟩ := req_some h
   exact Lp.again (gRun_ok cxOK (f165_p1_e0 x4 x5 x6) ⟨h4, ch5, h6, rfl, trivial⟩) (f165_p1_ok F k (iAnd .u8 x5 (IntKind.wrap .u8 (x5 - 1))) (x4 ++ ([x6] : List Int)) r h)
  ·rw [if_neg h4] at h
   have h4 := eF h4
   obtain rfl := sI h
   exact Lp.out (gRun_ok cxOK (f165_p1_e1 x4 x5) ⟨h4, trivial⟩) (by intro hh; cases hh)
theorem f165_ok (F : Nat) (x1 : Int) (r : (List Int)) (h : f165 F x1 = some r) : f165_C x1 r := by
 unfold f165 at h
 obtain ⟨x7, h7, h⟩ := bind_some h
 have ch7 := f165_p1_ok F F x1 ([] : List Int) _ h7
 try dsimp only at h
 obtain rfl := sI h
 exact callOK cxOK cxW Tryd.func165 (by kernel_rfl) (f165_e0 x1 x7) ⟨ch7, (Nat.le_of_eq (Nat.zero_add _)), trivial⟩

theorem f164_p1_ok (F : Nat) (x1 x3 : LI) : ∀ (k : Nat) (x4 x5 : Int) (r : Int), f164_p1 F x1 x3 k x4 x5 = some r → f164_p1_P x1 x3 x4 x5 r
 | 0, _, _, _, h => by cases h
 | k + 1, x4, x5, r, h => by
  unfold f164_p1 at h
  by_cases h2 : (decide (x5 < ((List.length x3 : Nat) : Int))) = true
  ·rw [if_pos h2] at h
   obtain ⟨x6, h3, h⟩ := bind_some h
   try dsimp only at h
   obtain ⟨x7, h4, h⟩ := bind_some h
   try dsimp only at h
   exact Lp.again (gRun_ok cxOK (f164_p1_e0 x1 x3 x4 x5 x6 x7) ⟨h2, ⟨(at?_spec h3).1, x6, (at?_spec h3).2, rfl⟩, ⟨(at?_spec h4).1, x7, (at?_spec h4).2, rfl⟩, trivial⟩) (f164_p1_ok F x1 x3 k (w64 (x4 - x7)) (w64 (x5 + 1)) r h)
  ·rw [if_neg h2] at h
   have h2 := eF h2
   obtain rfl := sI h
   exact Lp.out (gRun_ok cxOK (f164_p1_e1 x1 x3 x4 x5) ⟨h2, trivial⟩) (by intro hh; cases hh)
theorem f164_ok (F : Nat) (x1 : LI) (x2 : Int) (r : Int) (h : f164 F x1 x2 = some r) : f164_C x1 x2 r := by
 unfold f164 at h
 obtain ⟨x3, h1, h⟩ := bind_some h
 have ch1 := f165_ok F x2 _ h1
 try dsimp only at h
 obtain ⟨x8, h5, h⟩ := bind_some h
 have ch5 := f164_p1_ok F x1 x3 F (w64 (Int.tdiv (w64 (((List.length x3 : Nat) : Int) * (w64 (((List.length x3 : Nat) : Int) - 1)))) 2)) 0 _ h5
 try dsimp only at h
 obtain rfl := sI h
 exact callOK cxOK cxW Tryd.func164 (by kernel_rfl) (f164_e0 x1 x2 x3 x8) ⟨ch1, (by decide), ch5, trivial⟩

theorem f107_1_p1_ok (F : Nat) (x1 : LI) (x2 : Option (List Int)) : ∀ (k : Nat) (x3 : Int) (r : f107_1_p1_R), f107_1_p1 F x1 x2 k x3 = some r → f107_1_p1_P x1 x2 x3 r
 | 0, _, _, h => by cases h
 | k + 1, x3, r, h => by
  unfold f107_1_p1 at h
  by_cases h1 : (decide (x3 < ((List.length x1 : Nat) : Int))) = true
  ·rw [if_pos h1] at h
   obtain ⟨x4, h2, h⟩ := bind_some h
   try dsimp only at h
   by_cases h3 : (decide (x3 ≥ ((List.length ((x2).getD []) : Nat) : Int))) = true
   ·rw [if_pos h3] at h
    obtain rfl := sI h
    exact Lp.out (gRun_ok cxOK (f107_1_p1_e0 x1 x2 x3 x4) ⟨h1, ⟨(at?_spec h2).1, x4, (at?_spec h2).2, rfl⟩, h3, trivial⟩) (by intro hh; cases hh)
   ·rw [if_neg h3] at h
    have h3 := eF h3
    obtain ⟨x5, h4, h⟩ := bind_some h
    try dsimp only at h
    obtain ⟨x6, h5, h⟩ := bind_some h
    have ch5 := f136_ok F x4 x5 _ h5
    try dsimp only at h
    by_cases h6 : (x6 != 0) = true
    ·rw [if_pos h6] at h
     obtain rfl := sI h
     exact Lp.out (gRun_ok cxOK (f107_1_p1_e1 x1 x2 x3 x4 x5 x6) ⟨h1, ⟨(at?_spec h2).1, x4, (at?_spec h2).2, rfl⟩, h3, ⟨(at?_spec h4).1, x5, (at?_spec h4).2, rfl⟩, ch5, h6, trivial⟩) (by intro hh; cases hh)
    ·rw [if_neg h6] at h
     have h6 := eF h6
     exact Lp.again (gRun_ok cxOK (f107_1_p1_e2 x1 x2 x3 x4 x5 x6) ⟨h1, ⟨(at?_spec h2).1, x4, (at?_spec h2).2, rfl⟩, h3, ⟨(at?_spec h4).1, x5, (at?_spec h4).2, rfl⟩, ch5, h6, trivial⟩) (f107_1_p1_ok F x1 x2 k (w64 (x3 + 1)) r h)
  ·rw [if_neg h1] at h
   have h1 := eF h1
   obtain rfl := sI h
   exact Lp.out (gRun_ok cxOK (f107_1_p1_e3 x1 x2 x3) ⟨h1, trivial⟩) (by intro hh; cases hh)
theorem f107_1_ok (F : Nat) (x1 : LI) (x2 : Option (List Int)) (r : Int) (h : f107_1 F x1 x2 = some r) : f107_1_C x1 x2 r := by
 unfold f107_1 at h
 obtain ⟨rh7, h7, h⟩ := bind_some h
 have ch7 := f107_1_p1_ok F x1 x2 F 0 _ h7
 cases rh7 with
 | c0 x7 =>
  try dsimp only at h
  obtain rfl := sI h
  exact callOK cxOK cxW Tryd.func107 (by kernel_rfl) (f107_1_e0 x1 x2 x7) ⟨ch7, trivial⟩
 | c1 =>
  try dsimp only at h
  by_cases h8 : (decide (((List.length x1 : Nat) : Int) < ((List.length ((x2).getD []) : Nat) : Int))) = true
  ·rw [if_pos h8] at h
   obtain rfl := sI h
   exact callOK cxOK cxW Tryd.func107 (by kernel_rfl) (f107_1_e1 x1 x2) ⟨ch7, h8, trivial⟩
  ·rw [if_neg h8] at h
   have h8 := eF h8
   obtain rfl := sI h
   exact callOK cxOK cxW Tryd.func107 (by kernel_rfl) (f107_1_e2 x1 x2) ⟨ch7, h8, trivial⟩

theorem f156_p6_ok (F : Nat) (x1 : LI) (x3 : Option (List Int)) (x4 : Int) (x6 : LI) (x7 : Int) (r : (Option (List Int))) (h : f156_p6 F x1 x3 x4 x6 x7 = some r) : f156_p6_P x1 x3 x4 x6 x7 r := by
 unfold f156_p6 at h
 by_cases h14 : (decide (x7 < 0)) = true
 ·rw [if_pos h14] at h
  obtain ⟨h15, h⟩ := req_some h
  obtain rfl := sI h
  exact gRun_ok cxOK (f156_p6_e0 x1 x3 x4 x6 x7) ⟨h14, h15, trivial⟩
 ·rw [if_neg h14] at h
  have h14 := eF h14
  obtain rfl := sI h
  exact gRun_ok cxOK (f156_p6_e1 x1 x3 x4 x6 x7) ⟨h14, trivial⟩
theorem f156_p2_ok (F : Nat) (x1 : LI) : ∀ (k : Nat) (x3 : Option (List Int)) (x4 : Int) (r : (Option (List Int))), f156_p2 F x1 k x3 x4 = some r → f156_p2_P x1 x3 x4 r
 | 0, _, _, _, h => by cases h
 | k + 1, x3, x4, r, h => by
  unfold f156_p2 at h
  obtain ⟨h3, h⟩ := req_some h
  by_cases h4 : (decide (x4 < (iShl .u8 1 ((List.length x1 : Nat) : Int)))) = true
  ·rw [if_pos h4] at h
   obtain ⟨x5, h5, h⟩ := bind_some h
   have ch5 := f164_ok F x1 x4 _ h5
   try dsimp only at h
   by_cases h6 : (decide (x5 ≤ 0)) = true
   ·rw [if_pos h6] at h
    exact Lp.again (gRun_ok cxOK (f156_p2_e0 x1 x3 x4 x5) ⟨h3, h4, ch5, h6, trivial⟩) (f156_p2_ok F x1 k x3 (IntKind.wrap .u8 (x4 + 1)) r h)
   ·rw [if_neg h6] at h
    have h6 := eF h6
    obtain ⟨x6, h7, h⟩ := bind_some h
    have ch7 := f165_ok F x4 _ h7
    try dsimp only at h
    by_cases h8 : (Option.isNone x3) = true
    ·rw [if_pos h8] at h
     obtain ⟨h9, h⟩ := req_some h
     exact Lp.again (gRun_ok cxOK (f156_p2_e1 x1 x3 x4 x5 x6) ⟨h3, h4, ch5, h6, ch7, h8, h8, h8, h8, h8, h8, rfl, rfl, rfl, rfl, rfl, rfl, rfl, rfl, rfl, h9, trivial⟩) (f156_p2_ok F x1 k (some x6) (IntKind.wrap .u8 (x4 + 1)) r h)
    ·rw [if_neg h8] at h
     have h8 := eF h8
     by_cases h10 : (decide (((List.length x6 : Nat) : Int) < ((List.length ((x3).getD []) : Nat) : Int))) = true
     ·rw [if_pos h10] at h
      obtain ⟨h11, h⟩ := req_some h
      exact Lp.again (gRun_ok cxOK (f156_p2_e2 x1 x3 x4 x5 x6) ⟨h3, h4, ch5, h6, ch7, h8, h8, h8, h8, h8, h8, h10, h10, h10, h10, h10, h10, h10, h10, rfl, h11, trivial⟩) (f156_p2_ok F x1 k (some x6) (IntKind.wrap .u8 (x4 + 1)) r h)
     ·rw [if_neg h10] at h
      have h10 := eF h10
      by_cases h12 : (((List.length x6 : Nat) : Int) == ((List.length ((x3).getD []) : Nat) : Int)) = true
      ·rw [if_pos h12] at h
       obtain ⟨x7, h13, h⟩ := bind_some h
       have ch13 := f107_1_ok F x6 x3 _ h13
       try dsimp only at h
       obtain ⟨x8, h16, h⟩ := bind_some h
       have ch16 := f156_p6_ok F x1 x3 x4 x6 x7 _ h16
       try dsimp only at h
       exact Lp.again (gRun_ok cxOK (f156_p2_e3 x1 x3 x4 x5 x6 x7 x8) ⟨h3, h4, ch5, h6, ch7, h8, h8, h8, h8, h8, h8, h10, h10, h10, h10, h10, h10, h12, h12, h12, ch13, h12, h10, h12, h10, ch16, trivial⟩) (f156_p2_ok F x1 k x8 (IntKind.wrap .u8 (x4 + 1)) r h)
      ·rw [if_neg h12] at h
       have h12 := eF h12
       exact Lp.again (gRun_ok cxOK (f156_p2_e4 x1 x3 x4 x5 x6) ⟨h3, h4, ch5, h6, ch7, h8, h8, h8, h8, h8, h8, h10, h10, h10, h10, h10, h10, h12, h12, h12, h12, h10, h12, h10, rfl, trivial⟩) (f156_p2_ok F x1 k x3 (IntKind.wrap .u8 (x4 + 1)) r h)
  ·rw [if_neg h4] at h
   have h4 := eF h4
   obtain rfl := sI h
   exact Lp.out (gRun_ok cxOK (f156_p2_e5 x1 x3 x4) ⟨h3, h4, trivial⟩) (by intro hh; cases hh)
theorem f156_ok (F : Nat) (x1 : LI) (r : (List Int) × Int) (h : f156 F x1 = some r) : f156_C x1 r := by
 unfold f156 at h
 obtain ⟨x2, h1, h⟩ := bind_some h
 have ch1 := f163_ok F x1 _ h1
 try dsimp only at h
 by_cases h2 : (x2 != 0) = true
 ·rw [if_pos h2] at h
  obtain rfl := sI h
  exact callOK cxOK cxW Tryd.func156 (by kernel_rfl) (f156_e0 x1 x2) ⟨ch1, h2, trivial⟩
 ·rw [if_neg h2] at h
  have h2 := eF h2
  obtain ⟨x9, h17, h⟩ := bind_some h
  have ch17 := f156_p2_ok F x1 F (none : Option (List Int)) 1 _ h17
  try dsimp only at h
  by_cases h18 : (Option.isNone x9) = true
  ·rw [if_pos h18] at h
   obtain rfl := sI h
   exact callOK cxOK cxW Tryd.func156 (by kernel_rfl) (f156_e1 x1 x2 x9) ⟨ch1, h2, ch17, h18, trivial⟩
  ·rw [if_neg h18] at h
   have h18 := eF h18
   obtain rfl := sI h
   exact callOK cxOK cxW Tryd.func156 (by kernel_rfl) (f156_e2 x1 x2 x9) ⟨ch1, h2, ch17, h18, trivial⟩

theorem f146_ok (F : Nat) (r : Bool) (h : f146 F = some r) : f146_C r := by
 unfold f146 at h
 obtain ⟨x1, h1, h⟩ := bind_some h
 have ch1 := f16_ok F ([2, 5] : List Int) _ h1
 try dsimp only at h
 obtain ⟨x2, h2, h⟩ := bind_some h
 have ch2 := f16_ok F ([3, 2] : List Int) _ h2
 try dsimp only at h
 obtain ⟨rh3, h3, h⟩ := bind_some h
 have ch3 := f94_ok F x1 x2 11 _ h3
 obtain ⟨x3, x4⟩ := rh3
 try dsimp only at h
 obtain ⟨x5, h4, h⟩ := bind_some h
 have ch4 := f16_ok F ([0, 0, 3, 3] : List Int) _ h4
 try dsimp only at h
 obtain ⟨rh5, h5, h⟩ := bind_some h
 have ch5 := f156_ok F x5 _ h5
 obtain ⟨x6, x7⟩ := rh5
 try dsimp only at h
 by_cases h6 : (x4 == 0) = true
 ·rw [if_pos h6] at h
  by_cases h7 : (x7 == 0) = true
  ·rw [if_pos h7] at h
   obtain ⟨x8, h8, h⟩ := bind_some h
   have ch8 := f16_ok F ([3, 1] : List Int) _ h8
   try dsimp only at h
   obtain ⟨x9, h9, h⟩ := bind_some h
   have ch9 := f63_ok F x3 x8 _ h9
   try dsimp only at h
   by_cases h10 : x9 = true
   ·rw [if_pos h10] at h
    obtain ⟨x10, h11, h⟩ := bind_some h
    have ch11 := f16_ok F ([0, 1] : List Int) _ h11
    try dsimp only at h
    obtain ⟨x11, h12, h⟩ := bind_some h
    have ch12 := f63_ok F x6 x10 _ h12
    try dsimp only at h
    obtain rfl := sI h
    exact callOK cxOK cxW Tryd.func146 (by kernel_rfl) (f146_e0 x1 x2 x3 x4 x5 x6 x7 x8 x9 x10 x11) ⟨ch1, ch2, ch3, ch4, ch5, h6, h6, h6, h7, h7, h7, ch8, h7, ch9, h7, h10, h10, h10, ch11, h10, ch12, h10, trivial⟩
   ·rw [if_neg h10] at h
    have h10 := eF h10
    obtain rfl := sI h
    exact callOK cxOK cxW Tryd.func146 (by kernel_rfl) (f146_e1 x1 x2 x3 x4 x5 x6 x7 x8 x9) ⟨ch1, ch2, ch3, ch4, ch5, h6, h6, h6, h7, h7, h7, ch8, h7, ch9, h7, h10, h10, h10, h10, h10, trivial⟩
  ·rw [if_neg h7] at h
   have h7 := eF h7
   obtain rfl := sI h
   exact callOK cxOK cxW Tryd.func146 (by kernel_rfl) (f146_e2 x1 x2 x3 x4 x5 x6 x7) ⟨ch1, ch2, ch3, ch4, ch5, h6, h6, h6, h7, h7, h7, h7, h7, rfl, rfl, rfl, rfl, rfl, trivial⟩
 ·rw [if_neg h6] at h
  have h6 := eF h6
  obtain rfl := sI h
  exact callOK cxOK cxW Tryd.func146 (by kernel_rfl) (f146_e3 x1 x2 x3 x4 x5 x6 x7) ⟨ch1, ch2, ch3, ch4, ch5, h6, h6, h6, rfl, rfl, rfl, rfl, rfl, rfl, rfl, rfl, rfl, rfl, trivial⟩

theorem f134_ok (F : Nat) (r : Bool) (h : f134 F = some r) : f134_C r := by
 unfold f134 at h
 obtain ⟨x1, h1, h⟩ := bind_some h
 have ch1 := f16_ok F ([2, 3, 1, 2, 1, 3] : List Int) _ h1
 try dsimp only at h
 obtain ⟨rh2, h2, h⟩ := bind_some h
 have ch2 := f37_ok F 3 true x1 2 _ h2
 obtain ⟨x2, x3⟩ := rh2
 try dsimp only at h
 by_cases h3 : (x3 == 0) = true
 ·rw [if_pos h3] at h
  obtain ⟨x4, h4, h⟩ := bind_some h
  have ch4 := f16_ok F ([1, 3] : List Int) _ h4
  try dsimp only at h
  obtain ⟨x5, h5, h⟩ := bind_some h
  have ch5 := f63_ok F x2 x4 _ h5
  try dsimp only at h
  by_cases h6 : x5 = true
  ·rw [if_pos h6] at h
   obtain ⟨x6, h7, h⟩ := bind_some h
   have ch7 := f146_ok F _ h7
   try dsimp only at h
   obtain rfl := sI h
   exact callOK cxOK cxW Tryd.func134 (by kernel_rfl) (f134_e0 x1 x2 x3 x4 x5 x6) ⟨ch1, ch2, h3, h3, h3, ch4, h3, ch5, h3, h6, ch7, h6, trivial⟩
  ·rw [if_neg h6] at h
   have h6 := eF h6
   obtain rfl := sI h
   exact callOK cxOK cxW Tryd.func134 (by kernel_rfl) (f134_e1 x1 x2 x3 x4 x5) ⟨ch1, ch2, h3, h3, h3, ch4, h3, ch5, h3, h6, h6, trivial⟩
 ·rw [if_neg h3] at h
  have h3 := eF h3
  obtain rfl := sI h
  exact callOK cxOK cxW Tryd.func134 (by kernel_rfl) (f134_e2 x1 x2 x3) ⟨ch1, ch2, h3, h3, h3, h3, h3, rfl, rfl, trivial⟩

theorem f101_ok (F : Nat) (r : Bool) (h : f101 F = some r) : f101_C r := by
 unfold f101 at h
 obtain ⟨rh1, h1, h⟩ := bind_some h
 have ch1 := f133_ok F ([([9, 5] : List Int), ([8, 3] : List Int), ([4, 4] : List Int)] : List (List Int)) _ h1
 obtain ⟨x1, x2⟩ := rh1
 try dsimp only at h
 by_cases h2 : (x2 == 0) = true
 ·rw [if_pos h2] at h
  obtain ⟨x3, h3, h⟩ := bind_some h
  have ch3 := f16_ok F ([8, 0, 4] : List Int) _ h3
  try dsimp only at h
  obtain ⟨x4, h4, h⟩ := bind_some h
  have ch4 := f63_ok F x1 x3 _ h4
  try dsimp only at h
  by_cases h5 : x4 = true
  ·rw [if_pos h5] at h
   obtain ⟨x5, h6, h⟩ := bind_some h
   have ch6 := f134_ok F _ h6
   try dsimp only at h
   obtain rfl := sI h
   exact callOK cxOK cxW Tryd.func101 (by kernel_rfl) (f101_e0 x1 x2 x3 x4 x5) ⟨ch1, h2, h2, h2, ch3, h2, ch4, h2, h5, ch6, h5, trivial⟩
  ·rw [if_neg h5] at h
   have h5 := eF h5
   obtain rfl := sI h
   exact callOK cxOK cxW Tryd.func101 (by kernel_rfl) (f101_e1 x1 x2 x3 x4) ⟨ch1, h2, h2, h2, ch3, h2, ch4, h2, h5, h5, trivial⟩
 ·rw [if_neg h2] at h
  have h2 := eF h2
  obtain rfl := sI h
  exact callOK cxOK cxW Tryd.func101 (by kernel_rfl) (f101_e2 x1 x2) ⟨ch1, h2, h2, h2, h2, h2, rfl, rfl, trivial⟩

theorem f64_ok (F : Nat) (r : Bool) (h : f64 F = some r) : f64_C r := by
 unfold f64 at h
 obtain ⟨rh1, h1, h⟩ := bind_some h
 have ch1 := f100_ok F 3 ([1] : List Int) _ h1
 obtain ⟨x1, x2⟩ := rh1
 try dsimp only at h
 obtain ⟨rh2, h2, h⟩ := bind_some h
 have ch2 := f21_ok F 3 3 0 _ h2
 obtain ⟨x3, x4⟩ := rh2
 try dsimp only at h
 by_cases h3 : (x2 == 0) = true
 ·rw [if_pos h3] at h
  by_cases h4 : (x4 == 0) = true
  ·rw [if_pos h4] at h
   obtain ⟨x5, h5, h⟩ := bind_some h
   have ch5 := f16_ok F ([2] : List Int) _ h5
   try dsimp only at h
   obtain ⟨x6, h6, h⟩ := bind_some h
   have ch6 := f63_ok F x1 x5 _ h6
   try dsimp only at h
   by_cases h7 : x6 = true
   ·rw [if_pos h7] at h
    by_cases h8 : (x3 == 5) = true
    ·rw [if_pos h8] at h
     obtain ⟨x7, h9, h⟩ := bind_some h
     have ch9 := f101_ok F _ h9
     try dsimp only at h
     obtain rfl := sI h
     exact callOK cxOK cxW Tryd.func64 (by kernel_rfl) (f64_e0 x1 x2 x3 x4 x5 x6 x7) ⟨ch1, ch2, h3, h3, h3, h4, h4, h4, ch5, h4, ch6, h4, h7, h7, h7, h8, ch9, h8, trivial⟩
    ·rw [if_neg h8] at h
     have h8 := eF h8
     obtain rfl := sI h
     exact callOK cxOK cxW Tryd.func64 (by kernel_rfl) (f64_e1 x1 x2 x3 x4 x5 x6) ⟨ch1, ch2, h3, h3, h3, h4, h4, h4, ch5, h4, ch6, h4, h7, h7, h7, h8, h8, trivial⟩
   ·rw [if_neg h7] at h
    have h7 := eF h7
    obtain rfl := sI h
    exact callOK cxOK cxW Tryd.func64 (by kernel_rfl) (f64_e2 x1 x2 x3 x4 x5 x6) ⟨ch1, ch2, h3, h3, h3, h4, h4, h4, ch5, h4, ch6, h4, h7, h7, h7, rfl, rfl, trivial⟩
  ·rw [if_neg h4] at h
   have h4 := eF h4
   obtain rfl := sI h
   exact callOK cxOK cxW Tryd.func64 (by kernel_rfl) (f64_e3 x1 x2 x3 x4) ⟨ch1, ch2, h3, h3, h3, h4, h4, h4, h4, h4, rfl, rfl, rfl, rfl, rfl, trivial⟩
 ·rw [if_neg h3] at h
  have h3 := eF h3
  obtain rfl := sI h
  exact callOK cxOK cxW Tryd.func64 (by kernel_rfl) (f64_e4 x1 x2 x3 x4) ⟨ch1, ch2, h3, h3, h3, rfl, rfl, rfl, rfl, rfl, rfl, rfl, rfl, rfl, rfl, trivial⟩

theorem f27_ok (F : Nat) (r : Bool) (h : f27 F = some r) : f27_C r := by
 unfold f27 at h
 obtain ⟨rh1, h1, h⟩ := bind_some h
 have ch1 := f62_ok F 4 _ h1
 obtain ⟨x1, x2⟩ := rh1
 try dsimp only at h
 by_cases h2 : (x2 == 0) = true
 ·rw [if_pos h2] at h
  obtain ⟨x3, h3, h⟩ := bind_some h
  have ch3 := f16_ok F ([0, 1, 14, 15] : List Int) _ h3
  try dsimp only at h
  obtain ⟨x4, h4, h⟩ := bind_some h
  have ch4 := f63_ok F x1 x3 _ h4
  try dsimp only at h
  by_cases h5 : x4 = true
  ·rw [if_pos h5] at h
   obtain ⟨x5, h6, h⟩ := bind_some h
   have ch6 := f64_ok F _ h6
   try dsimp only at h
   obtain rfl := sI h
   exact callOK cxOK cxW Tryd.func27 (by kernel_rfl) (f27_e0 x1 x2 x3 x4 x5) ⟨ch1, h2, h2, h2, ch3, h2, ch4, h2, h5, ch6, h5, trivial⟩
  ·rw [if_neg h5] at h
   have h5 := eF h5
   obtain rfl := sI h
   exact callOK cxOK cxW Tryd.func27 (by kernel_rfl) (f27_e1 x1 x2 x3 x4) ⟨ch1, h2, h2, h2, ch3, h2, ch4, h2, h5, h5, trivial⟩
 ·rw [if_neg h2] at h
  have h2 := eF h2
  obtain rfl := sI h
  exact callOK cxOK cxW Tryd.func27 (by kernel_rfl) (f27_e2 x1 x2) ⟨ch1, h2, h2, h2, h2, h2, rfl, rfl, trivial⟩

theorem f33_ok (F : Nat) (r : Bool) (h : f33 F = some r) : f33_C r := by
 unfold f33 at h
 obtain ⟨rh1, h1, h⟩ := bind_some h
 have ch1 := f31_ok F 5 ([(0, (1, ())), (1, (2, ())), (2, (3, ())), (3, (4, ())), (0, (4, ()))] : List (Int × (Int × Unit))) _ h1
 obtain ⟨x1, x2⟩ := rh1
 try dsimp only at h
 by_cases h2 : (x2 == 0) = true
 ·rw [if_pos h2] at h
  obtain ⟨x3, h3, h⟩ := bind_some h
  have ch3 := f16_ok F ([0, 1, 0, 1, 2] : List Int) _ h3
  try dsimp only at h
  obtain ⟨x4, h4, h⟩ := bind_some h
  have ch4 := f63_ok F x1 x3 _ h4
  try dsimp only at h
  by_cases h5 : x4 = true
  ·rw [if_pos h5] at h
   obtain ⟨x5, h6, h⟩ := bind_some h
   have ch6 := f27_ok F _ h6
   try dsimp only at h
   obtain rfl := sI h
   exact callOK cxOK cxW Tryd.func33 (by kernel_rfl) (f33_e0 x1 x2 x3 x4 x5) ⟨ch1, h2, h2, h2, ch3, h2, ch4, h2, h5, ch6, h5, trivial⟩
  ·rw [if_neg h5] at h
   have h5 := eF h5
   obtain rfl := sI h
   exact callOK cxOK cxW Tryd.func33 (by kernel_rfl) (f33_e1 x1 x2 x3 x4) ⟨ch1, h2, h2, h2, ch3, h2, ch4, h2, h5, h5, trivial⟩
 ·rw [if_neg h2] at h
  have h2 := eF h2
  obtain rfl := sI h
  exact callOK cxOK cxW Tryd.func33 (by kernel_rfl) (f33_e2 x1 x2) ⟨ch1, h2, h2, h2, h2, h2, rfl, rfl, trivial⟩

theorem f109_ok (F : Nat) (x1 : Int) (x2 : Bool) (x3 x4 : LI) (r : Int) (h : f109 F x1 x2 x3 x4 = some r) : f109_C x1 x2 x3 x4 r := by
 unfold f109 at h
 obtain rfl := sI h
 exact callOK cxOK cxW Tryd.func109 (by kernel_rfl) (f109_e0 x1 x2 x3 x4) trivial

theorem f110_ok (F : Nat) (x1 x2 x3 : Int) (x4 : Bool) (x5 x6 : LI) (r : Int) (h : f110 F x1 x2 x3 x4 x5 x6 = some r) : f110_C x1 x2 x3 x4 x5 x6 r := by
 unfold f110 at h
 obtain ⟨x7, h1, h⟩ := bind_some h
 have ch1 := f113_ok F x1 x4 _ h1
 try dsimp only at h
 obtain ⟨h2, h⟩ := req_some h
 obtain ⟨x8, h3, h⟩ := bind_some h
 try dsimp only at h
 by_cases h4 : (decide (x8 ≥ 0)) = true
 ·rw [if_pos h4] at h
  obtain rfl := sI h
  exact callOK cxOK cxW Tryd.func110 (by kernel_rfl) (f110_e0 x1 x2 x3 x4 x5 x6 x7 x8) ⟨ch1, h2, ⟨x8, h3, rfl⟩, h4, trivial⟩
 ·rw [if_neg h4] at h
  have h4 := eF h4
  obtain ⟨x9, h5, h⟩ := bind_some h
  have ch5 := f109_ok F x3 x4 x5 x6 _ h5
  try dsimp only at h
  by_cases h6 : (decide ((w64 (x2 + x7)) ≥ x9)) = true
  ·rw [if_pos h6] at h
   obtain rfl := sI h
   exact callOK cxOK cxW Tryd.func110 (by kernel_rfl) (f110_e1 x1 x2 x3 x4 x5 x6 x7 x8 x9) ⟨ch1, h2, ⟨x8, h3, rfl⟩, h4, ch5, h6, trivial⟩
  ·rw [if_neg h6] at h
   have h6 := eF h6
   obtain ⟨h7, h⟩ := req_some h
   obtain ⟨x10, h8, h⟩ := bind_some h
   try dsimp only at h
   by_cases h9 : (decide (x10 > 0)) = true
   ·rw [if_pos h9] at h
    obtain rfl := sI h
    exact callOK cxOK cxW Tryd.func110 (by kernel_rfl) (f110_e2 x1 x2 x3 x4 x5 x6 x7 x8 x9 x10) ⟨ch1, h2, ⟨x8, h3, rfl⟩, h4, ch5, h6, h7, ⟨x10, h8, rfl⟩, h9, h9, h9, h9, h9, h9, h9, h9, rfl, trivial⟩
   ·rw [if_neg h9] at h
    have h9 := eF h9
    obtain ⟨h10, h⟩ := req_some h
    obtain ⟨x11, h11, h⟩ := bind_some h
    try dsimp only at h
    by_cases h12 : (decide (x11 > 0)) = true
    ·rw [if_pos h12] at h
     obtain rfl := sI h
     exact callOK cxOK cxW Tryd.func110 (by kernel_rfl) (f110_e3 x1 x2 x3 x4 x5 x6 x7 x8 x9 x10 x11) ⟨ch1, h2, ⟨x8, h3, rfl⟩, h4, ch5, h6, h7, ⟨x10, h8, rfl⟩, h9, h9, h9, h9, h9, h10, h9, ⟨x11, h11, rfl⟩, h9, h9, h12, trivial⟩
    ·rw [if_neg h12] at h
     have h12 := eF h12
     obtain rfl := sI h
     exact callOK cxOK cxW Tryd.func110 (by kernel_rfl) (f110_e4 x1 x2 x3 x4 x5 x6 x7 x8 x9 x10 x11) ⟨ch1, h2, ⟨x8, h3, rfl⟩, h4, ch5, h6, h7, ⟨x10, h8, rfl⟩, h9, h9, h9, h9, h9, h10, h9, ⟨x11, h11, rfl⟩, h9, h9, h12, trivial⟩

theorem f73_p8_1_ok (F : Nat) (x4 : Int) (x16 : LI) (x17 x13 : Int) (x18 x7 : Int) (x8 : Bool) (x9 x10 : LI) (r : (List Int)) (h : f73_p8_1 F x4 x16 x17 x13 x18 x7 x8 x9 x10 = some r) : f73_p8_1_P x4 x16 x17 x13 x18 x7 x8 x9 x10 r := by
 unfold f73_p8_1 at h
 by_cases h17 : (x18 == 0) = true
 ·rw [if_pos h17] at h
  obtain ⟨h18, h⟩ := req_some h
  obtain rfl := sI h
  exact gRun_ok cxOK (f73_p8_1_e0 x4 x7 x8 x9 x10 x13 x16 x17 x18) ⟨h17, h18, rfl, trivial⟩
 ·rw [if_neg h17] at h
  have h17 := eF h17
  obtain rfl := sI h
  exact gRun_ok cxOK (f73_p8_1_e1 x4 x7 x8 x9 x10 x13 x16 x17 x18) ⟨h17, trivial⟩
theorem f73_p5_ok (F : Nat) (x4 x13 x7 : Int) (x8 : Bool) (x9 x10 : LI) : ∀ (k : Nat) (x17 : Int) (x16 : LI) (r : (List Int)), f73_p5 F x4 x13 x7 x8 x9 x10 k x17 x16 = some r → f73_p5_P x4 x13 x7 x8 x9 x10 x17 x16 r
 | 0, _, _, _, h => by cases h
 | k + 1, x17, x16, r, h => by
  unfold f73_p5 at h
  by_cases h15 : (decide (x17 < x13)) = true
  ·rw [if_pos h15] at h
   obtain ⟨x18, h16, h⟩ := bind_some h
   have ch16 := f110_ok F x4 x17 x7 x8 x9 x10 _ h16
   try dsimp only at h
   obtain ⟨x19, h19, h⟩ := bind_some h
   have ch19 := f73_p8_1_ok F x4 x16 x17 x13 x18 x7 x8 x9 x10 _ h19
   try dsimp only at h
   exact Lp.again (gRun_ok cxOK (f73_p5_e0 x4 x7 x8 x9 x10 x13 x16 x17 x18 x19) ⟨h15, ch16, ch19, trivial⟩) (f73_p5_ok F x4 x13 x7 x8 x9 x10 k (w64 (x17 + 1)) x19 r h)
  ·rw [if_neg h15] at h
   have h15 := eF h15
   obtain rfl := sI h
   exact Lp.out (gRun_ok cxOK (f73_p5_e1 x4 x7 x8 x9 x10 x13 x16 x17) ⟨h15, trivial⟩) (by intro hh; cases hh)
theorem f73_ok (F : Nat) (x1 : Int) (x2 : Bool) (x3 : LI) (x4 : Int) (r : (List Int) × Int) (h : f73 F x1 x2 x3 x4 = some r) : f73_C x1 x2 x3 x4 r := by
 unfold f73 at h
 obtain ⟨rh1, h1, h⟩ := bind_some h
 have ch1 := f108_ok F x1 x2 x3 _ h1
 cases rh1 with
 | c0 x5 =>
  try dsimp only at h
  by_cases h2 : (x5 != 0) = true
  ·rw [if_pos h2] at h
   obtain rfl := sI h
   exact callOK cxOK cxW Tryd.func73 (by kernel_rfl) (f73_e0 x1 x2 x3 x4 x5) ⟨ch1, h2, trivial⟩
  ·rw [if_neg h2] at h
   have h2 := eF h2
   cases h
 | c1 x6 x7 x8 x9 x10 =>
  try dsimp only at h
  by_cases h3 : (x6 != 0) = true
  ·rw [if_pos h3] at h
   obtain rfl := sI h
   exact callOK cxOK cxW Tryd.func73 (by kernel_rfl) (f73_e1 x1 x2 x3 x4 x6 x7 x8 x9 x10) ⟨ch1, h3, trivial⟩
  ·rw [if_neg h3] at h
   have h3 := eF h3
   obtain ⟨x11, h4, h⟩ := bind_some h
   have ch4 := f77_ok F 1 x4 x7 _ h4
   try dsimp only at h
   by_cases h5 : x11 = true
   ·rw [if_pos h5] at h
    obtain ⟨h6, h⟩ := req_some h
    obtain ⟨x12, h7, h⟩ := bind_some h
    try dsimp only at h
    by_cases h8 : (decide (x12 ≥ 0)) = true
    ·rw [if_pos h8] at h
     obtain rfl := sI h
     exact callOK cxOK cxW Tryd.func73 (by kernel_rfl) (f73_e2 x1 x2 x3 x4 x6 x7 x8 x9 x10 x11 x12) ⟨ch1, h3, ch4, (by rw [h5]; rfl), h6, ⟨x12, h7, rfl⟩, h8, trivial⟩
    ·rw [if_neg h8] at h
     have h8 := eF h8
     obtain ⟨x13, h9, h⟩ := bind_some h
     have ch9 := f109_ok F x7 x8 x9 x10 _ h9
     try dsimp only at h
     obtain ⟨x20, h20, h⟩ := bind_some h
     have ch20 := f73_p5_ok F x4 x13 x7 x8 x9 x10 F 0 ([] : List Int) _ h20
     try dsimp only at h
     obtain rfl := sI h
     exact callOK cxOK cxW Tryd.func73 (by kernel_rfl) (f73_e3 x1 x2 x3 x4 x6 x7 x8 x9 x10 x11 x12 x13 x20) ⟨ch1, h3, ch4, (by rw [h5]; rfl), h6, ⟨x12, h7, rfl⟩, h8, ch9, ch20, (Nat.le_of_eq (Nat.zero_add _)), trivial⟩
   ·rw [if_neg h5] at h
    have h5 := eF h5
    obtain rfl := sI h
    exact callOK cxOK cxW Tryd.func73 (by kernel_rfl) (f73_e4 x1 x2 x3 x4 x6 x7 x8 x9 x10 x11) ⟨ch1, h3, ch4, (by rw [h5]; rfl), trivial⟩

theorem f111_ok (F : Nat) (x1 x2 x3 : Int) (x4 : Bool) (x5 x6 : LI) (r : Int × Bool × (List Int) × (List Int)) (h : f111 F x1 x2 x3 x4 x5 x6 = some r) : f111_C x1 x2 x3 x4 x5 x6 r := by
 unfold f111 at h
 obtain ⟨x7, h1, h⟩ := bind_some h
 have ch1 := f113_ok F x1 x4 _ h1
 try dsimp only at h
 obtain ⟨h2, h⟩ := req_some h
 obtain ⟨x8, h3, h⟩ := bind_some h
 try dsimp only at h
 by_cases h4 : (decide (x8 < 0)) = true
 ·rw [if_pos h4] at h
  obtain ⟨h5, h⟩ := req_some h
  obtain ⟨h6, h⟩ := req_some h
  obtain ⟨h7, h⟩ := req_some h
  obtain ⟨h8, h⟩ := req_some h
  obtain ⟨h9, h⟩ := req_some h
  obtain rfl := sI h
  exact callOK cxOK cxW Tryd.func111 (by kernel_rfl) (f111_e0 x1 x2 x3 x4 x5 x6 x7 x8) ⟨ch1, h2, ⟨x8, h3, rfl⟩, h4, h5, h6, h7, h8, h2, h9, trivial⟩
 ·rw [if_neg h4] at h
  have h4 := eF h4
  obtain ⟨h10, h⟩ := req_some h
  obtain ⟨h11, h⟩ := req_some h
  obtain ⟨h12, h⟩ := req_some h
  obtain ⟨h13, h⟩ := req_some h
  obtain ⟨h14, h⟩ := req_some h
  obtain rfl := sI h
  exact callOK cxOK cxW Tryd.func111 (by kernel_rfl) (f111_e1 x1 x2 x3 x4 x5 x6 x7 x8) ⟨ch1, h2, ⟨x8, h3, rfl⟩, h4, h10, h11, h12, h13, h2, h14, trivial⟩

theorem f59_ok (F : Nat) (x1 : LI) (r : (List Int)) (h : f59 F x1 = some r) : f59_C x1 r := by
 unfold f59 at h
 obtain ⟨h1, h⟩ := req_some h
 obtain ⟨h2, h⟩ := req_some h
 obtain rfl := sI h
 exact callOK cxOK cxW Tryd.func59 (by kernel_rfl) (f59_e0 x1) ⟨h1, rfl, h2, (.inl rfl), trivial⟩

theorem f112_ok (F : Nat) (x1 : LI) (x2 : Int) (x3 : Bool) (x4 x5 : LI) (r : Int × Bool × (List Int)) (h : f112 F x1 x2 x3 x4 x5 = some r) : f112_C x1 x2 x3 x4 x5 r := by
 unfold f112 at h
 obtain ⟨x6, h1, h⟩ := bind_some h
 have ch1 := f109_ok F x2 x3 x4 x5 _ h1
 try dsimp only at h
 obtain ⟨h2, h⟩ := req_some h
 obtain ⟨x7, h3, h⟩ := bind_some h
 have ch3 := f59_ok F (List.drop 0 (List.take (0 + (Int.toNat x6)) x1)) _ h3
 try dsimp only at h
 obtain ⟨h4, h⟩ := req_some h
 obtain rfl := sI h
 exact callOK cxOK cxW Tryd.func112 (by kernel_rfl) (f112_e0 x1 x2 x3 x4 x5 x6 x7) ⟨ch1, h2, ch3, h4, (Nat.le_of_eq (Nat.zero_add _)), trivial⟩

theorem f74_ok (F : Nat) (x1 : Int) (x2 : Bool) (x3 : LI) (x4 x5 : Int) (r : Int × Bool × (List Int) × Int) (h : f74 F x1 x2 x3 x4 x5 = some r) : f74_C x1 x2 x3 x4 x5 r := by
 unfold f74 at h
 obtain ⟨rh1, h1, h⟩ := bind_some h
 have ch1 := f108_ok F x1 x2 x3 _ h1
 cases rh1 with
 | c0 x6 =>
  try dsimp only at h
  by_cases h2 : (x6 != 0) = true
  ·rw [if_pos h2] at h
   obtain rfl := sI h
   exact callOK cxOK cxW Tryd.func74 (by kernel_rfl) (f74_e0 x1 x2 x3 x4 x5 x6) ⟨ch1, h2, trivial⟩
  ·rw [if_neg h2] at h
   have h2 := eF h2
   cases h
 | c1 x7 x8 x9 x10 x11 =>
  try dsimp only at h
  by_cases h3 : (x7 != 0) = true
  ·rw [if_pos h3] at h
   obtain rfl := sI h
   exact callOK cxOK cxW Tryd.func74 (by kernel_rfl) (f74_e1 x1 x2 x3 x4 x5 x7 x8 x9 x10 x11) ⟨ch1, h3, trivial⟩
  ·rw [if_neg h3] at h
   have h3 := eF h3
   obtain ⟨x12, h4, h⟩ := bind_some h
   have ch4 := f77_ok F 1 x4 x8 _ h4
   try dsimp only at h
   by_cases h5 : x12 = true
   ·rw [if_pos h5] at h
    obtain ⟨x13, h6, h⟩ := bind_some h
    have ch6 := f109_ok F x8 x9 x10 x11 _ h6
    try dsimp only at h
    obtain ⟨x14, h7, h⟩ := bind_some h
    have ch7 := f77_ok F 0 x5 (w64 (x13 - 1)) _ h7
    try dsimp only at h
    by_cases h8 : x14 = true
    ·rw [if_pos h8] at h
     obtain ⟨x15, h9, h⟩ := bind_some h
     have ch9 := f110_ok F x4 x5 x8 x9 x10 x11 _ h9
     try dsimp only at h
     by_cases h10 : (x15 != 0) = true
     ·rw [if_pos h10] at h
      obtain rfl := sI h
      exact callOK cxOK cxW Tryd.func74 (by kernel_rfl) (f74_e2 x1 x2 x3 x4 x5 x7 x8 x9 x10 x11 x12 x13 x14 x15) ⟨ch1, h3, ch4, (by rw [h5]; rfl), (by rw [h5]; rfl), (by rw [h5]; rfl), ch6, (by rw [h5]; rfl), (by rw [h5]; rfl), ch7, (by rw [h5]; rfl), (by rw [h5]; rfl), (by rw [h8]; rfl), ch9, h10, trivial⟩
     ·rw [if_neg h10] at h
      have h10 := eF h10
      obtain ⟨rh11, h11, h⟩ := bind_some h
      have ch11 := f111_ok F x4 x5 x8 x9 x10 x11 _ h11
      obtain ⟨x16, x17, x18, x19⟩ := rh11
      try dsimp only at h
      obtain ⟨rh12, h12, h⟩ := bind_some h
      have ch12 := f112_ok F x18 x16 x17 x18 x19 _ h12
      obtain ⟨x20, x21, x22⟩ := rh12
      try dsimp only at h
      obtain rfl := sI h
      exact callOK cxOK cxW Tryd.func74 (by kernel_rfl) (f74_e3 x1 x2 x3 x4 x5 x7 x8 x9 x10 x11 x12 x13 x14 x15 x16 x17 x18 x19 x20 x21 x22) ⟨ch1, h3, ch4, (by rw [h5]; rfl), (by rw [h5]; rfl), (by rw [h5]; rfl), ch6, (by rw [h5]; rfl), (by rw [h5]; rfl), ch7, (by rw [h5]; rfl), (by rw [h5]; rfl), (by rw [h8]; rfl), ch9, h10, ch11, ch12, trivial⟩
    ·rw [if_neg h8] at h
     have h8 := eF h8
     obtain rfl := sI h
     exact callOK cxOK cxW Tryd.func74 (by kernel_rfl) (f74_e4 x1 x2 x3 x4 x5 x7 x8 x9 x10 x11 x12 x13 x14) ⟨ch1, h3, ch4, (by rw [h5]; rfl), (by rw [h5]; rfl), (by rw [h5]; rfl), ch6, (by rw [h5]; rfl), (by rw [h5]; rfl), ch7, (by rw [h5]; rfl), (by rw [h5]; rfl), (by rw [h8]; rfl), trivial⟩
   ·rw [if_neg h5] at h
    have h5 := eF h5
    obtain rfl := sI h
    exact callOK cxOK cxW Tryd.func74 (by kernel_rfl) (f74_e5 x1 x2 x3 x4 x5 x7 x8 x9 x10 x11 x12) ⟨ch1, h3, ch4, (by rw [h5]; rfl), (by rw [h5]; rfl), (by rw [h5]; rfl), (by rw [h5]; rfl), (by rw [h5]; rfl), (by rw [h5]; rfl), (by rw [h5]; rfl), rfl, trivial⟩

theorem f34_p1_ok (F : Nat) (x1 : Int) (x2 : Bool) (x3 : LI) : ∀ (k : Nat) (x23 x24 : Int) (x25 : Bool) (x26 : Int) (x27 : Bool) (x28 : LI) (r : f34_p1_R), f34_p1 F x1 x2 x3 k x23 x24 x25 x26 x27 x28 = some r → f34_p1_P x1 x2 x3 x23 x24 x25 x26 x27 x28 r
 | 0, _, _, _, _, _, _, _, h => by cases h
 | k + 1, x23, x24, x25, x26, x27, x28, r, h => by
  unfold f34_p1 at h
  by_cases h28 : (decide (x23 ≤ x1)) = true
  ·rw [if_pos h28] at h
   obtain ⟨rh29, h29, h⟩ := bind_some h
   have ch29 := f73_ok F x26 x27 x28 x23 _ h29
   obtain ⟨x29, x30⟩ := rh29
   try dsimp only at h
   by_cases h30 : (x30 != 0) = true
   ·rw [if_pos h30] at h
    obtain rfl := sI h
    exact Lp.out (gRun_ok cxOK (f34_p1_e0 x1 x2 x3 x23 x24 x25 x26 x27 x28 x29 x30) ⟨h28, ch29, h30, trivial⟩) (by intro hh; cases hh)
   ·rw [if_neg h30] at h
    have h30 := eF h30
    by_cases h31 : (((List.length x29 : Nat) : Int) == 0) = true
    ·rw [if_pos h31] at h
     exact Lp.again (gRun_ok cxOK (f34_p1_e1 x1 x2 x3 x23 x24 x25 x26 x27 x28 x29 x30) ⟨h28, ch29, h30, h31, h31, h31, h31, h31, h31, h31, rfl, trivial⟩) (f34_p1_ok F x1 x2 x3 k (w64 (x23 + 1)) x24 x25 x26 x27 x28 r h)
    ·rw [if_neg h31] at h
     have h31 := eF h31
     obtain ⟨h32, h⟩ := req_some h
     obtain ⟨x31, h33, h⟩ := bind_some h
     try dsimp only at h
     by_cases h34 : ((Int.tmod x31 3) == 0) = true
     ·rw [if_pos h34] at h
      exact Lp.again (gRun_ok cxOK (f34_p1_e2 x1 x2 x3 x23 x24 x25 x26 x27 x28 x29 x30 x31) ⟨h28, ch29, h30, h31, h31, h31, h32, h31, ⟨x31, h33, rfl⟩, h31, (by decide), h31, h31, h34, trivial⟩) (f34_p1_ok F x1 x2 x3 k (w64 (x23 + 1)) x24 x25 x26 x27 x28 r h)
     ·rw [if_neg h34] at h
      have h34 := eF h34
      obtain ⟨h35, h⟩ := req_some h
      obtain ⟨x32, h36, h⟩ := bind_some h
      try dsimp only at h
      obtain ⟨rh37, h37, h⟩ := bind_some h
      have ch37 := f74_ok F x26 x27 x28 x23 x32 _ h37
      obtain ⟨x33, x34, x35, x36⟩ := rh37
      try dsimp only at h
      by_cases h38 : (x36 != 0) = true
      ·rw [if_pos h38] at h
       obtain rfl := sI h
       exact Lp.out (gRun_ok cxOK (f34_p1_e3 x1 x2 x3 x23 x24 x25 x26 x27 x28 x29 x30 x31 x32 x33 x34 x35 x36) ⟨h28, ch29, h30, h31, h31, h31, h32, h31, ⟨x31, h33, rfl⟩, h31, (by decide), h31, h31, h34, h32, ⟨x31, h33, rfl⟩, h35, ⟨(at?_spec h36).1, x32, (at?_spec h36).2, rfl⟩, ch37, h38, h38, h38, h38, h38, rfl, rfl, rfl, rfl, rfl, rfl, rfl, rfl, rfl, rfl, rfl, rfl, rfl, trivial⟩) (by intro hh; cases hh)
      ·rw [if_neg h38] at h
       have h38 := eF h38
       by_cases h39 : (x33 != x1) = true
       ·rw [if_pos h39] at h
        obtain rfl := sI h
        exact Lp.out (gRun_ok cxOK (f34_p1_e4 x1 x2 x3 x23 x24 x25 x26 x27 x28 x29 x30 x31 x32 x33 x34 x35 x36) ⟨h28, ch29, h30, h31, h31, h31, h32, h31, ⟨x31, h33, rfl⟩, h31, (by decide), h31, h31, h34, h32, ⟨x31, h33, rfl⟩, h35, ⟨(at?_spec h36).1, x32, (at?_spec h36).2, rfl⟩, ch37, h38, h38, h38, h38, h38, h39, h39, h39, h39, h39, rfl, rfl, rfl, rfl, rfl, rfl, rfl, rfl, trivial⟩) (by intro hh; cases hh)
       ·rw [if_neg h39] at h
        have h39 := eF h39
        by_cases h40 : (x34 == x2) = true
        ·rw [if_pos h40] at h
         by_cases h41 : (((List.length x35 : Nat) : Int) != (w64 (2 * x1))) = true
         ·rw [if_pos h41] at h
          obtain rfl := sI h
          exact Lp.out (gRun_ok cxOK (f34_p1_e5 x1 x2 x3 x23 x24 x25 x26 x27 x28 x29 x30 x31 x32 x33 x34 x35 x36) ⟨h28, ch29, h30, h31, h31, h31, h32, h31, ⟨x31, h33, rfl⟩, h31, (by decide), h31, h31, h34, h32, ⟨x31, h33, rfl⟩, h35, ⟨(at?_spec h36).1, x32, (at?_spec h36).2, rfl⟩, ch37, h38, h38, h38, h38, h38, h39, h39, h39, h39, h39, (by rw [h40]; rfl), (by rw [h40]; rfl), (by rw [h40]; rfl), (by rw [h40]; rfl), (by rw [h40]; rfl), (by rw [h40]; rfl), (by rw [h40]; rfl), h41, trivial⟩) (by intro hh; cases hh)
         ·rw [if_neg h41] at h
          have h41 := eF h41
          exact Lp.again (gRun_ok cxOK (f34_p1_e6 x1 x2 x3 x23 x24 x25 x26 x27 x28 x29 x30 x31 x32 x33 x34 x35 x36) ⟨h28, ch29, h30, h31, h31, h31, h32, h31, ⟨x31, h33, rfl⟩, h31, (by decide), h31, h31, h34, h32, ⟨x31, h33, rfl⟩, h35, ⟨(at?_spec h36).1, x32, (at?_spec h36).2, rfl⟩, ch37, h38, h38, h38, h38, h38, h39, h39, h39, h39, h39, (by rw [h40]; rfl), (by rw [h40]; rfl), (by rw [h40]; rfl), (by rw [h40]; rfl), (by rw [h40]; rfl), (by rw [h40]; rfl), (by rw [h40]; rfl), h41, trivial⟩) (f34_p1_ok F x1 x2 x3 k (w64 (x23 + 1)) x24 x25 x33 x34 x35 r h)
        ·rw [if_neg h40] at h
         have h40 := eF h40
         obtain rfl := sI h
         exact Lp.out (gRun_ok cxOK (f34_p1_e7 x1 x2 x3 x23 x24 x25 x26 x27 x28 x29 x30 x31 x32 x33 x34 x35 x36) ⟨h28, ch29, h30, h31, h31, h31, h32, h31, ⟨x31, h33, rfl⟩, h31, (by decide), h31, h31, h34, h32, ⟨x31, h33, rfl⟩, h35, ⟨(at?_spec h36).1, x32, (at?_spec h36).2, rfl⟩, ch37, h38, h38, h38, h38, h38, h39, h39, h39, h39, h39, (by rw [h40]; rfl), (by rw [h40]; rfl), (by rw [h40]; rfl), (by rw [h40]; rfl), (by rw [h40]; rfl), (by rw [h40]; rfl), (by rw [h40]; rfl), rfl, trivial⟩) (by intro hh; cases hh)
  ·rw [if_neg h28] at h
   have h28 := eF h28
   obtain rfl := sI h
   exact Lp.out (gRun_ok cxOK (f34_p1_e8 x1 x2 x3 x23 x24 x25 x26 x27 x28) ⟨h28, trivial⟩) (by intro hh; cases hh)
theorem f34_ok (F : Nat) (x1 : Int) (x2 : Bool) (x3 : LI) (r : Int × Bool × (List Int) × Bool) (h : f34 F x1 x2 x3 = some r) : f34_C x1 x2 x3 r := by
 unfold f34 at h
 obtain ⟨h1, h⟩ := req_some h
 obtain ⟨h27, h⟩ := req_some h
 obtain ⟨rh42, h42, h⟩ := bind_some h
 have ch42 := f34_p1_ok F x1 x2 x3 F 1 0 false x1 x2 (List.drop 0 (List.take (0 + (Int.toNat (w64 (2 * x1)))) (List.replicate (Int.toNat (w64 (2 * x1))) (0 : Int)))) _ h42
 cases rh42 with
 | c0 x37 x38 x39 =>
  try dsimp only at h
  obtain rfl := sI h
  exact callOK cxOK cxW Tryd.func34 (by kernel_rfl) (f34_e0 x1 x2 x3 x37 x38 x39) ⟨h1, h27, h27, h27, ch42, trivial⟩
 | c1 x40 x41 x42 x43 x44 =>
  try dsimp only at h
  obtain rfl := sI h
  exact callOK cxOK cxW Tryd.func34 (by kernel_rfl) (f34_e1 x1 x2 x3 x40 x41 x42 x43 x44) ⟨h1, h27, h27, h27, ch42, trivial⟩

theorem f59_1_ok (F : Nat) (x1 x2 : Nat) (x3 : Int) (x4 : Bool) (x5 x6 : LI) (r : (List Int)) (h : f59_1 F x1 x2 x3 x4 x5 x6 = some r) : f59_1_C x1 x2 x3 x4 x5 x6 r := by
 unfold f59_1 at h
 obtain ⟨h1, h⟩ := req_some h
 obtain ⟨h2, h⟩ := req_some h
 obtain rfl := sI h
 exact callOK cxOK cxW Tryd.func59 (by kernel_rfl) (f59_1_e0 x1 x2 x3 x4 x5 x6) ⟨rfl, h1, h2, (.inl rfl), (Nat.le_of_eq (Nat.zero_add _)), trivial⟩

theorem f35_ok (F : Nat) (x1 : Int) (x2 : Bool) (x3 : LI) (x4 : Int) (r : (List Int) × Int) (h : f35 F x1 x2 x3 x4 = some r) : f35_C x1 x2 x3 x4 r := by
 unfold f35 at h
 obtain ⟨rh1, h1, h⟩ := bind_some h
 have ch1 := f75_ok F x1 x2 x3 x4 _ h1
 cases rh1 with
 | c0 x5 =>
  try dsimp only at h
  by_cases h2 : (x5 != 0) = true
  ·rw [if_pos h2] at h
   obtain rfl := sI h
   exact callOK cxOK cxW Tryd.func35 (by kernel_rfl) (f35_e0 x1 x2 x3 x4 x5) ⟨ch1, h2, trivial⟩
  ·rw [if_neg h2] at h
   have h2 := eF h2
   cases h
 | c1 x6 x7 x8 x9 x10 =>
  try dsimp only at h
  by_cases h3 : (x6 != 0) = true
  ·rw [if_pos h3] at h
   obtain rfl := sI h
   exact callOK cxOK cxW Tryd.func35 (by kernel_rfl) (f35_e1 x1 x2 x3 x4 x6 x7 x8 x9 x10) ⟨ch1, h3, trivial⟩
  ·rw [if_neg h3] at h
   have h3 := eF h3
   obtain ⟨h4, h⟩ := req_some h
   obtain ⟨x11, h5, h⟩ := bind_some h
   try dsimp only at h
   obtain ⟨x12, h6, h⟩ := bind_some h
   have ch6 := f76_ok F x4 x7 x8 x9 x10 _ h6
   try dsimp only at h
   obtain ⟨h7, h⟩ := req_some h
   obtain ⟨x13, h8, h⟩ := bind_some h
   have ch8 := f59_1_ok F (Int.toNat (w64 (x11 + 1))) ((Int.toNat x12) - (Int.toNat (w64 (x11 + 1)))) x7 x8 x9 x10 _ h8
   try dsimp only at h
   obtain rfl := sI h
   exact callOK cxOK cxW Tryd.func35 (by kernel_rfl) (f35_e2 x1 x2 x3 x4 x6 x7 x8 x9 x10 x11 x12 x13) ⟨ch1, h3, h4, ⟨x11, h5, rfl⟩, ch6, h7, ch8, trivial⟩

theorem f78_p1_ok (F : Nat) (x1 : List (Int × (Int × Unit))) (x2 : LI) : ∀ (k : Nat) (x3 : Int) (r : f78_p1_R), f78_p1 F x1 x2 k x3 = some r → f78_p1_P x1 x2 x3 r
 | 0, _, _, h => by cases h
 | k + 1, x3, r, h => by
  unfold f78_p1 at h
  by_cases h1 : (decide (x3 < ((List.length x1 : Nat) : Int))) = true
  ·rw [if_pos h1] at h
   obtain ⟨x4, h2, h⟩ := bind_some h
   try dsimp only at h
   by_cases h3 : (eqL x2 ([x4.1, x4.2.1] : List Int)) = true
   ·rw [if_pos h3] at h
    obtain rfl := sI h
    exact Lp.out (gRun_ok cxOK (f78_p1_e0 x1 x2 x3 x4) ⟨h1, ⟨(at?_spec h2).1, x4, (at?_spec h2).2, rfl⟩, h3, trivial⟩) (by intro hh; cases hh)
   ·rw [if_neg h3] at h
    have h3 := eF h3
    exact Lp.again (gRun_ok cxOK (f78_p1_e1 x1 x2 x3 x4) ⟨h1, ⟨(at?_spec h2).1, x4, (at?_spec h2).2, rfl⟩, h3, trivial⟩) (f78_p1_ok F x1 x2 k (w64 (x3 + 1)) r h)
  ·rw [if_neg h1] at h
   have h1 := eF h1
   obtain rfl := sI h
   exact Lp.out (gRun_ok cxOK (f78_p1_e2 x1 x2 x3) ⟨h1, trivial⟩) (by intro hh; cases hh)
theorem f78_ok (F : Nat) (x1 : List (Int × (Int × Unit))) (x2 : LI) (r : Int) (h : f78 F x1 x2 = some r) : f78_C x1 x2 r := by
 unfold f78 at h
 obtain ⟨rh4, h4, h⟩ := bind_some h
 have ch4 := f78_p1_ok F x1 x2 F 0 _ h4
 cases rh4 with
 | c0 x5 =>
  try dsimp only at h
  obtain rfl := sI h
  exact callOK cxOK cxW Tryd.func78 (by kernel_rfl) (f78_e0 x1 x2 x5) ⟨ch4, trivial⟩
 | c1 =>
  try dsimp only at h
  obtain rfl := sI h
  exact callOK cxOK cxW Tryd.func78 (by kernel_rfl) (f78_e1 x1 x2) ⟨ch4, trivial⟩

theorem f38_ok (F : Nat) (x1 : List (Int × (Int × Unit))) (x2 : LI) (r : Bool) (h : f38 F x1 x2 = some r) : f38_C x1 x2 r := by
 unfold f38 at h
 obtain ⟨x3, h1, h⟩ := bind_some h
 have ch1 := f78_ok F x1 x2 _ h1
 try dsimp only at h
 obtain rfl := sI h
 exact callOK cxOK cxW Tryd.func38 (by kernel_rfl) (f38_e0 x1 x2 x3) ⟨ch1, trivial⟩

end Go.Gh.Top
