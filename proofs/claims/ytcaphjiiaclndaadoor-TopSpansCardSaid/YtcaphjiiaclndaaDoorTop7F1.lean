/- Top7F1: printed by wip/tool/gx.py -/
import Derived.Test.YtcaphjiiaclndaaDoorTop7F0
namespace Go.Gh.Top
set_option linter.unusedVariables false
set_option linter.unusedSimpArgs false
open Go.Proofs

theorem f7_p2_ok (F : Nat) (x1 x4 : Int) (x5 : Bool) (x6 : LI) : ∀ (k : Nat) (x19 : Int) (x20 x21 x18 : LI) (r : f7_p2_R), f7_p2 F x1 x4 x5 x6 k x19 x20 x21 x18 = some r → f7_p2_P x1 x4 x5 x6 x19 x20 x21 x18 r
 | 0, _, _, _, _, _, h => by cases h
 | k + 1, x19, x20, x21, x18, r, h => by
  unfold f7_p2 at h
  by_cases h23 : (decide (x19 ≤ (w64 (1 + (Int.tmod (w64 (x1)) 8))))) = true
  ·rw [if_pos h23] at h
   obtain ⟨rh24, h24, h⟩ := bind_some h
   have ch24 := f35_ok F x4 x5 x6 x19 _ h24
   obtain ⟨x22, x23⟩ := rh24
   try dsimp only at h
   by_cases h25 : (x23 == 12) = true
   ·rw [if_pos h25] at h
    exact Lp.again (gRun_ok cxOK (f7_p2_e0 x1 x4 x5 x6 x18 x19 x20 x21 x22 x23) ⟨h23, ch24, h25, trivial⟩) (f7_p2_ok F x1 x4 x5 x6 k (w64 (x19 + 1)) x20 x21 x18 r h)
   ·rw [if_neg h25] at h
    have h25 := eF h25
    obtain ⟨x24, h26, h⟩ := bind_some h
    have ch26 := f36_ok F x6 x19 _ h26
    try dsimp only at h
    by_cases h27 : (x23 != 0) = true
    ·rw [if_pos h27] at h
     obtain rfl := sI h
     exact Lp.out (gRun_ok cxOK (f7_p2_e1 x1 x4 x5 x6 x18 x19 x20 x21 x22 x23 x24) ⟨h23, ch24, h25, ch26, h27, h27, h27, rfl, rfl, rfl, rfl, rfl, rfl, rfl, trivial⟩) (by intro hh; cases hh)
    ·rw [if_neg h27] at h
     have h27 := eF h27
     by_cases h28 : (decide (x24 < 0)) = true
     ·rw [if_pos h28] at h
      obtain rfl := sI h
      exact Lp.out (gRun_ok cxOK (f7_p2_e2 x1 x4 x5 x6 x18 x19 x20 x21 x22 x23 x24) ⟨h23, ch24, h25, ch26, h27, h27, h27, h28, h28, h28, h28, h28, h28, rfl, trivial⟩) (by intro hh; cases hh)
     ·rw [if_neg h28] at h
      have h28 := eF h28
      by_cases h29 : (decide (((List.length x22 : Nat) : Int) > (w64 (2 * (w64 (1 + (Int.tmod (w64 (x1)) 8))))))) = true
      ·rw [if_pos h29] at h
       obtain rfl := sI h
       exact Lp.out (gRun_ok cxOK (f7_p2_e3 x1 x4 x5 x6 x18 x19 x20 x21 x22 x23 x24) ⟨h23, ch24, h25, ch26, h27, h27, h27, h28, h28, h28, h28, h28, h28, h29, trivial⟩) (by intro hh; cases hh)
      ·rw [if_neg h29] at h
       have h29 := eF h29
       obtain ⟨h30, h⟩ := req_some h
       obtain ⟨h31, h⟩ := req_some h
       obtain ⟨h32, h⟩ := req_some h
       exact Lp.again (gRun_ok cxOK (f7_p2_e4 x1 x4 x5 x6 x18 x19 x20 x21 x22 x23 x24) ⟨h23, ch24, h25, ch26, h27, h27, h27, h28, h28, h28, h28, h28, h28, h29, h30, rfl, h31, h32, h31, h32, trivial⟩) (f7_p2_ok F x1 x4 x5 x6 k (w64 (x19 + 1)) (List.set x20 (0 + ((Int.toNat x19) * 1)) x24) (List.set x21 (0 + ((Int.toNat x19) * 1)) (w64 ((w64 (x24 + 1)) + ((List.length x22 : Nat) : Int)))) (x18 ++ ([x19] : List Int)) r h)
  ·rw [if_neg h23] at h
   have h23 := eF h23
   obtain rfl := sI h
   exact Lp.out (gRun_ok cxOK (f7_p2_e5 x1 x4 x5 x6 x18 x19 x20 x21) ⟨h23, trivial⟩) (by intro hh; cases hh)
theorem f7_p16_7_ok (F : Nat) (x1 : Int) (x27 : LI) (x83 x85 : Int) (x94 x99 : Int) (x100 x4 : Int) (x5 : Bool) (x6 x25 x26 : LI) (x95 : Int) (x93 : List (Int × (Int × Unit))) (r : (List (Int × (Int × Unit)))) (h : f7_p16_7 F x1 x27 x83 x85 x94 x99 x100 x4 x5 x6 x25 x26 x95 x93 = some r) : f7_p16_7_P x1 x27 x83 x85 x94 x99 x100 x4 x5 x6 x25 x26 x95 x93 r := by
 unfold f7_p16_7 at h
 by_cases h151 : (decide (x99 < x100)) = true
 ·rw [if_pos h151] at h
  obtain ⟨h152, h⟩ := req_some h
  obtain rfl := sI h
  exact gRun_ok cxOK (f7_p16_7_e0 x1 x4 x5 x6 x25 x26 x27 x83 x85 x93 x94 x95 x99 x100) ⟨h151, h152, rfl, trivial⟩
 ·rw [if_neg h151] at h
  have h151 := eF h151
  obtain rfl := sI h
  exact gRun_ok cxOK (f7_p16_7_e1 x1 x4 x5 x6 x25 x26 x27 x83 x85 x93 x94 x95 x99 x100) ⟨h151, trivial⟩
theorem f7_p13_2_ok (F : Nat) (x1 : Int) (x27 : LI) (x83 x85 x4 : Int) (x5 : Bool) (x6 x25 x26 : LI) : ∀ (k : Nat) (x94 x95 : Int) (x93 : List (Int × (Int × Unit))) (r : Int × (List (Int × (Int × Unit)))), f7_p13_2 F x1 x27 x83 x85 x4 x5 x6 x25 x26 k x94 x95 x93 = some r → f7_p13_2_P x1 x27 x83 x85 x4 x5 x6 x25 x26 x94 x95 x93 r
 | 0, _, _, _, _, h => by cases h
 | k + 1, x94, x95, x93, r, h => by
  unfold f7_p13_2 at h
  by_cases h141 : (decide (x94 < (((Int.toNat x83) : Nat) : Int))) = true
  ·rw [if_pos h141] at h
   obtain ⟨h142, h⟩ := req_some h
   obtain ⟨x96, h143, h⟩ := bind_some h
   try dsimp only at h
   obtain ⟨h144, h⟩ := req_some h
   obtain ⟨x97, h145, h⟩ := bind_some h
   try dsimp only at h
   obtain ⟨h146, h⟩ := req_some h
   obtain ⟨x98, h147, h⟩ := bind_some h
   try dsimp only at h
   by_cases h148 : (decide (x97 < x98)) = true
   ·rw [if_pos h148] at h
    obtain ⟨x99, h149, h⟩ := bind_some h
    try dsimp only at h
    obtain ⟨x100, h150, h⟩ := bind_some h
    try dsimp only at h
    obtain ⟨x101, h153, h⟩ := bind_some h
    have ch153 := f7_p16_7_ok F x1 x27 x83 x85 x94 x99 x100 x4 x5 x6 x25 x26 x95 x93 _ h153
    try dsimp only at h
    exact Lp.again (gRun_ok cxOK (f7_p13_2_e0 x1 x4 x5 x6 x25 x26 x27 x83 x85 x93 x94 x95 x96 x97 x98 x99 x100 x101) ⟨h141, h142, ⟨x96, h143, rfl⟩, h144, ⟨x97, h145, rfl⟩, h146, ⟨x98, h147, rfl⟩, h148, h148, h146, h148, ⟨x99, h149, rfl⟩, h148, h148, h144, h148, ⟨x100, h150, rfl⟩, h148, h148, ch153, trivial⟩) (f7_p13_2_ok F x1 x27 x83 x85 x4 x5 x6 x25 x26 k (w64 (x94 + 1)) x95 x101 r h)
   ·rw [if_neg h148] at h
    have h148 := eF h148
    exact Lp.again (gRun_ok cxOK (f7_p13_2_e1 x1 x4 x5 x6 x25 x26 x27 x83 x85 x93 x94 x95 x96 x97 x98) ⟨h141, h142, ⟨x96, h143, rfl⟩, h144, ⟨x97, h145, rfl⟩, h146, ⟨x98, h147, rfl⟩, h148, h148, h148, h148, h148, h148, h148, h148, rfl, trivial⟩) (f7_p13_2_ok F x1 x27 x83 x85 x4 x5 x6 x25 x26 k (w64 (x94 + 1)) x95 x93 r h)
  ·rw [if_neg h141] at h
   have h141 := eF h141
   obtain rfl := sI h
   exact Lp.out (gRun_ok cxOK (f7_p13_2_e2 x1 x4 x5 x6 x25 x26 x27 x83 x85 x93 x94 x95) ⟨h141, trivial⟩) (by intro hh; cases hh)
theorem f7_p9_ok (F : Nat) (x1 : Int) (x27 : LI) (x4 : Int) (x5 : Bool) (x6 x25 x26 : LI) : ∀ (k : Nat) (x83 x84 : Int) (x82 : List (Int × (Int × Unit))) (r : Int × (List (Int × (Int × Unit)))), f7_p9 F x1 x27 x4 x5 x6 x25 x26 k x83 x84 x82 = some r → f7_p9_P x1 x27 x4 x5 x6 x25 x26 x83 x84 x82 r
 | 0, _, _, _, _, h => by cases h
 | k + 1, x83, x84, x82, r, h => by
  unfold f7_p9 at h
  by_cases h124 : (decide (x83 < (((List.length x27) : Nat) : Int))) = true
  ·rw [if_pos h124] at h
   obtain ⟨h125, h⟩ := req_some h
   obtain ⟨x85, h126, h⟩ := bind_some h
   try dsimp only at h
   obtain ⟨h127, h⟩ := req_some h
   obtain ⟨rh154, h154, h⟩ := bind_some h
   have ch154 := f7_p13_2_ok F x1 x27 x83 x85 x4 x5 x6 x25 x26 F 0 x84 x82 _ h154
   obtain ⟨x102, x103⟩ := rh154
   try dsimp only at h
   exact Lp.again (gRun_ok cxOK (f7_p9_e0 x1 x4 x5 x6 x25 x26 x27 x82 x83 x84 x85 x102 x103) ⟨h124, h125, ⟨x85, h126, rfl⟩, h127, ch154, trivial⟩) (f7_p9_ok F x1 x27 x4 x5 x6 x25 x26 k (w64 (x83 + 1)) x102 x103 r h)
  ·rw [if_neg h124] at h
   have h124 := eF h124
   obtain rfl := sI h
   exact Lp.out (gRun_ok cxOK (f7_p9_e1 x1 x4 x5 x6 x25 x26 x27 x82 x83 x84) ⟨h124, trivial⟩) (by intro hh; cases hh)
theorem f7_p25_ok (F : Nat) (x27 : LI) (x106 x107 : Int) (x108 x1 : Int) (x109 x112 x4 : Int) (x5 : Bool) (x6 x25 x26 : LI) (x104 : Int) (x105 : List (Int × (Int × Unit))) (r : Int) (h : f7_p25 F x27 x106 x107 x108 x1 x109 x112 x4 x5 x6 x25 x26 x104 x105 = some r) : f7_p25_P x27 x106 x107 x108 x1 x109 x112 x4 x5 x6 x25 x26 x104 x105 r := by
 unfold f7_p25 at h
 by_cases h164 : (decide (x107 < x112)) = true
 ·rw [if_pos h164] at h
  obtain rfl := sI h
  exact gRun_ok cxOK (f7_p25_e0 x1 x4 x5 x6 x25 x26 x27 x104 x105 x106 x107 x108 x109 x112) ⟨h164, trivial⟩
 ·rw [if_neg h164] at h
  have h164 := eF h164
  obtain rfl := sI h
  exact gRun_ok cxOK (f7_p25_e1 x1 x4 x5 x6 x25 x26 x27 x104 x105 x106 x107 x108 x109 x112) ⟨h164, trivial⟩
theorem f7_p22_ok (F : Nat) (x27 : LI) (x106 x107 : Int) (x1 x4 : Int) (x5 : Bool) (x6 x25 x26 : LI) (x104 : Int) (x105 : List (Int × (Int × Unit))) : ∀ (k : Nat) (x108 x109 : Int) (r : Int), f7_p22 F x27 x106 x107 x1 x4 x5 x6 x25 x26 x104 x105 k x108 x109 = some r → f7_p22_P x27 x106 x107 x1 x4 x5 x6 x25 x26 x104 x105 x108 x109 r
 | 0, _, _, _, h => by cases h
 | k + 1, x108, x109, r, h => by
  unfold f7_p22 at h
  by_cases h157 : (decide (x109 < (((List.length x27) : Nat) : Int))) = true
  ·rw [if_pos h157] at h
   obtain ⟨h158, h⟩ := req_some h
   obtain ⟨x110, h159, h⟩ := bind_some h
   try dsimp only at h
   obtain ⟨h160, h⟩ := req_some h
   obtain ⟨x111, h161, h⟩ := bind_some h
   try dsimp only at h
   by_cases h162 : (decide (x111 ≤ x107)) = true
   ·rw [if_pos h162] at h
    obtain ⟨x112, h163, h⟩ := bind_some h
    try dsimp only at h
    obtain ⟨x113, h165, h⟩ := bind_some h
    have ch165 := f7_p25_ok F x27 x106 x107 x108 x1 x109 x112 x4 x5 x6 x25 x26 x104 x105 _ h165
    try dsimp only at h
    exact Lp.again (gRun_ok cxOK (f7_p22_e0 x1 x4 x5 x6 x25 x26 x27 x104 x105 x106 x107 x108 x109 x110 x111 x112 x113) ⟨h157, h158, ⟨x110, h159, rfl⟩, h160, ⟨x111, h161, rfl⟩, h162, h162, h162, h160, h162, ⟨x112, h163, rfl⟩, h162, h162, ch165, trivial⟩) (f7_p22_ok F x27 x106 x107 x1 x4 x5 x6 x25 x26 x104 x105 k x113 (w64 (x109 + 1)) r h)
   ·rw [if_neg h162] at h
    have h162 := eF h162
    exact Lp.again (gRun_ok cxOK (f7_p22_e1 x1 x4 x5 x6 x25 x26 x27 x104 x105 x106 x107 x108 x109 x110 x111) ⟨h157, h158, ⟨x110, h159, rfl⟩, h160, ⟨x111, h161, rfl⟩, h162, h162, h162, h162, h162, h162, rfl, trivial⟩) (f7_p22_ok F x27 x106 x107 x1 x4 x5 x6 x25 x26 x104 x105 k x108 (w64 (x109 + 1)) r h)
  ·rw [if_neg h157] at h
   have h157 := eF h157
   obtain rfl := sI h
   exact Lp.out (gRun_ok cxOK (f7_p22_e2 x1 x4 x5 x6 x25 x26 x27 x104 x105 x106 x107 x108 x109) ⟨h157, trivial⟩) (by intro hh; cases hh)
theorem f7_p18_ok (F : Nat) (x27 : LI) (x1 x4 : Int) (x5 : Bool) (x6 x25 x26 : LI) (x104 : Int) (x105 : List (Int × (Int × Unit))) : ∀ (k : Nat) (x106 x107 : Int) (r : Int), f7_p18 F x27 x1 x4 x5 x6 x25 x26 x104 x105 k x106 x107 = some r → f7_p18_P x27 x1 x4 x5 x6 x25 x26 x104 x105 x106 x107 r
 | 0, _, _, _, h => by cases h
 | k + 1, x106, x107, r, h => by
  unfold f7_p18 at h
  by_cases h156 : (decide (x107 < (w64 (2 * (w64 (1 + (Int.tmod (w64 (x1)) 8))))))) = true
  ·rw [if_pos h156] at h
   obtain ⟨x114, h166, h⟩ := bind_some h
   have ch166 := f7_p22_ok F x27 x106 x107 x1 x4 x5 x6 x25 x26 x104 x105 F 0 0 _ h166
   try dsimp only at h
   exact Lp.again (gRun_ok cxOK (f7_p18_e0 x1 x4 x5 x6 x25 x26 x27 x104 x105 x106 x107 x114) ⟨h156, ch166, trivial⟩) (f7_p18_ok F x27 x1 x4 x5 x6 x25 x26 x104 x105 k (if x114 > x106 then x114 else x106) (w64 (x107 + 1)) r h)
  ·rw [if_neg h156] at h
   have h156 := eF h156
   obtain rfl := sI h
   exact Lp.out (gRun_ok cxOK (f7_p18_e1 x1 x4 x5 x6 x25 x26 x27 x104 x105 x106 x107) ⟨h156, trivial⟩) (by intro hh; cases hh)
theorem f7_p33_ok (F : Nat) (x27 : LI) (x121 : Int) (x123 : LI) (x4 : Int) (x5 : Bool) (x6 : LI) (x104 : Int) (x105 : List (Int × (Int × Unit))) : ∀ (k : Nat) (x125 : Int) (r : f7_p33_R), f7_p33 F x27 x121 x123 x4 x5 x6 x104 x105 k x125 = some r → f7_p33_P x27 x121 x123 x4 x5 x6 x104 x105 x125 r
 | 0, _, _, h => by cases h
 | k + 1, x125, r, h => by
  unfold f7_p33 at h
  by_cases h181 : (decide (x125 < ((List.length x123 : Nat) : Int))) = true
  ·rw [if_pos h181] at h
   obtain ⟨x126, h182, h⟩ := bind_some h
   try dsimp only at h
   obtain ⟨x127, h183, h⟩ := bind_some h
   have ch183 := f36_ok F (List.drop 0 (List.take (0 + (List.length x27)) x27)) x126 _ h183
   try dsimp only at h
   by_cases h184 : (decide (x127 < 0)) = true
   ·rw [if_pos h184] at h
    obtain rfl := sI h
    exact Lp.out (gRun_ok cxOK (f7_p33_e0 x4 x5 x6 x27 x104 x105 x121 x123 x125 x126 x127) ⟨h181, ⟨(at?_spec h182).1, x126, (at?_spec h182).2, rfl⟩, ch183, (Nat.le_of_eq (Nat.zero_add _)), h184, h184, h184, h184, rfl, rfl, rfl, rfl, rfl, rfl, rfl, rfl, rfl, rfl, rfl, rfl, rfl, trivial⟩) (by intro hh; cases hh)
   ·rw [if_neg h184] at h
    have h184 := eF h184
    by_cases h185 : (x121 == x127) = true
    ·rw [if_pos h185] at h
     obtain rfl := sI h
     exact Lp.out (gRun_ok cxOK (f7_p33_e1 x4 x5 x6 x27 x104 x105 x121 x123 x125 x126 x127) ⟨h181, ⟨(at?_spec h182).1, x126, (at?_spec h182).2, rfl⟩, ch183, (Nat.le_of_eq (Nat.zero_add _)), h184, h184, h184, h184, h185, h185, h185, h185, h185, h185, h185, h185, h185, h185, h185, h185, rfl, trivial⟩) (by intro hh; cases hh)
    ·rw [if_neg h185] at h
     have h185 := eF h185
     obtain ⟨x128, h186, h⟩ := bind_some h
     have ch186 := f38_ok F (List.drop 0 (List.take (0 + (List.length x105)) x105)) [(if x127 < x121 then x127 else x121), (if x127 > x121 then x127 else x121)] _ h186
     try dsimp only at h
     by_cases h187 : x128 = true
     ·rw [if_pos h187] at h
      exact Lp.again (gRun_ok cxOK (f7_p33_e2 x4 x5 x6 x27 x104 x105 x121 x123 x125 x126 x127 x128) ⟨h181, ⟨(at?_spec h182).1, x126, (at?_spec h182).2, rfl⟩, ch183, (Nat.le_of_eq (Nat.zero_add _)), h184, h184, h184, h184, h185, h185, h185, h185, h185, h185, h185, h185, h185, h185, ch186, h185, h185, (by rw [h187]; rfl), trivial⟩) (f7_p33_ok F x27 x121 x123 x4 x5 x6 x104 x105 k (w64 (x125 + 1)) r h)
     ·rw [if_neg h187] at h
      have h187 := eF h187
      obtain rfl := sI h
      exact Lp.out (gRun_ok cxOK (f7_p33_e3 x4 x5 x6 x27 x104 x105 x121 x123 x125 x126 x127 x128) ⟨h181, ⟨(at?_spec h182).1, x126, (at?_spec h182).2, rfl⟩, ch183, (Nat.le_of_eq (Nat.zero_add _)), h184, h184, h184, h184, h185, h185, h185, h185, h185, h185, h185, h185, h185, h185, ch186, h185, h185, (by rw [h187]; rfl), trivial⟩) (by intro hh; cases hh)
  ·rw [if_neg h181] at h
   have h181 := eF h181
   obtain rfl := sI h
   exact Lp.out (gRun_ok cxOK (f7_p33_e4 x4 x5 x6 x27 x104 x105 x121 x123 x125) ⟨h181, trivial⟩) (by intro hh; cases hh)
theorem f7_p28_ok (F : Nat) (x27 : LI) (x4 : Int) (x5 : Bool) (x6 : LI) (x104 : Int) (x105 : List (Int × (Int × Unit))) : ∀ (k : Nat) (x121 : Int) (r : f7_p28_R), f7_p28 F x27 x4 x5 x6 x104 x105 k x121 = some r → f7_p28_P x27 x4 x5 x6 x104 x105 x121 r
 | 0, _, _, h => by cases h
 | k + 1, x121, r, h => by
  unfold f7_p28 at h
  by_cases h176 : (decide (x121 < (((List.length x27) : Nat) : Int))) = true
  ·rw [if_pos h176] at h
   obtain ⟨h177, h⟩ := req_some h
   obtain ⟨x122, h178, h⟩ := bind_some h
   try dsimp only at h
   obtain ⟨rh179, h179, h⟩ := bind_some h
   have ch179 := f37_ok F x4 x5 x6 x122 _ h179
   obtain ⟨x123, x124⟩ := rh179
   try dsimp only at h
   by_cases h180 : (x124 != 0) = true
   ·rw [if_pos h180] at h
    obtain rfl := sI h
    exact Lp.out (gRun_ok cxOK (f7_p28_e0 x4 x5 x6 x27 x104 x105 x121 x122 x123 x124) ⟨h176, h177, ⟨x122, h178, rfl⟩, ch179, h180, trivial⟩) (by intro hh; cases hh)
   ·rw [if_neg h180] at h
    have h180 := eF h180
    obtain ⟨rh188, h188, h⟩ := bind_some h
    have ch188 := f7_p33_ok F x27 x121 x123 x4 x5 x6 x104 x105 F 0 _ h188
    cases rh188 with
    | c0 =>
     try dsimp only at h
     obtain rfl := sI h
     exact Lp.out (gRun_ok cxOK (f7_p28_e1 x4 x5 x6 x27 x104 x105 x121 x122 x123 x124) ⟨h176, h177, ⟨x122, h178, rfl⟩, ch179, h180, ch188, trivial⟩) (by intro hh; cases hh)
    | c1 =>
     try dsimp only at h
     exact Lp.again (gRun_ok cxOK (f7_p28_e2 x4 x5 x6 x27 x104 x105 x121 x122 x123 x124) ⟨h176, h177, ⟨x122, h178, rfl⟩, ch179, h180, ch188, trivial⟩) (f7_p28_ok F x27 x4 x5 x6 x104 x105 k (w64 (x121 + 1)) r h)
  ·rw [if_neg h176] at h
   have h176 := eF h176
   obtain rfl := sI h
   exact Lp.out (gRun_ok cxOK (f7_p28_e3 x4 x5 x6 x27 x104 x105 x121) ⟨h176, trivial⟩) (by intro hh; cases hh)
theorem f7_ok (F : Nat) (x1 : Int) (x2 : Bool) (x3 : LI) (r : Bool) (h : f7 F x1 x2 x3 = some r) : f7_C x1 x2 x3 r := by
 unfold f7 at h
 obtain ⟨rh1, h1, h⟩ := bind_some h
 have ch1 := f34_ok F (w64 (1 + (Int.tmod (w64 (x1)) 8))) x2 x3 _ h1
 obtain ⟨x4, x5, x6, x7⟩ := rh1
 try dsimp only at h
 by_cases h2 : x7 = true
 ·rw [if_pos h2] at h
  obtain ⟨rh33, h33, h⟩ := bind_some h
  have ch33 := f7_p2_ok F x1 x4 x5 x6 F 1 (List.replicate 9 0) (List.replicate 9 0) ([] : List Int) _ h33
  cases rh33 with
  | c0 =>
   try dsimp only at h
   cases h
  | c1 x25 x26 x27 =>
   try dsimp only at h
   by_cases h34 : ((((List.length x27) : Nat) : Int) == 0) = true
   ·rw [if_pos h34] at h
    obtain ⟨x28, h35, h⟩ := bind_some h
    have ch35 := f33_ok F _ h35
    try dsimp only at h
    obtain rfl := sI h
    exact callOK cxOK cxW Tryd.func7 (by kernel_rfl) (f7_e0 x1 x2 x3 x4 x5 x6 x7 x25 x26 x27 x28) ⟨(by decide), ch1, (by rw [h2]; rfl), ch33, h34, ch35, trivial⟩
   ·rw [if_neg h34] at h
    have h34 := eF h34
    obtain ⟨rh155, h155, h⟩ := bind_some h
    have ch155 := f7_p9_ok F x1 x27 x4 x5 x6 x25 x26 F 0 (((List.length x27) : Nat) : Int) ([] : List (Int × (Int × Unit))) _ h155
    obtain ⟨x104, x105⟩ := rh155
    try dsimp only at h
    obtain ⟨x115, h167, h⟩ := bind_some h
    have ch167 := f7_p18_ok F x27 x1 x4 x5 x6 x25 x26 x104 x105 F 0 0 _ h167
    try dsimp only at h
    obtain ⟨rh168, h168, h⟩ := bind_some h
    have ch168 := f30_ok F x104 (List.drop 0 (List.take (0 + (List.length x105)) x105)) _ h168
    obtain ⟨x116, x117⟩ := rh168
    try dsimp only at h
    obtain ⟨rh169, h169, h⟩ := bind_some h
    have ch169 := f31_ok F x104 (List.drop 0 (List.take (0 + (List.length x105)) x105)) _ h169
    obtain ⟨x118, x119⟩ := rh169
    try dsimp only at h
    by_cases h170 : (x117 != 0) = true
    ·rw [if_pos h170] at h
     cases h
    ·rw [if_neg h170] at h
     have h170 := eF h170
     by_cases h171 : (x119 != 0) = true
     ·rw [if_pos h171] at h
      cases h
     ·rw [if_neg h171] at h
      have h171 := eF h171
      by_cases h172 : (((List.length x116 : Nat) : Int) != x115) = true
      ·rw [if_pos h172] at h
       cases h
      ·rw [if_neg h172] at h
       have h172 := eF h172
       by_cases h173 : (((List.length x118 : Nat) : Int) != (((List.length x27) : Nat) : Int)) = true
       ·rw [if_pos h173] at h
        cases h
       ·rw [if_neg h173] at h
        have h173 := eF h173
        obtain ⟨x120, h174, h⟩ := bind_some h
        have ch174 := f32_ok F x118 _ h174
        try dsimp only at h
        by_cases h175 : ((w64 (x120 + 1)) != x115) = true
        ·rw [if_pos h175] at h
         cases h
        ·rw [if_neg h175] at h
         have h175 := eF h175
         obtain ⟨rh189, h189, h⟩ := bind_some h
         have ch189 := f7_p28_ok F x27 x4 x5 x6 x104 x105 F 0 _ h189
         cases rh189 with
         | c0 =>
          try dsimp only at h
          cases h
         | c1 =>
          try dsimp only at h
          obtain ⟨x129, h190, h⟩ := bind_some h
          have ch190 := f33_ok F _ h190
          try dsimp only at h
          obtain rfl := sI h
          exact callOK cxOK cxW Tryd.func7 (by kernel_rfl) (f7_e1 x1 x2 x3 x4 x5 x6 x7 x25 x26 x27 x104 x105 x115 x116 x117 x118 x119 x120 x129) ⟨(by decide), ch1, (by rw [h2]; rfl), ch33, h34, ch155, ch167, (Nat.le_of_eq (Nat.zero_add _)), ch168, ch169, h170, h170, h170, h171, h171, h171, h171, h171, h172, h172, h172, h172, h172, h172, h173, h173, ch174, h173, h173, h173, h173, h175, ch189, ch190, trivial⟩
 ·rw [if_neg h2] at h
  have h2 := eF h2
  cases h

end Go.Gh.Top
