/- Top6F1: printed by wip/tool/gx.py -/
import Derived.Test.YtcaphjiiaclndaaDoorTop6F0
namespace Go.Gh.Top
set_option linter.unusedVariables false
set_option linter.unusedSimpArgs false
open Go.Proofs

theorem f6_p4_1_ok (F : Nat) (x1 : Int) (x5 x2 : LI) (x6 : Int) (x7 : Bool) (r : (List Int)) (h : f6_p4_1 F x1 x5 x2 x6 x7 = some r) : f6_p4_1_P x1 x5 x2 x6 x7 r := by
 unfold f6_p4_1 at h
 by_cases h14 : x7 = true
 ·rw [if_pos h14] at h
  obtain rfl := Option.some.inj h
  exact gRun_ok cxOK (f6_p4_1_e0 x1 x2 x5 x6 x7) ⟨(by rw [h14]; rfl), trivial⟩
 ·rw [if_neg h14] at h
  have h14 := Bool.eq_false_iff.2 h14
  obtain ⟨h15, h⟩ := req_some h
  obtain rfl := Option.some.inj h
  exact gRun_ok cxOK (f6_p4_1_e1 x1 x2 x5 x6 x7) ⟨(by rw [h14]; rfl), h15, rfl, trivial⟩
theorem f6_p1_ok (F : Nat) (x1 : Int) (x2 : LI) : ∀ (k : Nat) (x6 : Int) (x5 : LI) (r : (List Int)), f6_p1 F x1 x2 k x6 x5 = some r → f6_p1_P x1 x2 x6 x5 r
 | 0, _, _, _, h => by cases h
 | k + 1, x6, x5, r, h => by
  unfold f6_p1 at h
  by_cases h9 : (decide (x6 < 8)) = true
  ·rw [if_pos h9] at h
   obtain ⟨h10, h⟩ := req_some h
   obtain ⟨h11, h⟩ := req_some h
   obtain ⟨h12, h⟩ := req_some h
   obtain ⟨x7, h13, h⟩ := bind_some h
   have ch13 := f25_ok F (List.drop 0 (List.take (0 + (List.length x5)) x5)) (Int.tmod (w64 (((x2)[(Int.toNat x6)]?.getD 0))) (iShl .i64 1 (w64 (1 + (Int.tmod (w64 (x1)) 6))))) _ h13
   try dsimp only at h
   obtain ⟨x8, h16, h⟩ := bind_some h
   have ch16 := f6_p4_1_ok F x1 x5 x2 x6 x7 _ h16
   try dsimp only at h
   exact Lp.again (gRun_ok cxOK (f6_p1_e0 x1 x2 x5 x6 x7 x8) ⟨h9, h10, h11, h12, ch13, (Nat.le_of_eq (Nat.zero_add _)), ch16, trivial⟩) (f6_p1_ok F x1 x2 k (w64 (x6 + 1)) x8 r h)
  ·rw [if_neg h9] at h
   have h9 := Bool.eq_false_iff.2 h9
   obtain rfl := Option.some.inj h
   exact Lp.out (gRun_ok cxOK (f6_p1_e1 x1 x2 x5 x6) ⟨h9, trivial⟩) (by intro hh; cases hh)
theorem f6_p19_13_ok (F : Nat) (x1 : Int) (x9 : LI) (x10 : Int) (x13 : Bool) (x80 x82 : Int) (x92 x12 : Int) (x99 x93 : Int) (x91 : List (Int × (Int × Unit))) (r : (List (Int × (Int × Unit)))) (h : f6_p19_13 F x1 x9 x10 x13 x80 x82 x92 x12 x99 x93 x91 = some r) : f6_p19_13_P x1 x9 x10 x13 x80 x82 x92 x12 x99 x93 x91 r := by
 unfold f6_p19_13 at h
 by_cases h161 : ((x99 == 12) == x13) = true
 ·rw [if_pos h161] at h
  obtain ⟨h162, h⟩ := req_some h
  obtain rfl := Option.some.inj h
  exact gRun_ok cxOK (f6_p19_13_e0 x1 x9 x10 x12 x13 x80 x82 x91 x92 x93 x99) ⟨h161, h162, rfl, trivial⟩
 ·rw [if_neg h161] at h
  have h161 := Bool.eq_false_iff.2 h161
  obtain rfl := Option.some.inj h
  exact gRun_ok cxOK (f6_p19_13_e1 x1 x9 x10 x12 x13 x80 x82 x91 x92 x93 x99) ⟨h161, trivial⟩
theorem f6_p19_14_ok (F : Nat) (x1 : Int) (x9 : LI) (x10 : Int) (x13 : Bool) (x80 x82 : Int) (x92 x12 : Int) (x99 x93 : Int) (x91 : List (Int × (Int × Unit))) (r : (List (Int × (Int × Unit)))) (h : f6_p19_14 F x1 x9 x10 x13 x80 x82 x92 x12 x99 x93 x91 = some r) : f6_p19_14_P x1 x9 x10 x13 x80 x82 x92 x12 x99 x93 x91 r := by
 unfold f6_p19_14 at h
 by_cases h164 : ((x99 == 12) == x13) = true
 ·rw [if_pos h164] at h
  obtain ⟨h165, h⟩ := req_some h
  obtain rfl := Option.some.inj h
  exact gRun_ok cxOK (f6_p19_14_e0 x1 x9 x10 x12 x13 x80 x82 x91 x92 x93 x99) ⟨h164, h165, rfl, trivial⟩
 ·rw [if_neg h164] at h
  have h164 := Bool.eq_false_iff.2 h164
  obtain rfl := Option.some.inj h
  exact gRun_ok cxOK (f6_p19_14_e1 x1 x9 x10 x12 x13 x80 x82 x91 x92 x93 x99) ⟨h164, trivial⟩
theorem f6_p19_15_ok (F : Nat) (x1 : Int) (x9 : LI) (x10 : Int) (x13 : Bool) (x80 x82 : Int) (x92 x12 : Int) (x99 x93 : Int) (x91 : List (Int × (Int × Unit))) (r : (List (Int × (Int × Unit)))) (h : f6_p19_15 F x1 x9 x10 x13 x80 x82 x92 x12 x99 x93 x91 = some r) : f6_p19_15_P x1 x9 x10 x13 x80 x82 x92 x12 x99 x93 x91 r := by
 unfold f6_p19_15 at h
 by_cases h170 : ((x99 == 12) == x13) = true
 ·rw [if_pos h170] at h
  obtain ⟨h171, h⟩ := req_some h
  obtain rfl := Option.some.inj h
  exact gRun_ok cxOK (f6_p19_15_e0 x1 x9 x10 x12 x13 x80 x82 x91 x92 x93 x99) ⟨h170, h171, rfl, trivial⟩
 ·rw [if_neg h170] at h
  have h170 := Bool.eq_false_iff.2 h170
  obtain rfl := Option.some.inj h
  exact gRun_ok cxOK (f6_p19_15_e1 x1 x9 x10 x12 x13 x80 x82 x91 x92 x93 x99) ⟨h170, trivial⟩
theorem f6_p19_16_ok (F : Nat) (x1 : Int) (x9 : LI) (x10 : Int) (x13 : Bool) (x80 x82 : Int) (x92 x12 : Int) (x99 x93 : Int) (x91 : List (Int × (Int × Unit))) (r : (List (Int × (Int × Unit)))) (h : f6_p19_16 F x1 x9 x10 x13 x80 x82 x92 x12 x99 x93 x91 = some r) : f6_p19_16_P x1 x9 x10 x13 x80 x82 x92 x12 x99 x93 x91 r := by
 unfold f6_p19_16 at h
 by_cases h173 : ((x99 == 12) == x13) = true
 ·rw [if_pos h173] at h
  obtain ⟨h174, h⟩ := req_some h
  obtain rfl := Option.some.inj h
  exact gRun_ok cxOK (f6_p19_16_e0 x1 x9 x10 x12 x13 x80 x82 x91 x92 x93 x99) ⟨h173, h174, rfl, trivial⟩
 ·rw [if_neg h173] at h
  have h173 := Bool.eq_false_iff.2 h173
  obtain rfl := Option.some.inj h
  exact gRun_ok cxOK (f6_p19_16_e1 x1 x9 x10 x12 x13 x80 x82 x91 x92 x93 x99) ⟨h173, trivial⟩
theorem f6_p15_2_ok (F : Nat) (x1 : Int) (x9 : LI) (x10 : Int) (x13 : Bool) (x80 x82 x12 : Int) : ∀ (k : Nat) (x92 x93 : Int) (x91 : List (Int × (Int × Unit))) (r : f6_p15_2_R), f6_p15_2 F x1 x9 x10 x13 x80 x82 x12 k x92 x93 x91 = some r → f6_p15_2_P x1 x9 x10 x13 x80 x82 x12 x92 x93 x91 r
 | 0, _, _, _, _, h => by cases h
 | k + 1, x92, x93, x91, r, h => by
  unfold f6_p15_2 at h
  by_cases h151 : (decide (x92 < (((Int.toNat x80) : Nat) : Int))) = true
  ·rw [if_pos h151] at h
   obtain ⟨h152, h⟩ := req_some h
   obtain ⟨x94, h153, h⟩ := bind_some h
   try dsimp only at h
   obtain ⟨x95, h154, h⟩ := bind_some h
   have ch154 := f24_ok F x94 (w64 (1 + (Int.tmod (w64 (x1)) 6))) _ h154
   try dsimp only at h
   obtain ⟨x96, h155, h⟩ := bind_some h
   have ch155 := f24_ok F x82 (w64 (1 + (Int.tmod (w64 (x1)) 6))) _ h155
   try dsimp only at h
   obtain ⟨rh156, h156, h⟩ := bind_some h
   have ch156 := f29_ok F (w64 (1 + (Int.tmod (w64 (x1)) 6))) ([x95, x96] : List (List Int)) _ h156
   obtain ⟨x97, x98, x99⟩ := rh156
   try dsimp only at h
   by_cases h157 : ((iAndNot .i64 x94 x82) == 0) = true
   ·rw [if_pos h157] at h
    by_cases h158 : ((x99 == 0) == true) = true
    ·rw [if_pos h158] at h
     by_cases h159 : (x99 != 0) = true
     ·rw [if_pos h159] at h
      by_cases h160 : (x99 != 12) = true
      ·rw [if_pos h160] at h
       obtain rfl := Option.some.inj h
       exact Lp.out (gRun_ok cxOK (f6_p15_2_e0 x1 x9 x10 x12 x13 x80 x82 x91 x92 x93 x94 x95 x96 x97 x98 x99) ⟨h151, h152, ⟨x94, h153, rfl⟩, ch154, ch155, ch156, h157, h157, h157, h157, h157, (by rw [h158]; rfl), (by rw [h158]; rfl), (by rw [h158]; rfl), h159, h159, (by rw [h158]; rfl), h159, (by rw [h158]; rfl), h160, trivial⟩) (by intro hh; cases hh)
      ·rw [if_neg h160] at h
       have h160 := Bool.eq_false_iff.2 h160
       obtain ⟨x100, h163, h⟩ := bind_some h
       have ch163 := f6_p19_13_ok F x1 x9 x10 x13 x80 x82 x92 x12 x99 x93 x91 _ h163
       try dsimp only at h
       exact Lp.again (gRun_ok cxOK (f6_p15_2_e1 x1 x9 x10 x12 x13 x80 x82 x91 x92 x93 x94 x95 x96 x97 x98 x99 x100) ⟨h151, h152, ⟨x94, h153, rfl⟩, ch154, ch155, ch156, h157, h157, h157, h157, h157, (by rw [h158]; rfl), (by rw [h158]; rfl), (by rw [h158]; rfl), h159, h159, (by rw [h158]; rfl), h159, (by rw [h158]; rfl), h160, ch163, trivial⟩) (f6_p15_2_ok F x1 x9 x10 x13 x80 x82 x12 k (w64 (x92 + 1)) x93 x100 r h)
     ·rw [if_neg h159] at h
      have h159 := Bool.eq_false_iff.2 h159
      obtain ⟨x101, h166, h⟩ := bind_some h
      have ch166 := f6_p19_14_ok F x1 x9 x10 x13 x80 x82 x92 x12 x99 x93 x91 _ h166
      try dsimp only at h
      exact Lp.again (gRun_ok cxOK (f6_p15_2_e2 x1 x9 x10 x12 x13 x80 x82 x91 x92 x93 x94 x95 x96 x97 x98 x99 x101) ⟨h151, h152, ⟨x94, h153, rfl⟩, ch154, ch155, ch156, h157, h157, h157, h157, h157, (by rw [h158]; rfl), (by rw [h158]; rfl), (by rw [h158]; rfl), h159, h159, (by rw [h158]; rfl), h159, (by rw [h158]; rfl), rfl, ch166, trivial⟩) (f6_p15_2_ok F x1 x9 x10 x13 x80 x82 x12 k (w64 (x92 + 1)) x93 x101 r h)
    ·rw [if_neg h158] at h
     have h158 := Bool.eq_false_iff.2 h158
     obtain rfl := Option.some.inj h
     exact Lp.out (gRun_ok cxOK (f6_p15_2_e3 x1 x9 x10 x12 x13 x80 x82 x91 x92 x93 x94 x95 x96 x97 x98 x99) ⟨h151, h152, ⟨x94, h153, rfl⟩, ch154, ch155, ch156, h157, h157, h157, h157, h157, (by rw [h158]; rfl), (by rw [h158]; rfl), (by rw [h158]; rfl), (by rw [h158]; rfl), (by rw [h158]; rfl), rfl, trivial⟩) (by intro hh; cases hh)
   ·rw [if_neg h157] at h
    have h157 := Bool.eq_false_iff.2 h157
    by_cases h167 : ((x99 == 0) == ((iAndNot .i64 x82 x94) == 0)) = true
    ·rw [if_pos h167] at h
     by_cases h168 : (x99 != 0) = true
     ·rw [if_pos h168] at h
      by_cases h169 : (x99 != 12) = true
      ·rw [if_pos h169] at h
       obtain rfl := Option.some.inj h
       exact Lp.out (gRun_ok cxOK (f6_p15_2_e4 x1 x9 x10 x12 x13 x80 x82 x91 x92 x93 x94 x95 x96 x97 x98 x99) ⟨h151, h152, ⟨x94, h153, rfl⟩, ch154, ch155, ch156, h157, h157, h157, h157, h157, (by rw [h167]; rfl), (by rw [h167]; rfl), (by rw [h167]; rfl), h168, h168, (by rw [h167]; rfl), h168, (by rw [h167]; rfl), h169, trivial⟩) (by intro hh; cases hh)
      ·rw [if_neg h169] at h
       have h169 := Bool.eq_false_iff.2 h169
       obtain ⟨x102, h172, h⟩ := bind_some h
       have ch172 := f6_p19_15_ok F x1 x9 x10 x13 x80 x82 x92 x12 x99 x93 x91 _ h172
       try dsimp only at h
       exact Lp.again (gRun_ok cxOK (f6_p15_2_e5 x1 x9 x10 x12 x13 x80 x82 x91 x92 x93 x94 x95 x96 x97 x98 x99 x102) ⟨h151, h152, ⟨x94, h153, rfl⟩, ch154, ch155, ch156, h157, h157, h157, h157, h157, (by rw [h167]; rfl), (by rw [h167]; rfl), (by rw [h167]; rfl), h168, h168, (by rw [h167]; rfl), h168, (by rw [h167]; rfl), h169, ch172, trivial⟩) (f6_p15_2_ok F x1 x9 x10 x13 x80 x82 x12 k (w64 (x92 + 1)) x93 x102 r h)
     ·rw [if_neg h168] at h
      have h168 := Bool.eq_false_iff.2 h168
      obtain ⟨x103, h175, h⟩ := bind_some h
      have ch175 := f6_p19_16_ok F x1 x9 x10 x13 x80 x82 x92 x12 x99 x93 x91 _ h175
      try dsimp only at h
      exact Lp.again (gRun_ok cxOK (f6_p15_2_e6 x1 x9 x10 x12 x13 x80 x82 x91 x92 x93 x94 x95 x96 x97 x98 x99 x103) ⟨h151, h152, ⟨x94, h153, rfl⟩, ch154, ch155, ch156, h157, h157, h157, h157, h157, (by rw [h167]; rfl), (by rw [h167]; rfl), (by rw [h167]; rfl), h168, h168, (by rw [h167]; rfl), h168, (by rw [h167]; rfl), rfl, ch175, trivial⟩) (f6_p15_2_ok F x1 x9 x10 x13 x80 x82 x12 k (w64 (x92 + 1)) x93 x103 r h)
    ·rw [if_neg h167] at h
     have h167 := Bool.eq_false_iff.2 h167
     obtain rfl := Option.some.inj h
     exact Lp.out (gRun_ok cxOK (f6_p15_2_e7 x1 x9 x10 x12 x13 x80 x82 x91 x92 x93 x94 x95 x96 x97 x98 x99) ⟨h151, h152, ⟨x94, h153, rfl⟩, ch154, ch155, ch156, h157, h157, h157, h157, h157, (by rw [h167]; rfl), (by rw [h167]; rfl), (by rw [h167]; rfl), (by rw [h167]; rfl), (by rw [h167]; rfl), rfl, trivial⟩) (by intro hh; cases hh)
  ·rw [if_neg h151] at h
   have h151 := Bool.eq_false_iff.2 h151
   obtain rfl := Option.some.inj h
   exact Lp.out (gRun_ok cxOK (f6_p15_2_e8 x1 x9 x10 x12 x13 x80 x82 x91 x92 x93) ⟨h151, trivial⟩) (by intro hh; cases hh)
theorem f6_p11_ok (F : Nat) (x1 : Int) (x9 : LI) (x10 : Int) (x13 : Bool) (x12 : Int) : ∀ (k : Nat) (x80 x81 : Int) (x79 : List (Int × (Int × Unit))) (r : f6_p11_R), f6_p11 F x1 x9 x10 x13 x12 k x80 x81 x79 = some r → f6_p11_P x1 x9 x10 x13 x12 x80 x81 x79 r
 | 0, _, _, _, _, h => by cases h
 | k + 1, x80, x81, x79, r, h => by
  unfold f6_p11 at h
  by_cases h134 : (decide (x80 < (((List.length x9) : Nat) : Int))) = true
  ·rw [if_pos h134] at h
   obtain ⟨h135, h⟩ := req_some h
   obtain ⟨x82, h136, h⟩ := bind_some h
   try dsimp only at h
   obtain ⟨h137, h⟩ := req_some h
   obtain ⟨rh176, h176, h⟩ := bind_some h
   have ch176 := f6_p15_2_ok F x1 x9 x10 x13 x80 x82 x12 F 0 x81 x79 _ h176
   cases rh176 with
   | c0 =>
    try dsimp only at h
    obtain rfl := Option.some.inj h
    exact Lp.out (gRun_ok cxOK (f6_p11_e0 x1 x9 x10 x12 x13 x79 x80 x81 x82) ⟨h134, h135, ⟨x82, h136, rfl⟩, h137, ch176, trivial⟩) (by intro hh; cases hh)
   | c1 x104 x105 =>
    try dsimp only at h
    exact Lp.again (gRun_ok cxOK (f6_p11_e1 x1 x9 x10 x12 x13 x79 x80 x81 x82 x104 x105) ⟨h134, h135, ⟨x82, h136, rfl⟩, h137, ch176, trivial⟩) (f6_p11_ok F x1 x9 x10 x13 x12 k (w64 (x80 + 1)) x104 x105 r h)
  ·rw [if_neg h134] at h
   have h134 := Bool.eq_false_iff.2 h134
   obtain rfl := Option.some.inj h
   exact Lp.out (gRun_ok cxOK (f6_p11_e2 x1 x9 x10 x12 x13 x79 x80 x81) ⟨h134, trivial⟩) (by intro hh; cases hh)
theorem f6_p26_ok (F : Nat) (x1 : Int) (x9 : LI) (x10 : Int) (x13 : Bool) (x110 : LI) (x113 x12 : Int) : ∀ (k : Nat) (x114 : Int) (r : f6_p26_R), f6_p26 F x1 x9 x10 x13 x110 x113 x12 k x114 = some r → f6_p26_P x1 x9 x10 x13 x110 x113 x12 x114 r
 | 0, _, _, h => by cases h
 | k + 1, x114, r, h => by
  unfold f6_p26 at h
  by_cases h189 : (decide (x114 < x113)) = true
  ·rw [if_pos h189] at h
   obtain ⟨h190, h⟩ := req_some h
   obtain ⟨x115, h191, h⟩ := bind_some h
   try dsimp only at h
   obtain ⟨h192, h⟩ := req_some h
   obtain ⟨x116, h193, h⟩ := bind_some h
   try dsimp only at h
   by_cases h194 : ((iAndNot .i64 x115 x116) == 0) = true
   ·rw [if_pos h194] at h
    obtain ⟨x117, h195, h⟩ := bind_some h
    try dsimp only at h
    obtain ⟨x118, h196, h⟩ := bind_some h
    try dsimp only at h
    by_cases h197 : (x117 == x118) = true
    ·rw [if_pos h197] at h
     by_cases h198 : (true == x13) = true
     ·rw [if_pos h198] at h
      exact Lp.again (gRun_ok cxOK (f6_p26_e0 x1 x9 x10 x12 x13 x110 x113 x114 x115 x116 x117 x118) ⟨h189, h190, ⟨x115, h191, rfl⟩, h192, ⟨x116, h193, rfl⟩, h194, h194, h194, h194, h194, h194, h194, h194, h194, h194, h194, ⟨(at?_spec h195).1, x117, (at?_spec h195).2, rfl⟩, ⟨(at?_spec h196).1, x118, (at?_spec h196).2, rfl⟩, h197, h197, h197, h197, (by rw [h198]; rfl), trivial⟩) (f6_p26_ok F x1 x9 x10 x13 x110 x113 x12 k (w64 (x114 + 1)) r h)
     ·rw [if_neg h198] at h
      have h198 := Bool.eq_false_iff.2 h198
      obtain rfl := Option.some.inj h
      exact Lp.out (gRun_ok cxOK (f6_p26_e1 x1 x9 x10 x12 x13 x110 x113 x114 x115 x116 x117 x118) ⟨h189, h190, ⟨x115, h191, rfl⟩, h192, ⟨x116, h193, rfl⟩, h194, h194, h194, h194, h194, h194, h194, h194, h194, h194, h194, ⟨(at?_spec h195).1, x117, (at?_spec h195).2, rfl⟩, ⟨(at?_spec h196).1, x118, (at?_spec h196).2, rfl⟩, h197, h197, h197, h197, (by rw [h198]; rfl), trivial⟩) (by intro hh; cases hh)
    ·rw [if_neg h197] at h
     have h197 := Bool.eq_false_iff.2 h197
     exact Lp.again (gRun_ok cxOK (f6_p26_e2 x1 x9 x10 x12 x13 x110 x113 x114 x115 x116 x117 x118) ⟨h189, h190, ⟨x115, h191, rfl⟩, h192, ⟨x116, h193, rfl⟩, h194, h194, h194, h194, h194, h194, h194, h194, h194, h194, h194, ⟨(at?_spec h195).1, x117, (at?_spec h195).2, rfl⟩, ⟨(at?_spec h196).1, x118, (at?_spec h196).2, rfl⟩, h197, h197, h197, h197, rfl, trivial⟩) (f6_p26_ok F x1 x9 x10 x13 x110 x113 x12 k (w64 (x114 + 1)) r h)
   ·rw [if_neg h194] at h
    have h194 := Bool.eq_false_iff.2 h194
    obtain ⟨x119, h199, h⟩ := bind_some h
    try dsimp only at h
    obtain ⟨x120, h200, h⟩ := bind_some h
    try dsimp only at h
    by_cases h201 : (x119 == x120) = true
    ·rw [if_pos h201] at h
     by_cases h202 : (((iAndNot .i64 x116 x115) == 0) == x13) = true
     ·rw [if_pos h202] at h
      exact Lp.again (gRun_ok cxOK (f6_p26_e3 x1 x9 x10 x12 x13 x110 x113 x114 x115 x116 x119 x120) ⟨h189, h190, ⟨x115, h191, rfl⟩, h192, ⟨x116, h193, rfl⟩, h194, h194, h194, h192, h194, ⟨x116, h193, rfl⟩, h194, h194, h194, h190, h194, ⟨x115, h191, rfl⟩, h194, h194, h194, ⟨(at?_spec h199).1, x119, (at?_spec h199).2, rfl⟩, ⟨(at?_spec h200).1, x120, (at?_spec h200).2, rfl⟩, h201, h201, h201, h201, (by rw [h202]; rfl), trivial⟩) (f6_p26_ok F x1 x9 x10 x13 x110 x113 x12 k (w64 (x114 + 1)) r h)
     ·rw [if_neg h202] at h
      have h202 := Bool.eq_false_iff.2 h202
      obtain rfl := Option.some.inj h
      exact Lp.out (gRun_ok cxOK (f6_p26_e4 x1 x9 x10 x12 x13 x110 x113 x114 x115 x116 x119 x120) ⟨h189, h190, ⟨x115, h191, rfl⟩, h192, ⟨x116, h193, rfl⟩, h194, h194, h194, h192, h194, ⟨x116, h193, rfl⟩, h194, h194, h194, h190, h194, ⟨x115, h191, rfl⟩, h194, h194, h194, ⟨(at?_spec h199).1, x119, (at?_spec h199).2, rfl⟩, ⟨(at?_spec h200).1, x120, (at?_spec h200).2, rfl⟩, h201, h201, h201, h201, (by rw [h202]; rfl), trivial⟩) (by intro hh; cases hh)
    ·rw [if_neg h201] at h
     have h201 := Bool.eq_false_iff.2 h201
     exact Lp.again (gRun_ok cxOK (f6_p26_e5 x1 x9 x10 x12 x13 x110 x113 x114 x115 x116 x119 x120) ⟨h189, h190, ⟨x115, h191, rfl⟩, h192, ⟨x116, h193, rfl⟩, h194, h194, h194, h192, h194, ⟨x116, h193, rfl⟩, h194, h194, h194, h190, h194, ⟨x115, h191, rfl⟩, h194, h194, h194, ⟨(at?_spec h199).1, x119, (at?_spec h199).2, rfl⟩, ⟨(at?_spec h200).1, x120, (at?_spec h200).2, rfl⟩, h201, h201, h201, h201, rfl, trivial⟩) (f6_p26_ok F x1 x9 x10 x13 x110 x113 x12 k (w64 (x114 + 1)) r h)
  ·rw [if_neg h189] at h
   have h189 := Bool.eq_false_iff.2 h189
   obtain rfl := Option.some.inj h
   exact Lp.out (gRun_ok cxOK (f6_p26_e6 x1 x9 x10 x12 x13 x110 x113 x114) ⟨h189, trivial⟩) (by intro hh; cases hh)
theorem f6_p22_ok (F : Nat) (x1 : Int) (x9 : LI) (x10 : Int) (x13 : Bool) (x110 : LI) (x12 : Int) : ∀ (k : Nat) (x113 : Int) (r : f6_p22_R), f6_p22 F x1 x9 x10 x13 x110 x12 k x113 = some r → f6_p22_P x1 x9 x10 x13 x110 x12 x113 r
 | 0, _, _, h => by cases h
 | k + 1, x113, r, h => by
  unfold f6_p22 at h
  by_cases h188 : (decide (x113 < (((List.length x9) : Nat) : Int))) = true
  ·rw [if_pos h188] at h
   obtain ⟨rh203, h203, h⟩ := bind_some h
   have ch203 := f6_p26_ok F x1 x9 x10 x13 x110 x113 x12 F 0 _ h203
   cases rh203 with
   | c0 =>
    try dsimp only at h
    obtain rfl := Option.some.inj h
    exact Lp.out (gRun_ok cxOK (f6_p22_e0 x1 x9 x10 x12 x13 x110 x113) ⟨h188, ch203, trivial⟩) (by intro hh; cases hh)
   | c1 =>
    try dsimp only at h
    exact Lp.again (gRun_ok cxOK (f6_p22_e1 x1 x9 x10 x12 x13 x110 x113) ⟨h188, ch203, trivial⟩) (f6_p22_ok F x1 x9 x10 x13 x110 x12 k (w64 (x113 + 1)) r h)
  ·rw [if_neg h188] at h
   have h188 := Bool.eq_false_iff.2 h188
   obtain rfl := Option.some.inj h
   exact Lp.out (gRun_ok cxOK (f6_p22_e2 x1 x9 x10 x12 x13 x110 x113) ⟨h188, trivial⟩) (by intro hh; cases hh)
theorem f6_p26_1_ok (F : Nat) (x1 : Int) (x9 : LI) (x10 : Int) (x13 : Bool) (x110 : LI) (x121 x12 : Int) : ∀ (k : Nat) (x122 : Int) (r : f6_p26_1_R), f6_p26_1 F x1 x9 x10 x13 x110 x121 x12 k x122 = some r → f6_p26_1_P x1 x9 x10 x13 x110 x121 x12 x122 r
 | 0, _, _, h => by cases h
 | k + 1, x122, r, h => by
  unfold f6_p26_1 at h
  by_cases h207 : (decide (x122 < x121)) = true
  ·rw [if_pos h207] at h
   obtain ⟨h208, h⟩ := req_some h
   obtain ⟨x123, h209, h⟩ := bind_some h
   try dsimp only at h
   obtain ⟨h210, h⟩ := req_some h
   obtain ⟨x124, h211, h⟩ := bind_some h
   try dsimp only at h
   by_cases h212 : ((iAndNot .i64 x123 x124) == 0) = true
   ·rw [if_pos h212] at h
    obtain ⟨x125, h213, h⟩ := bind_some h
    try dsimp only at h
    obtain ⟨x126, h214, h⟩ := bind_some h
    try dsimp only at h
    by_cases h215 : (x125 == x126) = true
    ·rw [if_pos h215] at h
     by_cases h216 : (true == x13) = true
     ·rw [if_pos h216] at h
      exact Lp.again (gRun_ok cxOK (f6_p26_1_e0 x1 x9 x10 x12 x13 x110 x121 x122 x123 x124 x125 x126) ⟨h207, h208, ⟨x123, h209, rfl⟩, h210, ⟨x124, h211, rfl⟩, h212, h212, h212, h212, h212, h212, h212, h212, h212, h212, h212, ⟨(at?_spec h213).1, x125, (at?_spec h213).2, rfl⟩, ⟨(at?_spec h214).1, x126, (at?_spec h214).2, rfl⟩, h215, h215, h215, h215, (by rw [h216]; rfl), trivial⟩) (f6_p26_1_ok F x1 x9 x10 x13 x110 x121 x12 k (w64 (x122 + 1)) r h)
     ·rw [if_neg h216] at h
      have h216 := Bool.eq_false_iff.2 h216
      obtain rfl := Option.some.inj h
      exact Lp.out (gRun_ok cxOK (f6_p26_1_e1 x1 x9 x10 x12 x13 x110 x121 x122 x123 x124 x125 x126) ⟨h207, h208, ⟨x123, h209, rfl⟩, h210, ⟨x124, h211, rfl⟩, h212, h212, h212, h212, h212, h212, h212, h212, h212, h212, h212, ⟨(at?_spec h213).1, x125, (at?_spec h213).2, rfl⟩, ⟨(at?_spec h214).1, x126, (at?_spec h214).2, rfl⟩, h215, h215, h215, h215, (by rw [h216]; rfl), trivial⟩) (by intro hh; cases hh)
    ·rw [if_neg h215] at h
     have h215 := Bool.eq_false_iff.2 h215
     exact Lp.again (gRun_ok cxOK (f6_p26_1_e2 x1 x9 x10 x12 x13 x110 x121 x122 x123 x124 x125 x126) ⟨h207, h208, ⟨x123, h209, rfl⟩, h210, ⟨x124, h211, rfl⟩, h212, h212, h212, h212, h212, h212, h212, h212, h212, h212, h212, ⟨(at?_spec h213).1, x125, (at?_spec h213).2, rfl⟩, ⟨(at?_spec h214).1, x126, (at?_spec h214).2, rfl⟩, h215, h215, h215, h215, rfl, trivial⟩) (f6_p26_1_ok F x1 x9 x10 x13 x110 x121 x12 k (w64 (x122 + 1)) r h)
   ·rw [if_neg h212] at h
    have h212 := Bool.eq_false_iff.2 h212
    obtain ⟨x127, h217, h⟩ := bind_some h
    try dsimp only at h
    obtain ⟨x128, h218, h⟩ := bind_some h
    try dsimp only at h
    by_cases h219 : (x127 == x128) = true
    ·rw [if_pos h219] at h
     by_cases h220 : (((iAndNot .i64 x124 x123) == 0) == x13) = true
     ·rw [if_pos h220] at h
      exact Lp.again (gRun_ok cxOK (f6_p26_1_e3 x1 x9 x10 x12 x13 x110 x121 x122 x123 x124 x127 x128) ⟨h207, h208, ⟨x123, h209, rfl⟩, h210, ⟨x124, h211, rfl⟩, h212, h212, h212, h210, h212, ⟨x124, h211, rfl⟩, h212, h212, h212, h208, h212, ⟨x123, h209, rfl⟩, h212, h212, h212, ⟨(at?_spec h217).1, x127, (at?_spec h217).2, rfl⟩, ⟨(at?_spec h218).1, x128, (at?_spec h218).2, rfl⟩, h219, h219, h219, h219, (by rw [h220]; rfl), trivial⟩) (f6_p26_1_ok F x1 x9 x10 x13 x110 x121 x12 k (w64 (x122 + 1)) r h)
     ·rw [if_neg h220] at h
      have h220 := Bool.eq_false_iff.2 h220
      obtain rfl := Option.some.inj h
      exact Lp.out (gRun_ok cxOK (f6_p26_1_e4 x1 x9 x10 x12 x13 x110 x121 x122 x123 x124 x127 x128) ⟨h207, h208, ⟨x123, h209, rfl⟩, h210, ⟨x124, h211, rfl⟩, h212, h212, h212, h210, h212, ⟨x124, h211, rfl⟩, h212, h212, h212, h208, h212, ⟨x123, h209, rfl⟩, h212, h212, h212, ⟨(at?_spec h217).1, x127, (at?_spec h217).2, rfl⟩, ⟨(at?_spec h218).1, x128, (at?_spec h218).2, rfl⟩, h219, h219, h219, h219, (by rw [h220]; rfl), trivial⟩) (by intro hh; cases hh)
    ·rw [if_neg h219] at h
     have h219 := Bool.eq_false_iff.2 h219
     exact Lp.again (gRun_ok cxOK (f6_p26_1_e5 x1 x9 x10 x12 x13 x110 x121 x122 x123 x124 x127 x128) ⟨h207, h208, ⟨x123, h209, rfl⟩, h210, ⟨x124, h211, rfl⟩, h212, h212, h212, h210, h212, ⟨x124, h211, rfl⟩, h212, h212, h212, h208, h212, ⟨x123, h209, rfl⟩, h212, h212, h212, ⟨(at?_spec h217).1, x127, (at?_spec h217).2, rfl⟩, ⟨(at?_spec h218).1, x128, (at?_spec h218).2, rfl⟩, h219, h219, h219, h219, rfl, trivial⟩) (f6_p26_1_ok F x1 x9 x10 x13 x110 x121 x12 k (w64 (x122 + 1)) r h)
  ·rw [if_neg h207] at h
   have h207 := Bool.eq_false_iff.2 h207
   obtain rfl := Option.some.inj h
   exact Lp.out (gRun_ok cxOK (f6_p26_1_e6 x1 x9 x10 x12 x13 x110 x121 x122) ⟨h207, trivial⟩) (by intro hh; cases hh)
theorem f6_p22_1_ok (F : Nat) (x1 : Int) (x9 : LI) (x10 : Int) (x13 : Bool) (x110 : LI) (x12 : Int) : ∀ (k : Nat) (x121 : Int) (r : f6_p22_1_R), f6_p22_1 F x1 x9 x10 x13 x110 x12 k x121 = some r → f6_p22_1_P x1 x9 x10 x13 x110 x12 x121 r
 | 0, _, _, h => by cases h
 | k + 1, x121, r, h => by
  unfold f6_p22_1 at h
  by_cases h206 : (decide (x121 < (((List.length x9) : Nat) : Int))) = true
  ·rw [if_pos h206] at h
   obtain ⟨rh221, h221, h⟩ := bind_some h
   have ch221 := f6_p26_1_ok F x1 x9 x10 x13 x110 x121 x12 F 0 _ h221
   cases rh221 with
   | c0 =>
    try dsimp only at h
    obtain rfl := Option.some.inj h
    exact Lp.out (gRun_ok cxOK (f6_p22_1_e0 x1 x9 x10 x12 x13 x110 x121) ⟨h206, ch221, trivial⟩) (by intro hh; cases hh)
   | c1 =>
    try dsimp only at h
    exact Lp.again (gRun_ok cxOK (f6_p22_1_e1 x1 x9 x10 x12 x13 x110 x121) ⟨h206, ch221, trivial⟩) (f6_p22_1_ok F x1 x9 x10 x13 x110 x12 k (w64 (x121 + 1)) r h)
  ·rw [if_neg h206] at h
   have h206 := Bool.eq_false_iff.2 h206
   obtain rfl := Option.some.inj h
   exact Lp.out (gRun_ok cxOK (f6_p22_1_e2 x1 x9 x10 x12 x13 x110 x121) ⟨h206, trivial⟩) (by intro hh; cases hh)
theorem f6_p7_ok (F : Nat) (x1 : Int) (x9 : LI) (x10 : Int) : ∀ (k : Nat) (x12 : Int) (r : f6_p7_R), f6_p7 F x1 x9 x10 k x12 = some r → f6_p7_P x1 x9 x10 x12 r
 | 0, _, _, h => by cases h
 | k + 1, x12, r, h => by
  unfold f6_p7 at h
  by_cases h20 : (decide (x12 < ((List.length ([true, false] : List Bool) : Nat) : Int))) = true
  ·rw [if_pos h20] at h
   obtain ⟨x13, h21, h⟩ := bind_some h
   try dsimp only at h
   obtain ⟨rh177, h177, h⟩ := bind_some h
   have ch177 := f6_p11_ok F x1 x9 x10 x13 x12 F 0 (((List.length x9) : Nat) : Int) ([] : List (Int × (Int × Unit))) _ h177
   cases rh177 with
   | c0 =>
    try dsimp only at h
    obtain rfl := Option.some.inj h
    exact Lp.out (gRun_ok cxOK (f6_p7_e0 x1 x9 x10 x12 x13) ⟨h20, ⟨(at?_spec h21).1, x13, (at?_spec h21).2, rfl⟩, ch177, trivial⟩) (by intro hh; cases hh)
   | c1 x106 x107 =>
    try dsimp only at h
    obtain ⟨rh178, h178, h⟩ := bind_some h
    have ch178 := f30_ok F x106 (List.drop 0 (List.take (0 + (List.length x107)) x107)) _ h178
    obtain ⟨x108, x109⟩ := rh178
    try dsimp only at h
    obtain ⟨rh179, h179, h⟩ := bind_some h
    have ch179 := f31_ok F x106 (List.drop 0 (List.take (0 + (List.length x107)) x107)) _ h179
    obtain ⟨x110, x111⟩ := rh179
    try dsimp only at h
    by_cases h180 : (x109 != 0) = true
    ·rw [if_pos h180] at h
     obtain rfl := Option.some.inj h
     exact Lp.out (gRun_ok cxOK (f6_p7_e1 x1 x9 x10 x12 x13 x106 x107 x108 x109 x110 x111) ⟨h20, ⟨(at?_spec h21).1, x13, (at?_spec h21).2, rfl⟩, ch177, (Nat.le_of_eq (Nat.zero_add _)), ch178, ch179, h180, h180, h180, rfl, rfl, rfl, rfl, rfl, rfl, rfl, rfl, rfl, rfl, rfl, rfl, rfl, rfl, rfl, rfl, rfl, rfl, rfl, rfl, rfl, rfl, rfl, rfl, rfl, rfl, rfl, trivial⟩) (by intro hh; cases hh)
    ·rw [if_neg h180] at h
     have h180 := Bool.eq_false_iff.2 h180
     by_cases h181 : (x111 != 0) = true
     ·rw [if_pos h181] at h
      obtain rfl := Option.some.inj h
      exact Lp.out (gRun_ok cxOK (f6_p7_e2 x1 x9 x10 x12 x13 x106 x107 x108 x109 x110 x111) ⟨h20, ⟨(at?_spec h21).1, x13, (at?_spec h21).2, rfl⟩, ch177, (Nat.le_of_eq (Nat.zero_add _)), ch178, ch179, h180, h180, h180, h181, h181, h181, h181, h181, h181, rfl, rfl, rfl, rfl, rfl, rfl, rfl, rfl, rfl, rfl, rfl, rfl, rfl, rfl, rfl, rfl, rfl, rfl, rfl, rfl, rfl, trivial⟩) (by intro hh; cases hh)
     ·rw [if_neg h181] at h
      have h181 := Bool.eq_false_iff.2 h181
      by_cases h182 : (((List.length x110 : Nat) : Int) != (((List.length x9) : Nat) : Int)) = true
      ·rw [if_pos h182] at h
       obtain rfl := Option.some.inj h
       exact Lp.out (gRun_ok cxOK (f6_p7_e3 x1 x9 x10 x12 x13 x106 x107 x108 x109 x110 x111) ⟨h20, ⟨(at?_spec h21).1, x13, (at?_spec h21).2, rfl⟩, ch177, (Nat.le_of_eq (Nat.zero_add _)), ch178, ch179, h180, h180, h180, h181, h181, h181, h181, h181, h181, h182, h182, h182, h182, rfl, rfl, rfl, rfl, rfl, rfl, rfl, rfl, rfl, rfl, rfl, rfl, rfl, rfl, rfl, rfl, rfl, trivial⟩) (by intro hh; cases hh)
      ·rw [if_neg h182] at h
       have h182 := Bool.eq_false_iff.2 h182
       by_cases h183 : (((List.length x108 : Nat) : Int) == 0) = true
       ·rw [if_pos h183] at h
        obtain rfl := Option.some.inj h
        exact Lp.out (gRun_ok cxOK (f6_p7_e4 x1 x9 x10 x12 x13 x106 x107 x108 x109 x110 x111) ⟨h20, ⟨(at?_spec h21).1, x13, (at?_spec h21).2, rfl⟩, ch177, (Nat.le_of_eq (Nat.zero_add _)), ch178, ch179, h180, h180, h180, h181, h181, h181, h181, h181, h181, h182, h182, h182, h182, h183, h183, h183, h183, h183, h183, h183, rfl, rfl, rfl, rfl, rfl, rfl, rfl, rfl, rfl, rfl, trivial⟩) (by intro hh; cases hh)
       ·rw [if_neg h183] at h
        have h183 := Bool.eq_false_iff.2 h183
        obtain ⟨x112, h184, h⟩ := bind_some h
        have ch184 := f32_ok F x110 _ h184
        try dsimp only at h
        by_cases h185 : ((w64 (x112 + 1)) != ((List.length x108 : Nat) : Int)) = true
        ·rw [if_pos h185] at h
         obtain rfl := Option.some.inj h
         exact Lp.out (gRun_ok cxOK (f6_p7_e5 x1 x9 x10 x12 x13 x106 x107 x108 x109 x110 x111 x112) ⟨h20, ⟨(at?_spec h21).1, x13, (at?_spec h21).2, rfl⟩, ch177, (Nat.le_of_eq (Nat.zero_add _)), ch178, ch179, h180, h180, h180, h181, h181, h181, h181, h181, h181, h182, h182, h182, h182, h183, h183, ch184, h183, h183, h183, h183, h183, h185, h185, h185, h185, rfl, rfl, rfl, rfl, rfl, rfl, trivial⟩) (by intro hh; cases hh)
        ·rw [if_neg h185] at h
         have h185 := Bool.eq_false_iff.2 h185
         by_cases h186 : x13 = true
         ·rw [if_pos h186] at h
          by_cases h187 : (decide (((List.length x108 : Nat) : Int) > x10)) = true
          ·rw [if_pos h187] at h
           obtain rfl := Option.some.inj h
           exact Lp.out (gRun_ok cxOK (f6_p7_e6 x1 x9 x10 x12 x13 x106 x107 x108 x109 x110 x111 x112) ⟨h20, ⟨(at?_spec h21).1, x13, (at?_spec h21).2, rfl⟩, ch177, (Nat.le_of_eq (Nat.zero_add _)), ch178, ch179, h180, h180, h180, h181, h181, h181, h181, h181, h181, h182, h182, h182, h182, h183, h183, ch184, h183, h183, h183, h183, h183, h185, h185, h186, h186, h186, h186, h185, h186, h185, h187, h187, h187, h187, h187, rfl, trivial⟩) (by intro hh; cases hh)
          ·rw [if_neg h187] at h
           have h187 := Bool.eq_false_iff.2 h187
           obtain ⟨rh204, h204, h⟩ := bind_some h
           have ch204 := f6_p22_ok F x1 x9 x10 x13 x110 x12 F 0 _ h204
           cases rh204 with
           | c0 =>
            try dsimp only at h
            obtain rfl := Option.some.inj h
            exact Lp.out (gRun_ok cxOK (f6_p7_e7 x1 x9 x10 x12 x13 x106 x107 x108 x109 x110 x111 x112) ⟨h20, ⟨(at?_spec h21).1, x13, (at?_spec h21).2, rfl⟩, ch177, (Nat.le_of_eq (Nat.zero_add _)), ch178, ch179, h180, h180, h180, h181, h181, h181, h181, h181, h181, h182, h182, h182, h182, h183, h183, ch184, h183, h183, h183, h183, h183, h185, h185, h186, h186, h186, h186, h185, h186, h185, h187, h187, h187, (by rw [h186]; rfl), (by rw [h186]; rfl), (by rw [h186]; rfl), (by rw [h186]; rfl), (by rw [h186]; rfl), h187, (by rw [h186]; rfl), h187, rfl, ch204, trivial⟩) (by intro hh; cases hh)
           | c1 =>
            try dsimp only at h
            exact Lp.again (gRun_ok cxOK (f6_p7_e8 x1 x9 x10 x12 x13 x106 x107 x108 x109 x110 x111 x112) ⟨h20, ⟨(at?_spec h21).1, x13, (at?_spec h21).2, rfl⟩, ch177, (Nat.le_of_eq (Nat.zero_add _)), ch178, ch179, h180, h180, h180, h181, h181, h181, h181, h181, h181, h182, h182, h182, h182, h183, h183, ch184, h183, h183, h183, h183, h183, h185, h185, h186, h186, h186, h186, h185, h186, h185, h187, h187, h187, (by rw [h186]; rfl), (by rw [h186]; rfl), (by rw [h186]; rfl), (by rw [h186]; rfl), (by rw [h186]; rfl), h187, (by rw [h186]; rfl), h187, rfl, ch204, trivial⟩) (f6_p7_ok F x1 x9 x10 k (w64 (x12 + 1)) r h)
         ·rw [if_neg h186] at h
          have h186 := Bool.eq_false_iff.2 h186
          by_cases h205 : (decide (((List.length x108 : Nat) : Int) > (w64 ((w64 (1 + (Int.tmod (w64 (x1)) 6))) + 1)))) = true
          ·rw [if_pos h205] at h
           obtain rfl := Option.some.inj h
           exact Lp.out (gRun_ok cxOK (f6_p7_e9 x1 x9 x10 x12 x13 x106 x107 x108 x109 x110 x111 x112) ⟨h20, ⟨(at?_spec h21).1, x13, (at?_spec h21).2, rfl⟩, ch177, (Nat.le_of_eq (Nat.zero_add _)), ch178, ch179, h180, h180, h180, h181, h181, h181, h181, h181, h181, h182, h182, h182, h182, h183, h183, ch184, h183, h183, h183, h183, h183, h185, h185, h186, h186, h186, h186, h185, h186, h185, rfl, rfl, rfl, (by rw [h186]; rfl), (by rw [h186]; rfl), (by rw [h186]; rfl), (by rw [h186]; rfl), (by rw [h186]; rfl), rfl, (by rw [h186]; rfl), rfl, h205, trivial⟩) (by intro hh; cases hh)
          ·rw [if_neg h205] at h
           have h205 := Bool.eq_false_iff.2 h205
           obtain ⟨rh222, h222, h⟩ := bind_some h
           have ch222 := f6_p22_1_ok F x1 x9 x10 x13 x110 x12 F 0 _ h222
           cases rh222 with
           | c0 =>
            try dsimp only at h
            obtain rfl := Option.some.inj h
            exact Lp.out (gRun_ok cxOK (f6_p7_e10 x1 x9 x10 x12 x13 x106 x107 x108 x109 x110 x111 x112) ⟨h20, ⟨(at?_spec h21).1, x13, (at?_spec h21).2, rfl⟩, ch177, (Nat.le_of_eq (Nat.zero_add _)), ch178, ch179, h180, h180, h180, h181, h181, h181, h181, h181, h181, h182, h182, h182, h182, h183, h183, ch184, h183, h183, h183, h183, h183, h185, h185, h186, h186, h186, h186, h185, h186, h185, rfl, rfl, rfl, (by rw [h186]; rfl), (by rw [h186]; rfl), (by rw [h186]; rfl), (by rw [h186]; rfl), (by rw [h186]; rfl), rfl, (by rw [h186]; rfl), rfl, h205, ch222, trivial⟩) (by intro hh; cases hh)
           | c1 =>
            try dsimp only at h
            exact Lp.again (gRun_ok cxOK (f6_p7_e11 x1 x9 x10 x12 x13 x106 x107 x108 x109 x110 x111 x112) ⟨h20, ⟨(at?_spec h21).1, x13, (at?_spec h21).2, rfl⟩, ch177, (Nat.le_of_eq (Nat.zero_add _)), ch178, ch179, h180, h180, h180, h181, h181, h181, h181, h181, h181, h182, h182, h182, h182, h183, h183, ch184, h183, h183, h183, h183, h183, h185, h185, h186, h186, h186, h186, h185, h186, h185, rfl, rfl, rfl, (by rw [h186]; rfl), (by rw [h186]; rfl), (by rw [h186]; rfl), (by rw [h186]; rfl), (by rw [h186]; rfl), rfl, (by rw [h186]; rfl), rfl, h205, ch222, trivial⟩) (f6_p7_ok F x1 x9 x10 k (w64 (x12 + 1)) r h)
  ·rw [if_neg h20] at h
   have h20 := Bool.eq_false_iff.2 h20
   obtain rfl := Option.some.inj h
   exact Lp.out (gRun_ok cxOK (f6_p7_e12 x1 x9 x10 x12) ⟨h20, trivial⟩) (by intro hh; cases hh)
theorem f6_ok (F : Nat) (x1 : Int) (x2 : LI) (r : Bool) (h : f6 F x1 x2 = some r) : f6_C x1 x2 r := by
 unfold f6 at h
 obtain ⟨x9, h17, h⟩ := bind_some h
 have ch17 := f6_p1_ok F x1 x2 F 0 ([] : List Int) _ h17
 try dsimp only at h
 obtain ⟨rh18, h18, h⟩ := bind_some h
 have ch18 := f28_ok F (w64 (1 + (Int.tmod (w64 (x1)) 6))) _ h18
 obtain ⟨x10, x11⟩ := rh18
 try dsimp only at h
 by_cases h19 : (x11 != 0) = true
 ·rw [if_pos h19] at h
  cases h
 ·rw [if_neg h19] at h
  have h19 := Bool.eq_false_iff.2 h19
  obtain ⟨rh223, h223, h⟩ := bind_some h
  have ch223 := f6_p7_ok F x1 x9 x10 F 0 _ h223
  cases rh223 with
  | c0 =>
   try dsimp only at h
   cases h
  | c1 =>
   try dsimp only at h
   obtain ⟨x129, h224, h⟩ := bind_some h
   have ch224 := f33_ok F _ h224
   try dsimp only at h
   obtain rfl := Option.some.inj h
   exact callOK cxOK cxW Tryd.func6 (by kernel_rfl) (f6_e0 x1 x2 x9 x10 x11 x129) ⟨(by decide), ch17, ch18, h19, ch223, ch224, trivial⟩

end Go.Gh.Top
