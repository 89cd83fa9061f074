/- Sale14F1: printed by wip/tool/gx.py -/
import Derived.Test.YtdbaljbhnpchjaaSale14F0
namespace Go.Gh.Sale
set_option linter.unusedVariables false
set_option linter.unusedSimpArgs false
open Go.Proofs

theorem f62_p4_ok (F : Nat) (x1 : LL) (x2 x3 : LI) (x4 x5 : Int) (r : Int) (h : f62_p4 F x1 x2 x3 x4 x5 = some r) : f62_p4_P x1 x2 x3 x4 x5 r := by
 unfold f62_p4 at h
 by_cases h3 : (decide (x5 ≥ 0)) = true
 ·rw [if_pos h3] at h
  obtain ⟨x6, h4, h⟩ := bind_some h
  try dsimp only at h
  obtain ⟨x7, h5, h⟩ := bind_some h
  try dsimp only at h
  obtain ⟨x8, h6, h⟩ := bind_some h
  try dsimp only at h
  obtain rfl := Option.some.inj h
  exact gRun_ok cxOK (f62_p4_e0 x1 x2 x3 x4 x5 x6 x7 x8) ⟨h3, ⟨(at?_spec h4).1, x6, (at?_spec h4).2, rfl⟩, ⟨(at?_spec h5).1, x7, (at?_spec h5).2, rfl⟩, ⟨(at?_spec h6).1, x8, (at?_spec h6).2, rfl⟩, trivial⟩
 ·rw [if_neg h3] at h
  have h3 := Bool.eq_false_iff.2 h3
  obtain rfl := Option.some.inj h
  exact gRun_ok cxOK (f62_p4_e1 x1 x2 x3 x4 x5) ⟨h3, trivial⟩
theorem f62_p7_ok (F : Nat) (x1 : LL) (x2 x3 : LI) (x4 x9 : Int) : ∀ (k : Nat) (x10 : Int) (r : f62_p7_R), f62_p7 F x1 x2 x3 x4 x9 k x10 = some r → f62_p7_P x1 x2 x3 x4 x9 x10 r
 | 0, _, _, h => by cases h
 | k + 1, x10, r, h => by
  unfold f62_p7 at h
  by_cases h9 : (decide (x10 < ((List.length x2 : Nat) : Int))) = true
  ·rw [if_pos h9] at h
   obtain ⟨x11, h10, h⟩ := bind_some h
   try dsimp only at h
   obtain ⟨x12, h11, h⟩ := bind_some h
   try dsimp only at h
   obtain ⟨x13, h12, h⟩ := bind_some h
   try dsimp only at h
   by_cases h13 : (decide ((w64 (x13 - x11)) > x9)) = true
   ·rw [if_pos h13] at h
    obtain rfl := Option.some.inj h
    exact Lp.out (gRun_ok cxOK (f62_p7_e0 x1 x2 x3 x4 x9 x10 x11 x12 x13) ⟨h9, ⟨(at?_spec h10).1, x11, (at?_spec h10).2, rfl⟩, ⟨(at?_spec h11).1, x12, (at?_spec h11).2, rfl⟩, ⟨(at?_spec h12).1, x13, (at?_spec h12).2, rfl⟩, h13, trivial⟩) (by intro hh; cases hh)
   ·rw [if_neg h13] at h
    have h13 := Bool.eq_false_iff.2 h13
    exact Lp.again (gRun_ok cxOK (f62_p7_e1 x1 x2 x3 x4 x9 x10 x11 x12 x13) ⟨h9, ⟨(at?_spec h10).1, x11, (at?_spec h10).2, rfl⟩, ⟨(at?_spec h11).1, x12, (at?_spec h11).2, rfl⟩, ⟨(at?_spec h12).1, x13, (at?_spec h12).2, rfl⟩, h13, trivial⟩) (f62_p7_ok F x1 x2 x3 x4 x9 k (w64 (x10 + 1)) r h)
  ·rw [if_neg h9] at h
   have h9 := Bool.eq_false_iff.2 h9
   obtain rfl := Option.some.inj h
   exact Lp.out (gRun_ok cxOK (f62_p7_e2 x1 x2 x3 x4 x9 x10) ⟨h9, trivial⟩) (by intro hh; cases hh)
theorem f62_p1_ok (F : Nat) (x1 : LL) (x2 x3 : LI) : ∀ (k : Nat) (x4 : Int) (r : f62_p1_R), f62_p1 F x1 x2 x3 k x4 = some r → f62_p1_P x1 x2 x3 x4 r
 | 0, _, _, h => by cases h
 | k + 1, x4, r, h => by
  unfold f62_p1 at h
  by_cases h1 : (decide (x4 < ((List.length x3 : Nat) : Int))) = true
  ·rw [if_pos h1] at h
   obtain ⟨x5, h2, h⟩ := bind_some h
   try dsimp only at h
   obtain ⟨x9, h7, h⟩ := bind_some h
   have ch7 := f62_p4_ok F x1 x2 x3 x4 x5 _ h7
   try dsimp only at h
   by_cases h8 : (decide (x9 < 0)) = true
   ·rw [if_pos h8] at h
    obtain rfl := Option.some.inj h
    exact Lp.out (gRun_ok cxOK (f62_p1_e0 x1 x2 x3 x4 x5 x9) ⟨h1, ⟨(at?_spec h2).1, x5, (at?_spec h2).2, rfl⟩, ch7, h8, trivial⟩) (by intro hh; cases hh)
   ·rw [if_neg h8] at h
    have h8 := Bool.eq_false_iff.2 h8
    obtain ⟨rh14, h14, h⟩ := bind_some h
    have ch14 := f62_p7_ok F x1 x2 x3 x4 x9 F 0 _ h14
    cases rh14 with
    | c0 =>
     try dsimp only at h
     obtain rfl := Option.some.inj h
     exact Lp.out (gRun_ok cxOK (f62_p1_e1 x1 x2 x3 x4 x5 x9) ⟨h1, ⟨(at?_spec h2).1, x5, (at?_spec h2).2, rfl⟩, ch7, h8, ch14, trivial⟩) (by intro hh; cases hh)
    | c1 =>
     try dsimp only at h
     exact Lp.again (gRun_ok cxOK (f62_p1_e2 x1 x2 x3 x4 x5 x9) ⟨h1, ⟨(at?_spec h2).1, x5, (at?_spec h2).2, rfl⟩, ch7, h8, ch14, trivial⟩) (f62_p1_ok F x1 x2 x3 k (w64 (x4 + 1)) r h)
  ·rw [if_neg h1] at h
   have h1 := Bool.eq_false_iff.2 h1
   obtain rfl := Option.some.inj h
   exact Lp.out (gRun_ok cxOK (f62_p1_e3 x1 x2 x3 x4) ⟨h1, trivial⟩) (by intro hh; cases hh)
theorem f62_p12_ok (F : Nat) (x3 x2 : LI) : ∀ (k : Nat) (x14 : Int) (r : f62_p12_R), f62_p12 F x3 x2 k x14 = some r → f62_p12_P x3 x2 x14 r
 | 0, _, _, h => by cases h
 | k + 1, x14, r, h => by
  unfold f62_p12 at h
  by_cases h16 : (decide (x14 < ((List.length x2 : Nat) : Int))) = true
  ·rw [if_pos h16] at h
   obtain ⟨x15, h17, h⟩ := bind_some h
   try dsimp only at h
   by_cases h18 : (decide (x15 > 0)) = true
   ·rw [if_pos h18] at h
    obtain ⟨x16, h19, h⟩ := bind_some h
    have ch19 := f53_ok F x3 x14 _ h19
    try dsimp only at h
    by_cases h20 : x16 = true
    ·rw [if_pos h20] at h
     exact Lp.again (gRun_ok cxOK (f62_p12_e0 x2 x3 x14 x15 x16) ⟨h16, ⟨(at?_spec h17).1, x15, (at?_spec h17).2, rfl⟩, h18, h18, h18, ch19, h18, h18, (by rw [h20]; rfl), trivial⟩) (f62_p12_ok F x3 x2 k (w64 (x14 + 1)) r h)
    ·rw [if_neg h20] at h
     have h20 := Bool.eq_false_iff.2 h20
     obtain rfl := Option.some.inj h
     exact Lp.out (gRun_ok cxOK (f62_p12_e1 x2 x3 x14 x15 x16) ⟨h16, ⟨(at?_spec h17).1, x15, (at?_spec h17).2, rfl⟩, h18, h18, h18, ch19, h18, h18, (by rw [h20]; rfl), trivial⟩) (by intro hh; cases hh)
   ·rw [if_neg h18] at h
    have h18 := Bool.eq_false_iff.2 h18
    exact Lp.again (gRun_ok cxOK (f62_p12_e2 x2 x3 x14 x15) ⟨h16, ⟨(at?_spec h17).1, x15, (at?_spec h17).2, rfl⟩, h18, h18, h18, h18, h18, rfl, trivial⟩) (f62_p12_ok F x3 x2 k (w64 (x14 + 1)) r h)
  ·rw [if_neg h16] at h
   have h16 := Bool.eq_false_iff.2 h16
   obtain rfl := Option.some.inj h
   exact Lp.out (gRun_ok cxOK (f62_p12_e3 x2 x3 x14) ⟨h16, trivial⟩) (by intro hh; cases hh)
theorem f62_ok (F : Nat) (x1 : LL) (x2 x3 : LI) (r : Bool) (h : f62 F x1 x2 x3 = some r) : f62_C x1 x2 x3 r := by
 unfold f62 at h
 obtain ⟨rh15, h15, h⟩ := bind_some h
 have ch15 := f62_p1_ok F x1 x2 x3 F 0 _ h15
 cases rh15 with
 | c0 =>
  try dsimp only at h
  obtain rfl := Option.some.inj h
  exact callOK cxOK cxW Try.func62 (by kernel_rfl) (f62_e0 x1 x2 x3) ⟨ch15, trivial⟩
 | c1 =>
  try dsimp only at h
  obtain ⟨rh21, h21, h⟩ := bind_some h
  have ch21 := f62_p12_ok F x3 x2 F 0 _ h21
  cases rh21 with
  | c0 =>
   try dsimp only at h
   obtain rfl := Option.some.inj h
   exact callOK cxOK cxW Try.func62 (by kernel_rfl) (f62_e1 x1 x2 x3) ⟨ch15, ch21, trivial⟩
  | c1 =>
   try dsimp only at h
   obtain rfl := Option.some.inj h
   exact callOK cxOK cxW Try.func62 (by kernel_rfl) (f62_e2 x1 x2 x3) ⟨ch15, ch21, trivial⟩

theorem f61_p0_ok (F : Nat) (x12 : Bool) (x14 x3 : Int) (x2 : LL) (x4 : Bool) (x5 x6 : LI) (x7 x8 : Nat) (x9 x10 : Nat) (x11 : LI) (r : Bool) (h : f61_p0 F x12 x14 x3 x2 x4 x5 x6 x7 x8 x9 x10 x11 = some r) : f61_p0_P x12 x14 x3 x2 x4 x5 x6 x7 x8 x9 x10 x11 r := by
 unfold f61_p0 at h
 by_cases h6 : (x14 != x3) = true
 ·rw [if_pos h6] at h
  obtain rfl := Option.some.inj h
  exact gRun_ok cxOK (f61_p0_e0 x2 x3 x4 x5 x6 x7 x8 x9 x10 x11 x12 x14) ⟨h6, trivial⟩
 ·rw [if_neg h6] at h
  have h6 := Bool.eq_false_iff.2 h6
  obtain rfl := Option.some.inj h
  exact gRun_ok cxOK (f61_p0_e1 x2 x3 x4 x5 x6 x7 x8 x9 x10 x11 x12 x14) ⟨h6, trivial⟩
theorem f61_p3_ok (F : Nat) (x11 : LI) (x2 : LL) (x3 : Int) (x15 : Bool) (x7 x8 : Nat) (x9 x10 : Nat) : ∀ (k : Nat) (x22 : Int) (x20 x21 : LI) (r : (List Int) × (List Int)), f61_p3 F x11 x2 x3 x15 x7 x8 x9 x10 k x22 x20 x21 = some r → f61_p3_P x11 x2 x3 x15 x7 x8 x9 x10 x22 x20 x21 r
 | 0, _, _, _, _, h => by cases h
 | k + 1, x22, x20, x21, r, h => by
  unfold f61_p3 at h
  by_cases h16 : (decide (x22 < ((List.length x11 : Nat) : Int))) = true
  ·rw [if_pos h16] at h
   obtain ⟨x23, h17, h⟩ := bind_some h
   try dsimp only at h
   obtain ⟨h18, h⟩ := req_some h
   obtain ⟨x24, h19, h⟩ := bind_some h
   try dsimp only at h
   obtain ⟨h20, h⟩ := req_some h
   obtain ⟨x25, h21, h⟩ := bind_some h
   try dsimp only at h
   obtain ⟨h22, h⟩ := req_some h
   obtain ⟨h23, h⟩ := req_some h
   exact Lp.again (gRun_ok cxOK (f61_p3_e0 x2 x3 x7 x8 x9 x10 x11 x15 x20 x21 x22 x23 x24 x25) ⟨h16, ⟨(at?_spec h17).1, x23, (at?_spec h17).2, rfl⟩, h18, ⟨x24, h19, rfl⟩, h20, ⟨x25, h21, rfl⟩, h18, h22, h20, h23, trivial⟩) (f61_p3_ok F x11 x2 x3 x15 x7 x8 x9 x10 k (w64 (x22 + 1)) (List.set x20 (x7 + (Int.toNat x22)) (if x23 < x24 then x23 else x24)) (List.set x21 (x9 + (Int.toNat x22)) (if x23 > x25 then x23 else x25)) r h)
  ·rw [if_neg h16] at h
   have h16 := Bool.eq_false_iff.2 h16
   obtain rfl := Option.some.inj h
   exact Lp.out (gRun_ok cxOK (f61_p3_e1 x2 x3 x7 x8 x9 x10 x11 x15 x20 x21 x22) ⟨h16, trivial⟩) (by intro hh; cases hh)
theorem f61_p3_1_ok (F : Nat) (x11 : LI) (x2 : LL) (x3 : Int) (x7 x8 : Nat) (x9 x10 : Nat) : ∀ (k : Nat) (x34 : Int) (x32 x33 : LI) (r : (List Int) × (List Int)), f61_p3_1 F x11 x2 x3 x7 x8 x9 x10 k x34 x32 x33 = some r → f61_p3_1_P x11 x2 x3 x7 x8 x9 x10 x34 x32 x33 r
 | 0, _, _, _, _, h => by cases h
 | k + 1, x34, x32, x33, r, h => by
  unfold f61_p3_1 at h
  by_cases h34 : (decide (x34 < ((List.length x11 : Nat) : Int))) = true
  ·rw [if_pos h34] at h
   obtain ⟨x35, h35, h⟩ := bind_some h
   try dsimp only at h
   obtain ⟨h36, h⟩ := req_some h
   obtain ⟨x36, h37, h⟩ := bind_some h
   try dsimp only at h
   obtain ⟨h38, h⟩ := req_some h
   obtain ⟨x37, h39, h⟩ := bind_some h
   try dsimp only at h
   obtain ⟨h40, h⟩ := req_some h
   obtain ⟨h41, h⟩ := req_some h
   exact Lp.again (gRun_ok cxOK (f61_p3_1_e0 x2 x3 x7 x8 x9 x10 x11 x32 x33 x34 x35 x36 x37) ⟨h34, ⟨(at?_spec h35).1, x35, (at?_spec h35).2, rfl⟩, h36, ⟨x36, h37, rfl⟩, h38, ⟨x37, h39, rfl⟩, h36, h40, h38, h41, trivial⟩) (f61_p3_1_ok F x11 x2 x3 x7 x8 x9 x10 k (w64 (x34 + 1)) (List.set x32 (x7 + (Int.toNat x34)) (if x35 < x36 then x35 else x36)) (List.set x33 (x9 + (Int.toNat x34)) (if x35 > x37 then x35 else x37)) r h)
  ·rw [if_neg h34] at h
   have h34 := Bool.eq_false_iff.2 h34
   obtain rfl := Option.some.inj h
   exact Lp.out (gRun_ok cxOK (f61_p3_1_e1 x2 x3 x7 x8 x9 x10 x11 x32 x33 x34) ⟨h34, trivial⟩) (by intro hh; cases hh)
theorem f61_p1_ok (F : Nat) (x12 : Bool) (x2 : LL) (x3 : Int) (x5 x6 : LI) (x7 x8 : Nat) (x9 x10 : Nat) (x11 : LI) (r : (List Int) × (List Int)) (h : f61_p1 F x12 x2 x3 x5 x6 x7 x8 x9 x10 x11 = some r) : f61_p1_P x12 x2 x3 x5 x6 x7 x8 x9 x10 x11 r := by
 unfold f61_p1 at h
 by_cases h25 : x12 = true
 ·rw [if_pos h25] at h
  obtain ⟨rh42, h42, h⟩ := bind_some h
  have ch42 := f61_p3_1_ok F x11 x2 x3 x7 x8 x9 x10 F 0 x5 x6 _ h42
  obtain ⟨x38, x39⟩ := rh42
  try dsimp only at h
  obtain rfl := Option.some.inj h
  exact gRun_ok cxOK (f61_p1_e0 x2 x3 x5 x6 x7 x8 x9 x10 x11 x12 x38 x39) ⟨h25, ch42, trivial⟩
 ·rw [if_neg h25] at h
  have h25 := Bool.eq_false_iff.2 h25
  obtain rfl := Option.some.inj h
  exact gRun_ok cxOK (f61_p1_e1 x2 x3 x5 x6 x7 x8 x9 x10 x11 x12) ⟨h25, trivial⟩
theorem f61_ok (F : Nat) (x1 : LI) (x2 : LL) (x3 : Int) (x4 : Bool) (x5 x6 : LI) (x7 x8 : Nat) (x9 x10 : Nat) (x11 : LI) (r : Bool × (List Int) × (List Int)) (h : f61 F x1 x2 x3 x4 x5 x6 x7 x8 x9 x10 x11 = some r) : f61_C x1 x2 x3 x4 x5 x6 x7 x8 x9 x10 x11 r := by
 unfold f61 at h
 obtain ⟨x12, h1, h⟩ := bind_some h
 have ch1 := f62_ok F x2 x11 x1 _ h1
 try dsimp only at h
 obtain ⟨x13, h2, h⟩ := bind_some h
 have ch2 := f37_ok F x2 x11 x1 _ h2
 try dsimp only at h
 by_cases h3 : (x12 == (x13 == 0)) = true
 ·rw [if_pos h3] at h
  by_cases h4 : x12 = true
  ·rw [if_pos h4] at h
   obtain ⟨x14, h5, h⟩ := bind_some h
   have ch5 := f49_ok F x2 x1 (-1) _ h5
   try dsimp only at h
   obtain ⟨x15, h7, h⟩ := bind_some h
   have ch7 := f61_p0_ok F x12 x14 x3 x2 x4 x5 x6 x7 x8 x9 x10 x11 _ h7
   try dsimp only at h
   obtain ⟨rh24, h24, h⟩ := bind_some h
   have ch24 := f61_p3_ok F x11 x2 x3 x15 x7 x8 x9 x10 F 0 x5 x6 _ h24
   obtain ⟨x26, x27⟩ := rh24
   try dsimp only at h
   obtain rfl := Option.some.inj h
   exact callOK cxOK cxW Try.func61 (by kernel_rfl) (f61_e0 x1 x2 x3 x4 x5 x6 x7 x8 x9 x10 x11 x12 x13 x14 x15 x26 x27) ⟨ch1, ch2, (by rw [h3]; rfl), (by rw [h3]; rfl), h4, h4, h4, ch5, h4, h4, (by rw [h3]; rfl), h4, (by rw [h3]; rfl), ch7, h4, ch24, trivial⟩
  ·rw [if_neg h4] at h
   have h4 := Bool.eq_false_iff.2 h4
   obtain rfl := Option.some.inj h
   exact callOK cxOK cxW Try.func61 (by kernel_rfl) (f61_e1 x1 x2 x3 x4 x5 x6 x7 x8 x9 x10 x11 x12 x13) ⟨ch1, ch2, (by rw [h3]; rfl), (by rw [h3]; rfl), h4, h4, h4, h4, h4, (by rw [h3]; rfl), h4, (by rw [h3]; rfl), rfl, h4, trivial⟩
 ·rw [if_neg h3] at h
  have h3 := Bool.eq_false_iff.2 h3
  obtain ⟨rh43, h43, h⟩ := bind_some h
  have ch43 := f61_p1_ok F x12 x2 x3 x5 x6 x7 x8 x9 x10 x11 _ h43
  obtain ⟨x40, x41⟩ := rh43
  try dsimp only at h
  obtain rfl := Option.some.inj h
  exact callOK cxOK cxW Try.func61 (by kernel_rfl) (f61_e2 x1 x2 x3 x4 x5 x6 x7 x8 x9 x10 x11 x12 x13 x40 x41) ⟨ch1, ch2, (by rw [h3]; rfl), (by rw [h3]; rfl), (by rw [h3]; rfl), (by rw [h3]; rfl), rfl, ch43, trivial⟩

theorem f97_7_p5_ok (F : Nat) (rec : (List Int) → (List (List Int)) → Int → Bool → (List Int) → (List Int) → Nat → Nat → Nat → Nat → (List Int) → Int → Int → Option (Bool × (List Int) × (List Int))) (hrec : ∀ (x1 : LI) (x2 : LL) (x3 : Int) (x4 : Bool) (x5 x6 : LI) (x7 x8 : Nat) (x9 x10 : Nat) (x11 : LI) (x12 x13 : Int) (r : Bool × (List Int) × (List Int)), rec x1 x2 x3 x4 x5 x6 x7 x8 x9 x10 x11 x12 x13 = some r → f97_7_C x1 x2 x3 x4 x5 x6 x7 x8 x9 x10 x11 x12 x13 r) (x1 : LI) (x24 : Int) (x30 : Bool) (x2 : LL) (x3 : Int) (x25 : Bool) (x22 x23 : LI) (x7 x8 : Nat) (x9 x10 : Nat) (x11 : LI) (x12 x13 : Int) (r : Bool × (List Int) × (List Int)) (h : f97_7_p5 F rec x1 x24 x30 x2 x3 x25 x22 x23 x7 x8 x9 x10 x11 x12 x13 = some r) : f97_7_p5_P x1 x24 x30 x2 x3 x25 x22 x23 x7 x8 x9 x10 x11 x12 x13 r := by
 unfold f97_7_p5 at h
 by_cases h14 : x30 = true
 ·rw [if_pos h14] at h
  obtain rfl := Option.some.inj h
  exact gRun_ok cxOK (f97_7_p5_e0 x1 x2 x3 x7 x8 x9 x10 x11 x12 x13 x22 x23 x24 x25 x30) ⟨(by rw [h14]; rfl), trivial⟩
 ·rw [if_neg h14] at h
  have h14 := Bool.eq_false_iff.2 h14
  obtain ⟨x31, h15, h⟩ := bind_some h
  have ch15 := f95_ok F x1 _ h15
  try dsimp only at h
  obtain ⟨h16, h⟩ := req_some h
  obtain ⟨rh17, h17, h⟩ := bind_some h
  have ch17 := hrec (x31 ++ ([x24] : List Int)) x2 x3 x25 x22 x23 x7 x8 x9 x10 x11 x12 x13 _ h17
  obtain ⟨x32, x33, x34⟩ := rh17
  try dsimp only at h
  obtain rfl := Option.some.inj h
  exact gRun_ok cxOK (f97_7_p5_e1 x1 x2 x3 x7 x8 x9 x10 x11 x12 x13 x22 x23 x24 x25 x30 x31 x32 x33 x34) ⟨(by rw [h14]; rfl), ch15, h16, (.inr (by simp)), rfl, ch17, trivial⟩
theorem f97_7_p2_ok (F : Nat) (rec : (List Int) → (List (List Int)) → Int → Bool → (List Int) → (List Int) → Nat → Nat → Nat → Nat → (List Int) → Int → Int → Option (Bool × (List Int) × (List Int))) (hrec : ∀ (x1 : LI) (x2 : LL) (x3 : Int) (x4 : Bool) (x5 x6 : LI) (x7 x8 : Nat) (x9 x10 : Nat) (x11 : LI) (x12 x13 : Int) (r : Bool × (List Int) × (List Int)), rec x1 x2 x3 x4 x5 x6 x7 x8 x9 x10 x11 x12 x13 = some r → f97_7_C x1 x2 x3 x4 x5 x6 x7 x8 x9 x10 x11 x12 x13 r) (x1 : LI) (x2 : LL) (x3 : Int) (x7 x8 : Nat) (x9 x10 : Nat) (x11 : LI) (x12 x13 : Int) : ∀ (k : Nat) (x24 : Int) (x25 : Bool) (x22 x23 : LI) (r : Bool × (List Int) × (List Int)), f97_7_p2 F rec x1 x2 x3 x7 x8 x9 x10 x11 x12 x13 k x24 x25 x22 x23 = some r → f97_7_p2_P x1 x2 x3 x7 x8 x9 x10 x11 x12 x13 x24 x25 x22 x23 r
 | 0, _, _, _, _, _, h => by cases h
 | k + 1, x24, x25, x22, x23, r, h => by
  unfold f97_7_p2 at h
  by_cases h8 : (decide (x24 < x13)) = true
  ·rw [if_pos h8] at h
   by_cases h9 : (decide (x24 < 0)) = true
   ·rw [if_pos h9] at h
    obtain ⟨x26, h10, h⟩ := bind_some h
    have ch10 := f95_ok F x1 _ h10
    try dsimp only at h
    obtain ⟨h11, h⟩ := req_some h
    obtain ⟨rh12, h12, h⟩ := bind_some h
    have ch12 := hrec (x26 ++ ([x24] : List Int)) x2 x3 x25 x22 x23 x7 x8 x9 x10 x11 x12 x13 _ h12
    obtain ⟨x27, x28, x29⟩ := rh12
    try dsimp only at h
    exact Lp.again (gRun_ok cxOK (f97_7_p2_e0 x1 x2 x3 x7 x8 x9 x10 x11 x12 x13 x22 x23 x24 x25 x26 x27 x28 x29) ⟨h8, h9, h9, h9, h9, h9, rfl, ch10, h11, (.inr (by simp)), rfl, ch12, trivial⟩) (f97_7_p2_ok F rec hrec x1 x2 x3 x7 x8 x9 x10 x11 x12 x13 k (w64 (x24 + 1)) x27 x28 x29 r h)
   ·rw [if_neg h9] at h
    have h9 := Bool.eq_false_iff.2 h9
    obtain ⟨x30, h13, h⟩ := bind_some h
    have ch13 := f53_ok F x1 x24 _ h13
    try dsimp only at h
    obtain ⟨rh18, h18, h⟩ := bind_some h
    have ch18 := f97_7_p5_ok F rec hrec x1 x24 x30 x2 x3 x25 x22 x23 x7 x8 x9 x10 x11 x12 x13 _ h18
    obtain ⟨x35, x36, x37⟩ := rh18
    try dsimp only at h
    exact Lp.again (gRun_ok cxOK (f97_7_p2_e1 x1 x2 x3 x7 x8 x9 x10 x11 x12 x13 x22 x23 x24 x25 x30 x35 x36 x37) ⟨h8, h9, h9, h9, ch13, h9, h9, ch18, trivial⟩) (f97_7_p2_ok F rec hrec x1 x2 x3 x7 x8 x9 x10 x11 x12 x13 k (w64 (x24 + 1)) x35 x36 x37 r h)
  ·rw [if_neg h8] at h
   have h8 := Bool.eq_false_iff.2 h8
   obtain rfl := Option.some.inj h
   exact Lp.out (gRun_ok cxOK (f97_7_p2_e2 x1 x2 x3 x7 x8 x9 x10 x11 x12 x13 x22 x23 x24 x25) ⟨h8, trivial⟩) (by intro hh; cases hh)
theorem f97_7_b_ok (F : Nat) (rec : (List Int) → (List (List Int)) → Int → Bool → (List Int) → (List Int) → Nat → Nat → Nat → Nat → (List Int) → Int → Int → Option (Bool × (List Int) × (List Int))) (hrec : ∀ (x1 : LI) (x2 : LL) (x3 : Int) (x4 : Bool) (x5 x6 : LI) (x7 x8 : Nat) (x9 x10 : Nat) (x11 : LI) (x12 x13 : Int) (r : Bool × (List Int) × (List Int)), rec x1 x2 x3 x4 x5 x6 x7 x8 x9 x10 x11 x12 x13 = some r → f97_7_C x1 x2 x3 x4 x5 x6 x7 x8 x9 x10 x11 x12 x13 r) (x1 : LI) (x2 : LL) (x3 : Int) (x4 : Bool) (x5 x6 : LI) (x7 x8 : Nat) (x9 x10 : Nat) (x11 : LI) (x12 x13 : Int) (r : Bool × (List Int) × (List Int)) (h : f97_7_b F rec x1 x2 x3 x4 x5 x6 x7 x8 x9 x10 x11 x12 x13 = some r) : f97_7_C x1 x2 x3 x4 x5 x6 x7 x8 x9 x10 x11 x12 x13 r := by
 unfold f97_7_b at h
 by_cases h1 : (((List.length x1 : Nat) : Int) == x12) = true
 ·rw [if_pos h1] at h
  obtain ⟨rh2, h2, h⟩ := bind_some h
  have ch2 := f61_ok F x1 x2 x3 x4 x5 x6 x7 x8 x9 x10 x11 _ h2
  obtain ⟨x14, x15, x16⟩ := rh2
  try dsimp only at h
  obtain rfl := Option.some.inj h
  exact callOK cxOK cxW Try.func97 (by kernel_rfl) (f97_7_e0 x1 x2 x3 x4 x5 x6 x7 x8 x9 x10 x11 x12 x13 x14 x15 x16) ⟨h1, ch2, trivial⟩
 ·rw [if_neg h1] at h
  have h1 := Bool.eq_false_iff.2 h1
  obtain ⟨rh19, h19, h⟩ := bind_some h
  have ch19 := f97_7_p2_ok F rec hrec x1 x2 x3 x7 x8 x9 x10 x11 x12 x13 F (-1) x4 x5 x6 _ h19
  obtain ⟨x38, x39, x40⟩ := rh19
  try dsimp only at h
  obtain rfl := Option.some.inj h
  exact callOK cxOK cxW Try.func97 (by kernel_rfl) (f97_7_e1 x1 x2 x3 x4 x5 x6 x7 x8 x9 x10 x11 x12 x13 x38 x39 x40) ⟨h1, ch19, trivial⟩
theorem f97_7_ok (F : Nat) : ∀ (k : Nat) (x1 : LI) (x2 : LL) (x3 : Int) (x4 : Bool) (x5 x6 : LI) (x7 x8 : Nat) (x9 x10 : Nat) (x11 : LI) (x12 x13 : Int) (r : Bool × (List Int) × (List Int)), f97_7 F k x1 x2 x3 x4 x5 x6 x7 x8 x9 x10 x11 x12 x13 = some r → f97_7_C x1 x2 x3 x4 x5 x6 x7 x8 x9 x10 x11 x12 x13 r
 | 0, _, _, _, _, _, _, _, _, _, _, _, _, _, _, h => by cases h
 | k + 1, x1, x2, x3, x4, x5, x6, x7, x8, x9, x10, x11, x12, x13, r, h => f97_7_b_ok F (f97_7 F k) (f97_7_ok F k) x1 x2 x3 x4 x5 x6 x7 x8 x9 x10 x11 x12 x13 r h

theorem f54_5_ok (F : Nat) (x1 x2 : Int) (x3 : LL) (x4 : Int) (x5 : Bool) (x6 x7 : LI) (x8 x9 : Nat) (x10 x11 : Nat) (x12 : LI) (r : Bool × (List Int) × (List Int)) (h : f54_5 F x1 x2 x3 x4 x5 x6 x7 x8 x9 x10 x11 x12 = some r) : f54_5_C x1 x2 x3 x4 x5 x6 x7 x8 x9 x10 x11 x12 r := by
 unfold f54_5 at h
 obtain ⟨rh1, h1, h⟩ := bind_some h
 have ch1 := f97_7_ok F F ([] : List Int) x3 x4 x5 x6 x7 x8 x9 x10 x11 x12 x1 x2 _ h1
 obtain ⟨x13, x14, x15⟩ := rh1
 try dsimp only at h
 obtain rfl := Option.some.inj h
 exact callOK cxOK cxW Try.func54 (by kernel_rfl) (f54_5_e0 x1 x2 x3 x4 x5 x6 x7 x8 x9 x10 x11 x12 x13 x14 x15) ⟨ch1, trivial⟩

theorem f60_ok (F : Nat) (x1 : LI) (x2 : LL) (x3 x4 : Int) (x5 : Bool) (x6 x7 : LI) (x8 x9 : Nat) (x10 x11 : Nat) (r : Bool × (List Int) × (List Int)) (h : f60 F x1 x2 x3 x4 x5 x6 x7 x8 x9 x10 x11 = some r) : f60_C x1 x2 x3 x4 x5 x6 x7 x8 x9 x10 x11 r := by
 unfold f60 at h
 obtain ⟨rh1, h1, h⟩ := bind_some h
 have ch1 := f54_5_ok F ((List.length x2 : Nat) : Int) x3 x2 x4 x5 x6 x7 x8 x9 x10 x11 x1 _ h1
 obtain ⟨x12, x13, x14⟩ := rh1
 try dsimp only at h
 obtain rfl := Option.some.inj h
 exact callOK cxOK cxW Try.func60 (by kernel_rfl) (f60_e0 x1 x2 x3 x4 x5 x6 x7 x8 x9 x10 x11 x12 x13 x14) ⟨ch1, trivial⟩

theorem f94_1_p2_ok (F : Nat) (rec : (List Int) → (List (List Int)) → Int → Int → Bool → (List Int) → (List Int) → Nat → Nat → Nat → Nat → Int → Int → Option (Bool × (List Int) × (List Int))) (hrec : ∀ (x1 : LI) (x2 : LL) (x3 x4 : Int) (x5 : Bool) (x6 x7 : LI) (x8 x9 : Nat) (x10 x11 : Nat) (x12 x13 : Int) (r : Bool × (List Int) × (List Int)), rec x1 x2 x3 x4 x5 x6 x7 x8 x9 x10 x11 x12 x13 = some r → f94_1_C x1 x2 x3 x4 x5 x6 x7 x8 x9 x10 x11 x12 x13 r) (x1 : LI) (x2 : LL) (x3 x4 : Int) (x8 x9 : Nat) (x10 x11 : Nat) (x12 x13 : Int) : ∀ (k : Nat) (x24 : Int) (x25 : Bool) (x22 x23 : LI) (r : Bool × (List Int) × (List Int)), f94_1_p2 F rec x1 x2 x3 x4 x8 x9 x10 x11 x12 x13 k x24 x25 x22 x23 = some r → f94_1_p2_P x1 x2 x3 x4 x8 x9 x10 x11 x12 x13 x24 x25 x22 x23 r
 | 0, _, _, _, _, _, h => by cases h
 | k + 1, x24, x25, x22, x23, r, h => by
  unfold f94_1_p2 at h
  by_cases h7 : (decide (x24 ≤ x13)) = true
  ·rw [if_pos h7] at h
   obtain ⟨x26, h8, h⟩ := bind_some h
   have ch8 := f95_ok F x1 _ h8
   try dsimp only at h
   obtain ⟨h9, h⟩ := req_some h
   obtain ⟨rh10, h10, h⟩ := bind_some h
   have ch10 := hrec (x26 ++ ([x24] : List Int)) x2 x3 x4 x25 x22 x23 x8 x9 x10 x11 x12 x13 _ h10
   obtain ⟨x27, x28, x29⟩ := rh10
   try dsimp only at h
   exact Lp.again (gRun_ok cxOK (f94_1_p2_e0 x1 x2 x3 x4 x8 x9 x10 x11 x12 x13 x22 x23 x24 x25 x26 x27 x28 x29) ⟨h7, ch8, h9, (.inr (by simp)), rfl, ch10, trivial⟩) (f94_1_p2_ok F rec hrec x1 x2 x3 x4 x8 x9 x10 x11 x12 x13 k (w64 (x24 + 1)) x27 x28 x29 r h)
  ·rw [if_neg h7] at h
   have h7 := Bool.eq_false_iff.2 h7
   obtain rfl := Option.some.inj h
   exact Lp.out (gRun_ok cxOK (f94_1_p2_e1 x1 x2 x3 x4 x8 x9 x10 x11 x12 x13 x22 x23 x24 x25) ⟨h7, trivial⟩) (by intro hh; cases hh)
theorem f94_1_b_ok (F : Nat) (rec : (List Int) → (List (List Int)) → Int → Int → Bool → (List Int) → (List Int) → Nat → Nat → Nat → Nat → Int → Int → Option (Bool × (List Int) × (List Int))) (hrec : ∀ (x1 : LI) (x2 : LL) (x3 x4 : Int) (x5 : Bool) (x6 x7 : LI) (x8 x9 : Nat) (x10 x11 : Nat) (x12 x13 : Int) (r : Bool × (List Int) × (List Int)), rec x1 x2 x3 x4 x5 x6 x7 x8 x9 x10 x11 x12 x13 = some r → f94_1_C x1 x2 x3 x4 x5 x6 x7 x8 x9 x10 x11 x12 x13 r) (x1 : LI) (x2 : LL) (x3 x4 : Int) (x5 : Bool) (x6 x7 : LI) (x8 x9 : Nat) (x10 x11 : Nat) (x12 x13 : Int) (r : Bool × (List Int) × (List Int)) (h : f94_1_b F rec x1 x2 x3 x4 x5 x6 x7 x8 x9 x10 x11 x12 x13 = some r) : f94_1_C x1 x2 x3 x4 x5 x6 x7 x8 x9 x10 x11 x12 x13 r := by
 unfold f94_1_b at h
 by_cases h1 : (((List.length x1 : Nat) : Int) == x12) = true
 ·rw [if_pos h1] at h
  obtain ⟨rh2, h2, h⟩ := bind_some h
  have ch2 := f60_ok F x1 x2 x3 x4 x5 x6 x7 x8 x9 x10 x11 _ h2
  obtain ⟨x14, x15, x16⟩ := rh2
  try dsimp only at h
  obtain rfl := Option.some.inj h
  exact callOK cxOK cxW Try.func94 (by kernel_rfl) (f94_1_e0 x1 x2 x3 x4 x5 x6 x7 x8 x9 x10 x11 x12 x13 x14 x15 x16) ⟨h1, ch2, trivial⟩
 ·rw [if_neg h1] at h
  have h1 := Bool.eq_false_iff.2 h1
  obtain ⟨rh11, h11, h⟩ := bind_some h
  have ch11 := f94_1_p2_ok F rec hrec x1 x2 x3 x4 x8 x9 x10 x11 x12 x13 F 0 x5 x6 x7 _ h11
  obtain ⟨x30, x31, x32⟩ := rh11
  try dsimp only at h
  obtain rfl := Option.some.inj h
  exact callOK cxOK cxW Try.func94 (by kernel_rfl) (f94_1_e1 x1 x2 x3 x4 x5 x6 x7 x8 x9 x10 x11 x12 x13 x30 x31 x32) ⟨h1, ch11, trivial⟩
theorem f94_1_ok (F : Nat) : ∀ (k : Nat) (x1 : LI) (x2 : LL) (x3 x4 : Int) (x5 : Bool) (x6 x7 : LI) (x8 x9 : Nat) (x10 x11 : Nat) (x12 x13 : Int) (r : Bool × (List Int) × (List Int)), f94_1 F k x1 x2 x3 x4 x5 x6 x7 x8 x9 x10 x11 x12 x13 = some r → f94_1_C x1 x2 x3 x4 x5 x6 x7 x8 x9 x10 x11 x12 x13 r
 | 0, _, _, _, _, _, _, _, _, _, _, _, _, _, _, h => by cases h
 | k + 1, x1, x2, x3, x4, x5, x6, x7, x8, x9, x10, x11, x12, x13, r, h => f94_1_b_ok F (f94_1 F k) (f94_1_ok F k) x1 x2 x3 x4 x5 x6 x7 x8 x9 x10 x11 x12 x13 r h

theorem f50_1_ok (F : Nat) (x1 x2 : Int) (x3 : LL) (x4 x5 : Int) (x6 : Bool) (x7 x8 : LI) (x9 x10 : Nat) (x11 x12 : Nat) (r : Bool × (List Int) × (List Int)) (h : f50_1 F x1 x2 x3 x4 x5 x6 x7 x8 x9 x10 x11 x12 = some r) : f50_1_C x1 x2 x3 x4 x5 x6 x7 x8 x9 x10 x11 x12 r := by
 unfold f50_1 at h
 obtain ⟨rh1, h1, h⟩ := bind_some h
 have ch1 := f94_1_ok F F ([] : List Int) x3 x4 x5 x6 x7 x8 x9 x10 x11 x12 x1 x2 _ h1
 obtain ⟨x13, x14, x15⟩ := rh1
 try dsimp only at h
 obtain rfl := Option.some.inj h
 exact callOK cxOK cxW Try.func50 (by kernel_rfl) (f50_1_e0 x1 x2 x3 x4 x5 x6 x7 x8 x9 x10 x11 x12 x13 x14 x15) ⟨ch1, trivial⟩

theorem f63_p0_ok (F : Nat) (x1 : LI) (x7 x5 : Int) (x2 : LL) (x3 x4 : LI) (x6 : Bool) (r : Bool) (h : f63_p0 F x1 x7 x5 x2 x3 x4 x6 = some r) : f63_p0_P x1 x7 x5 x2 x3 x4 x6 r := by
 unfold f63_p0 at h
 by_cases h2 : (x7 == x5) = true
 ·rw [if_pos h2] at h
  by_cases h3 : x6 = true
  ·rw [if_pos h3] at h
   obtain ⟨x8, h4, h⟩ := bind_some h
   have ch4 := f62_ok F x2 x3 x1 _ h4
   try dsimp only at h
   by_cases h5 : x8 = true
   ·rw [if_pos h5] at h
    obtain ⟨x9, h6, h⟩ := bind_some h
    have ch6 := f62_ok F x2 x4 x1 _ h6
    try dsimp only at h
    obtain rfl := Option.some.inj h
    exact gRun_ok cxOK (f63_p0_e0 x1 x2 x3 x4 x5 x6 x7 x8 x9) ⟨h2, h3, h3, h3, h3, ch4, h3, h5, h5, h5, h5, ch6, h5, trivial⟩
   ·rw [if_neg h5] at h
    have h5 := Bool.eq_false_iff.2 h5
    obtain rfl := Option.some.inj h
    exact gRun_ok cxOK (f63_p0_e1 x1 x2 x3 x4 x5 x6 x7 x8) ⟨h2, h3, h3, h3, h3, ch4, h3, h5, h5, h5, h5, h5, trivial⟩
  ·rw [if_neg h3] at h
   have h3 := Bool.eq_false_iff.2 h3
   obtain rfl := Option.some.inj h
   exact gRun_ok cxOK (f63_p0_e2 x1 x2 x3 x4 x5 x6 x7) ⟨h2, h3, h3, h3, h3, h3, rfl, rfl, rfl, rfl, rfl, trivial⟩
 ·rw [if_neg h2] at h
  have h2 := Bool.eq_false_iff.2 h2
  obtain rfl := Option.some.inj h
  exact gRun_ok cxOK (f63_p0_e3 x1 x2 x3 x4 x5 x6 x7) ⟨h2, trivial⟩
theorem f63_ok (F : Nat) (x1 : LI) (x2 : LL) (x3 x4 : LI) (x5 : Int) (x6 : Bool) (r : Bool) (h : f63 F x1 x2 x3 x4 x5 x6 = some r) : f63_C x1 x2 x3 x4 x5 x6 r := by
 unfold f63 at h
 obtain ⟨x7, h1, h⟩ := bind_some h
 have ch1 := f49_ok F x2 x1 (-1) _ h1
 try dsimp only at h
 obtain ⟨x10, h7, h⟩ := bind_some h
 have ch7 := f63_p0_ok F x1 x7 x5 x2 x3 x4 x6 _ h7
 try dsimp only at h
 obtain rfl := Option.some.inj h
 exact callOK cxOK cxW Try.func63 (by kernel_rfl) (f63_e0 x1 x2 x3 x4 x5 x6 x7 x10) ⟨ch1, ch7, trivial⟩

theorem f97_8_p5_ok (F : Nat) (rec : (List Int) → (List (List Int)) → (List Int) → (List Int) → Int → Bool → Int → Int → Option Bool) (hrec : ∀ (x1 : LI) (x2 : LL) (x3 x4 : LI) (x5 : Int) (x6 : Bool) (x7 x8 : Int) (r : Bool), rec x1 x2 x3 x4 x5 x6 x7 x8 = some r → f97_8_C x1 x2 x3 x4 x5 x6 x7 x8 r) (x1 : LI) (x13 : Int) (x17 : Bool) (x2 : LL) (x3 x4 : LI) (x5 : Int) (x14 : Bool) (x7 x8 : Int) (r : Bool) (h : f97_8_p5 F rec x1 x13 x17 x2 x3 x4 x5 x14 x7 x8 = some r) : f97_8_p5_P x1 x13 x17 x2 x3 x4 x5 x14 x7 x8 r := by
 unfold f97_8_p5 at h
 by_cases h14 : x17 = true
 ·rw [if_pos h14] at h
  obtain rfl := Option.some.inj h
  exact gRun_ok cxOK (f97_8_p5_e0 x1 x2 x3 x4 x5 x7 x8 x13 x14 x17) ⟨(by rw [h14]; rfl), trivial⟩
 ·rw [if_neg h14] at h
  have h14 := Bool.eq_false_iff.2 h14
  obtain ⟨x18, h15, h⟩ := bind_some h
  have ch15 := f95_ok F x1 _ h15
  try dsimp only at h
  obtain ⟨h16, h⟩ := req_some h
  obtain ⟨x19, h17, h⟩ := bind_some h
  have ch17 := hrec (x18 ++ ([x13] : List Int)) x2 x3 x4 x5 x14 x7 x8 _ h17
  try dsimp only at h
  obtain rfl := Option.some.inj h
  exact gRun_ok cxOK (f97_8_p5_e1 x1 x2 x3 x4 x5 x7 x8 x13 x14 x17 x18 x19) ⟨(by rw [h14]; rfl), ch15, h16, (.inr (by simp)), rfl, ch17, trivial⟩
theorem f97_8_p2_ok (F : Nat) (rec : (List Int) → (List (List Int)) → (List Int) → (List Int) → Int → Bool → Int → Int → Option Bool) (hrec : ∀ (x1 : LI) (x2 : LL) (x3 x4 : LI) (x5 : Int) (x6 : Bool) (x7 x8 : Int) (r : Bool), rec x1 x2 x3 x4 x5 x6 x7 x8 = some r → f97_8_C x1 x2 x3 x4 x5 x6 x7 x8 r) (x1 : LI) (x2 : LL) (x3 x4 : LI) (x5 x7 x8 : Int) : ∀ (k : Nat) (x13 : Int) (x14 : Bool) (r : Bool), f97_8_p2 F rec x1 x2 x3 x4 x5 x7 x8 k x13 x14 = some r → f97_8_p2_P x1 x2 x3 x4 x5 x7 x8 x13 x14 r
 | 0, _, _, _, h => by cases h
 | k + 1, x13, x14, r, h => by
  unfold f97_8_p2 at h
  by_cases h8 : (decide (x13 < x8)) = true
  ·rw [if_pos h8] at h
   by_cases h9 : (decide (x13 < 0)) = true
   ·rw [if_pos h9] at h
    obtain ⟨x15, h10, h⟩ := bind_some h
    have ch10 := f95_ok F x1 _ h10
    try dsimp only at h
    obtain ⟨h11, h⟩ := req_some h
    obtain ⟨x16, h12, h⟩ := bind_some h
    have ch12 := hrec (x15 ++ ([x13] : List Int)) x2 x3 x4 x5 x14 x7 x8 _ h12
    try dsimp only at h
    exact Lp.again (gRun_ok cxOK (f97_8_p2_e0 x1 x2 x3 x4 x5 x7 x8 x13 x14 x15 x16) ⟨h8, h9, h9, h9, h9, h9, rfl, ch10, h11, (.inr (by simp)), rfl, ch12, trivial⟩) (f97_8_p2_ok F rec hrec x1 x2 x3 x4 x5 x7 x8 k (w64 (x13 + 1)) x16 r h)
   ·rw [if_neg h9] at h
    have h9 := Bool.eq_false_iff.2 h9
    obtain ⟨x17, h13, h⟩ := bind_some h
    have ch13 := f53_ok F x1 x13 _ h13
    try dsimp only at h
    obtain ⟨x20, h18, h⟩ := bind_some h
    have ch18 := f97_8_p5_ok F rec hrec x1 x13 x17 x2 x3 x4 x5 x14 x7 x8 _ h18
    try dsimp only at h
    exact Lp.again (gRun_ok cxOK (f97_8_p2_e1 x1 x2 x3 x4 x5 x7 x8 x13 x14 x17 x20) ⟨h8, h9, h9, h9, ch13, h9, h9, ch18, trivial⟩) (f97_8_p2_ok F rec hrec x1 x2 x3 x4 x5 x7 x8 k (w64 (x13 + 1)) x20 r h)
  ·rw [if_neg h8] at h
   have h8 := Bool.eq_false_iff.2 h8
   obtain rfl := Option.some.inj h
   exact Lp.out (gRun_ok cxOK (f97_8_p2_e2 x1 x2 x3 x4 x5 x7 x8 x13 x14) ⟨h8, trivial⟩) (by intro hh; cases hh)
theorem f97_8_b_ok (F : Nat) (rec : (List Int) → (List (List Int)) → (List Int) → (List Int) → Int → Bool → Int → Int → Option Bool) (hrec : ∀ (x1 : LI) (x2 : LL) (x3 x4 : LI) (x5 : Int) (x6 : Bool) (x7 x8 : Int) (r : Bool), rec x1 x2 x3 x4 x5 x6 x7 x8 = some r → f97_8_C x1 x2 x3 x4 x5 x6 x7 x8 r) (x1 : LI) (x2 : LL) (x3 x4 : LI) (x5 : Int) (x6 : Bool) (x7 x8 : Int) (r : Bool) (h : f97_8_b F rec x1 x2 x3 x4 x5 x6 x7 x8 = some r) : f97_8_C x1 x2 x3 x4 x5 x6 x7 x8 r := by
 unfold f97_8_b at h
 by_cases h1 : (((List.length x1 : Nat) : Int) == x7) = true
 ·rw [if_pos h1] at h
  obtain ⟨x9, h2, h⟩ := bind_some h
  have ch2 := f63_ok F x1 x2 x3 x4 x5 x6 _ h2
  try dsimp only at h
  obtain rfl := Option.some.inj h
  exact callOK cxOK cxW Try.func97 (by kernel_rfl) (f97_8_e0 x1 x2 x3 x4 x5 x6 x7 x8 x9) ⟨h1, ch2, trivial⟩
 ·rw [if_neg h1] at h
  have h1 := Bool.eq_false_iff.2 h1
  obtain ⟨x21, h19, h⟩ := bind_some h
  have ch19 := f97_8_p2_ok F rec hrec x1 x2 x3 x4 x5 x7 x8 F (-1) x6 _ h19
  try dsimp only at h
  obtain rfl := Option.some.inj h
  exact callOK cxOK cxW Try.func97 (by kernel_rfl) (f97_8_e1 x1 x2 x3 x4 x5 x6 x7 x8 x21) ⟨h1, ch19, trivial⟩
theorem f97_8_ok (F : Nat) : ∀ (k : Nat) (x1 : LI) (x2 : LL) (x3 x4 : LI) (x5 : Int) (x6 : Bool) (x7 x8 : Int) (r : Bool), f97_8 F k x1 x2 x3 x4 x5 x6 x7 x8 = some r → f97_8_C x1 x2 x3 x4 x5 x6 x7 x8 r
 | 0, _, _, _, _, _, _, _, _, _, h => by cases h
 | k + 1, x1, x2, x3, x4, x5, x6, x7, x8, r, h => f97_8_b_ok F (f97_8 F k) (f97_8_ok F k) x1 x2 x3 x4 x5 x6 x7 x8 r h

theorem f54_6_ok (F : Nat) (x1 x2 : Int) (x3 : LL) (x4 x5 : LI) (x6 : Int) (x7 : Bool) (r : Bool) (h : f54_6 F x1 x2 x3 x4 x5 x6 x7 = some r) : f54_6_C x1 x2 x3 x4 x5 x6 x7 r := by
 unfold f54_6 at h
 obtain ⟨x8, h1, h⟩ := bind_some h
 have ch1 := f97_8_ok F F ([] : List Int) x3 x4 x5 x6 x7 x1 x2 _ h1
 try dsimp only at h
 obtain rfl := Option.some.inj h
 exact callOK cxOK cxW Try.func54 (by kernel_rfl) (f54_6_e0 x1 x2 x3 x4 x5 x6 x7 x8) ⟨ch1, trivial⟩

theorem f14_p2_ok (F : Nat) (x5 : LI) (x4 : LL) (x6 x8 : LI) : ∀ (k : Nat) (x10 : Int) (r : f14_p2_R), f14_p2 F x5 x4 x6 x8 k x10 = some r → f14_p2_P x5 x4 x6 x8 x10 r
 | 0, _, _, h => by cases h
 | k + 1, x10, r, h => by
  unfold f14_p2 at h
  by_cases h9 : (decide (x10 < ((List.length x5 : Nat) : Int))) = true
  ·rw [if_pos h9] at h
   obtain ⟨x11, h10, h⟩ := bind_some h
   try dsimp only at h
   by_cases h11 : (decide (x11 < 0)) = true
   ·rw [if_pos h11] at h
    obtain rfl := Option.some.inj h
    exact Lp.out (gRun_ok cxOK (f14_p2_e0 x4 x5 x6 x8 x10 x11) ⟨h9, ⟨(at?_spec h10).1, x11, (at?_spec h10).2, rfl⟩, h11, h11, h11, h11, h11, h11, h11, h11, h11, h11, rfl, rfl, rfl, rfl, rfl, rfl, rfl, trivial⟩) (by intro hh; cases hh)
   ·rw [if_neg h11] at h
    have h11 := Bool.eq_false_iff.2 h11
    obtain ⟨x12, h12, h⟩ := bind_some h
    try dsimp only at h
    by_cases h13 : (decide (x11 > x12)) = true
    ·rw [if_pos h13] at h
     obtain rfl := Option.some.inj h
     exact Lp.out (gRun_ok cxOK (f14_p2_e1 x4 x5 x6 x8 x10 x11 x12) ⟨h9, ⟨(at?_spec h10).1, x11, (at?_spec h10).2, rfl⟩, h11, h11, h11, ⟨(at?_spec h10).1, x11, (at?_spec h10).2, rfl⟩, h11, h11, h11, h11, ⟨(at?_spec h12).1, x12, (at?_spec h12).2, rfl⟩, h11, h11, h11, h13, h13, h13, h13, h13, h13, rfl, trivial⟩) (by intro hh; cases hh)
    ·rw [if_neg h13] at h
     have h13 := Bool.eq_false_iff.2 h13
     by_cases h14 : (decide (x12 > 99)) = true
     ·rw [if_pos h14] at h
      obtain rfl := Option.some.inj h
      exact Lp.out (gRun_ok cxOK (f14_p2_e2 x4 x5 x6 x8 x10 x11 x12) ⟨h9, ⟨(at?_spec h10).1, x11, (at?_spec h10).2, rfl⟩, h11, h11, h11, ⟨(at?_spec h10).1, x11, (at?_spec h10).2, rfl⟩, h11, h11, h11, h11, ⟨(at?_spec h12).1, x12, (at?_spec h12).2, rfl⟩, h11, h11, h11, h13, h13, h13, ⟨(at?_spec h12).1, x12, (at?_spec h12).2, rfl⟩, h13, h13, h13, h14, trivial⟩) (by intro hh; cases hh)
     ·rw [if_neg h14] at h
      have h14 := Bool.eq_false_iff.2 h14
      exact Lp.again (gRun_ok cxOK (f14_p2_e3 x4 x5 x6 x8 x10 x11 x12) ⟨h9, ⟨(at?_spec h10).1, x11, (at?_spec h10).2, rfl⟩, h11, h11, h11, ⟨(at?_spec h10).1, x11, (at?_spec h10).2, rfl⟩, h11, h11, h11, h11, ⟨(at?_spec h12).1, x12, (at?_spec h12).2, rfl⟩, h11, h11, h11, h13, h13, h13, ⟨(at?_spec h12).1, x12, (at?_spec h12).2, rfl⟩, h13, h13, h13, h14, trivial⟩) (f14_p2_ok F x5 x4 x6 x8 k (w64 (x10 + 1)) r h)
  ·rw [if_neg h9] at h
   have h9 := Bool.eq_false_iff.2 h9
   obtain rfl := Option.some.inj h
   exact Lp.out (gRun_ok cxOK (f14_p2_e4 x4 x5 x6 x8 x10) ⟨h9, trivial⟩) (by intro hh; cases hh)
theorem f14_ok (F : Nat) (x1 x2 : Int) (x3 : LI) (r : Bool) (h : f14 F x1 x2 x3 = some r) : f14_C x1 x2 x3 r := by
 unfold f14 at h
 obtain ⟨x4, h1, h⟩ := bind_some h
 have ch1 := f43_ok F x1 x2 x3 3 3 4 _ h1
 try dsimp only at h
 obtain ⟨x5, h2, h⟩ := bind_some h
 try dsimp only at h
 obtain ⟨rh3, h3, h⟩ := bind_some h
 have ch3 := f39_ok F x4 _ h3
 obtain ⟨x6, x7⟩ := rh3
 try dsimp only at h
 obtain ⟨rh4, h4, h⟩ := bind_some h
 have ch4 := f41_ok F x4 _ h4
 obtain ⟨x8, x9⟩ := rh4
 try dsimp only at h
 by_cases h5 : (x7 != 0) = true
 ·rw [if_pos h5] at h
  cases h
 ·rw [if_neg h5] at h
  have h5 := Bool.eq_false_iff.2 h5
  by_cases h6 : (x9 != 0) = true
  ·rw [if_pos h6] at h
   cases h
  ·rw [if_neg h6] at h
   have h6 := Bool.eq_false_iff.2 h6
   by_cases h7 : (((List.length x6 : Nat) : Int) != ((List.length x5 : Nat) : Int)) = true
   ·rw [if_pos h7] at h
    cases h
   ·rw [if_neg h7] at h
    have h7 := Bool.eq_false_iff.2 h7
    by_cases h8 : (((List.length x8 : Nat) : Int) != ((List.length x5 : Nat) : Int)) = true
    ·rw [if_pos h8] at h
     cases h
    ·rw [if_neg h8] at h
     have h8 := Bool.eq_false_iff.2 h8
     obtain ⟨rh15, h15, h⟩ := bind_some h
     have ch15 := f14_p2_ok F x5 x4 x6 x8 F 0 _ h15
     cases rh15 with
     | c0 =>
      try dsimp only at h
      cases h
     | c1 =>
      try dsimp only at h
      obtain ⟨x13, h16, h⟩ := bind_some h
      have ch16 := f48_ok F x4 (-1) _ h16
      try dsimp only at h
      obtain ⟨rh17, h17, h⟩ := bind_some h
      have ch17 := f59_ok F ([99] : List Int) ((List.length x5 : Nat) : Int) _ h17
      obtain ⟨x14, x15⟩ := rh17
      try dsimp only at h
      obtain ⟨h18, h⟩ := req_some h
      obtain ⟨rh19, h19, h⟩ := bind_some h
      have ch19 := f50_1_ok F ((List.length x5 : Nat) : Int) 4 x4 ((List.length x5 : Nat) : Int) x13 true x15 (List.replicate (Int.toNat ((List.length x5 : Nat) : Int)) (0 : Int)) 0 x14 0 (Int.toNat ((List.length x5 : Nat) : Int)) _ h19
      obtain ⟨x16, x17, x18⟩ := rh19
      try dsimp only at h
      obtain ⟨x19, h20, h⟩ := bind_some h
      have ch20 := f54_6_ok F ((List.length x4 : Nat) : Int) ((List.length x5 : Nat) : Int) x4 x6 x8 x13 x16 _ h20
      try dsimp only at h
      by_cases h21 : x19 = true
      ·rw [if_pos h21] at h
       obtain ⟨x20, h22, h⟩ := bind_some h
       have ch22 := f23_ok F x6 (List.drop 0 (List.take (0 + x14) x17)) _ h22
       try dsimp only at h
       obtain ⟨h23, h⟩ := req_some h
       by_cases h24 : x20 = true
       ·rw [if_pos h24] at h
        obtain ⟨x21, h25, h⟩ := bind_some h
        have ch25 := f23_ok F x8 (List.drop 0 (List.take (0 + (Int.toNat ((List.length x5 : Nat) : Int))) x18)) _ h25
        try dsimp only at h
        obtain ⟨h26, h⟩ := req_some h
        by_cases h27 : x21 = true
        ·rw [if_pos h27] at h
         obtain ⟨x22, h28, h⟩ := bind_some h
         have ch28 := f16_ok F _ h28
         try dsimp only at h
         obtain rfl := Option.some.inj h
         exact callOK cxOK cxW Try.func14 (by kernel_rfl) (f14_e0 x1 x2 x3 x4 x5 x6 x7 x8 x9 x13 x14 x15 x16 x17 x18 x19 x20 x21 x22) ⟨ch1, ⟨(at?_spec h2).1, x5, (at?_spec h2).2, rfl⟩, ch3, ch4, h5, h5, h5, h6, h6, h6, h6, h6, h7, h7, h7, h7, h7, h8, ch15, ch16, ch17, h18, ch19, ch20, h21, h21, h21, ch22, h23, h21, h24, h24, h24, ch25, h26, h24, h27, ch28, h27, trivial⟩
        ·rw [if_neg h27] at h
         have h27 := Bool.eq_false_iff.2 h27
         cases h
       ·rw [if_neg h24] at h
        have h24 := Bool.eq_false_iff.2 h24
        cases h
      ·rw [if_neg h21] at h
       have h21 := Bool.eq_false_iff.2 h21
       cases h

end Go.Gh.Sale
