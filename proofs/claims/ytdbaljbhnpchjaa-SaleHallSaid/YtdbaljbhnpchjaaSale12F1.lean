/- Sale12F1: printed by wip/tool/gx.py -/
import Derived.Test.YtdbaljbhnpchjaaSale12F0
namespace Go.Gh.Sale
set_option linter.unusedVariables false
set_option linter.unusedSimpArgs false
open Go.Proofs

theorem f12_p1_ok (F : Nat) (x6 : LI) (x4 : LI) (x5 : LL) : ∀ (k : Nat) (x12 : Int) (x11 : LI) (r : (List Int)), f12_p1 F x6 x4 x5 k x12 x11 = some r → f12_p1_P x6 x4 x5 x12 x11 r
 | 0, _, _, _, h => by cases h
 | k + 1, x12, x11, r, h => by
  unfold f12_p1 at h
  by_cases h11 : (decide (x12 < ((List.length x6 : Nat) : Int))) = true
  ·rw [if_pos h11] at h
   obtain ⟨h12, h⟩ := req_some h
   obtain ⟨x13, h13, h⟩ := bind_some h
   try dsimp only at h
   obtain ⟨h14, h⟩ := req_some h
   exact Lp.again (gRun_ok cxOK (f12_p1_e0 x4 x5 x6 x11 x12 x13) ⟨h11, h12, ⟨x13, h13, rfl⟩, (by decide), h14, rfl, trivial⟩) (f12_p1_ok F x6 x4 x5 k (w64 (x12 + 1)) (x11 ++ ([(Int.tmod (w64 (x13)) 6)] : List Int)) r h)
  ·rw [if_neg h11] at h
   have h11 := Bool.eq_false_iff.2 h11
   obtain rfl := Option.some.inj h
   exact Lp.out (gRun_ok cxOK (f12_p1_e1 x4 x5 x6 x11 x12) ⟨h11, trivial⟩) (by intro hh; cases hh)
theorem f12_p10_ok (F : Nat) (x6 : LI) (x17 : Int) (x5 : LL) (x14 : LI) (x15 : LL) : ∀ (k : Nat) (x18 x19 : Int) (r : Int), f12_p10 F x6 x17 x5 x14 x15 k x18 x19 = some r → f12_p10_P x6 x17 x5 x14 x15 x18 x19 r
 | 0, _, _, _, h => by cases h
 | k + 1, x18, x19, r, h => by
  unfold f12_p10 at h
  by_cases h20 : (decide (x19 < ((List.length x6 : Nat) : Int))) = true
  ·rw [if_pos h20] at h
   obtain ⟨x20, h21, h⟩ := bind_some h
   try dsimp only at h
   obtain ⟨x21, h22, h⟩ := bind_some h
   try dsimp only at h
   obtain ⟨x22, h23, h⟩ := bind_some h
   try dsimp only at h
   exact Lp.again (gRun_ok cxOK (f12_p10_e0 x5 x6 x14 x15 x17 x18 x19 x20 x21 x22) ⟨h20, ⟨(at?_spec h21).1, x20, (at?_spec h21).2, rfl⟩, ⟨(at?_spec h22).1, x21, (at?_spec h22).2, rfl⟩, ⟨(at?_spec h23).1, x22, (at?_spec h23).2, rfl⟩, trivial⟩) (f12_p10_ok F x6 x17 x5 x14 x15 k (if (w64 (x21 - x22)) > x18 then (w64 (x21 - x22)) else x18) (w64 (x19 + 1)) r h)
  ·rw [if_neg h20] at h
   have h20 := Bool.eq_false_iff.2 h20
   obtain rfl := Option.some.inj h
   exact Lp.out (gRun_ok cxOK (f12_p10_e1 x5 x6 x14 x15 x17 x18 x19) ⟨h20, trivial⟩) (by intro hh; cases hh)
theorem f12_p17_ok (F : Nat) (x6 : LI) (x17 x23 : Int) (x25 : LI) (x26 : Int) (x5 : LL) (x28 x29 : Int) (x14 : LI) (x15 : LL) (r : (List Int)) (h : f12_p17 F x6 x17 x23 x25 x26 x5 x28 x29 x14 x15 = some r) : f12_p17_P x6 x17 x23 x25 x26 x5 x28 x29 x14 x15 r := by
 unfold f12_p17 at h
 by_cases h37 : ((w64 (x28 - x29)) == x23) = true
 ·rw [if_pos h37] at h
  obtain ⟨h38, h⟩ := req_some h
  obtain rfl := Option.some.inj h
  exact gRun_ok cxOK (f12_p17_e0 x5 x6 x14 x15 x17 x23 x25 x26 x28 x29) ⟨h37, h38, rfl, trivial⟩
 ·rw [if_neg h37] at h
  have h37 := Bool.eq_false_iff.2 h37
  obtain rfl := Option.some.inj h
  exact gRun_ok cxOK (f12_p17_e1 x5 x6 x14 x15 x17 x23 x25 x26 x28 x29) ⟨h37, trivial⟩
theorem f12_p17_1_ok (F : Nat) (x6 : LI) (x17 x23 : Int) (x25 : LI) (x26 : Int) (x5 : LL) (x32 x33 : Int) (x14 : LI) (x15 : LL) (r : (List Int)) (h : f12_p17_1 F x6 x17 x23 x25 x26 x5 x32 x33 x14 x15 = some r) : f12_p17_1_P x6 x17 x23 x25 x26 x5 x32 x33 x14 x15 r := by
 unfold f12_p17_1 at h
 by_cases h44 : ((w64 (x32 - x33)) == x23) = true
 ·rw [if_pos h44] at h
  obtain ⟨h45, h⟩ := req_some h
  obtain rfl := Option.some.inj h
  exact gRun_ok cxOK (f12_p17_1_e0 x5 x6 x14 x15 x17 x23 x25 x26 x32 x33) ⟨h44, h45, rfl, trivial⟩
 ·rw [if_neg h44] at h
  have h44 := Bool.eq_false_iff.2 h44
  obtain rfl := Option.some.inj h
  exact gRun_ok cxOK (f12_p17_1_e1 x5 x6 x14 x15 x17 x23 x25 x26 x32 x33) ⟨h44, trivial⟩
theorem f12_p14_ok (F : Nat) (x6 : LI) (x17 x23 : Int) (x5 : LL) (x14 : LI) (x15 : LL) : ∀ (k : Nat) (x26 : Int) (x25 : LI) (r : (List Int)), f12_p14 F x6 x17 x23 x5 x14 x15 k x26 x25 = some r → f12_p14_P x6 x17 x23 x5 x14 x15 x26 x25 r
 | 0, _, _, _, h => by cases h
 | k + 1, x26, x25, r, h => by
  unfold f12_p14 at h
  by_cases h29 : (decide (x26 < ((List.length x6 : Nat) : Int))) = true
  ·rw [if_pos h29] at h
   by_cases h30 : (decide (x26 < 0)) = true
   ·rw [if_pos h30] at h
    by_cases h31 : (x23 == 0) = true
    ·rw [if_pos h31] at h
     obtain ⟨h32, h⟩ := req_some h
     exact Lp.again (gRun_ok cxOK (f12_p14_e0 x5 x6 x14 x15 x17 x23 x25 x26) ⟨h29, h30, h30, h30, h31, h31, h31, h31, h31, rfl, h32, rfl, trivial⟩) (f12_p14_ok F x6 x17 x23 x5 x14 x15 k (w64 (x26 + 1)) (x25 ++ ([x26] : List Int)) r h)
    ·rw [if_neg h31] at h
     have h31 := Bool.eq_false_iff.2 h31
     by_cases h33 : (decide (x26 ≥ 0)) = true
     ·rw [if_pos h33] at h
      obtain ⟨x27, h34, h⟩ := bind_some h
      try dsimp only at h
      obtain ⟨x28, h35, h⟩ := bind_some h
      try dsimp only at h
      obtain ⟨x29, h36, h⟩ := bind_some h
      try dsimp only at h
      obtain ⟨x30, h39, h⟩ := bind_some h
      have ch39 := f12_p17_ok F x6 x17 x23 x25 x26 x5 x28 x29 x14 x15 _ h39
      try dsimp only at h
      exact Lp.again (gRun_ok cxOK (f12_p14_e1 x5 x6 x14 x15 x17 x23 x25 x26 x27 x28 x29 x30) ⟨h29, h30, h30, h30, h31, h31, h31, h33, h33, h33, ⟨(at?_spec h34).1, x27, (at?_spec h34).2, rfl⟩, h33, h33, h33, ⟨(at?_spec h35).1, x28, (at?_spec h35).2, rfl⟩, h33, h33, h33, h33, ⟨(at?_spec h36).1, x29, (at?_spec h36).2, rfl⟩, h33, h33, h33, h33, h31, h33, h31, ch39, trivial⟩) (f12_p14_ok F x6 x17 x23 x5 x14 x15 k (w64 (x26 + 1)) x30 r h)
     ·rw [if_neg h33] at h
      have h33 := Bool.eq_false_iff.2 h33
      exact Lp.again (gRun_ok cxOK (f12_p14_e2 x5 x6 x14 x15 x17 x23 x25 x26) ⟨h29, h30, h30, h30, h31, h31, h31, h33, h33, h33, h33, h33, h33, h33, h33, h33, h33, h33, h33, h33, h33, h31, h33, h31, rfl, trivial⟩) (f12_p14_ok F x6 x17 x23 x5 x14 x15 k (w64 (x26 + 1)) x25 r h)
   ·rw [if_neg h30] at h
    have h30 := Bool.eq_false_iff.2 h30
    by_cases h40 : (decide (x26 ≥ 0)) = true
    ·rw [if_pos h40] at h
     obtain ⟨x31, h41, h⟩ := bind_some h
     try dsimp only at h
     obtain ⟨x32, h42, h⟩ := bind_some h
     try dsimp only at h
     obtain ⟨x33, h43, h⟩ := bind_some h
     try dsimp only at h
     obtain ⟨x34, h46, h⟩ := bind_some h
     have ch46 := f12_p17_1_ok F x6 x17 x23 x25 x26 x5 x32 x33 x14 x15 _ h46
     try dsimp only at h
     exact Lp.again (gRun_ok cxOK (f12_p14_e3 x5 x6 x14 x15 x17 x23 x25 x26 x31 x32 x33 x34) ⟨h29, h30, h30, h30, rfl, rfl, rfl, h40, h40, h40, ⟨(at?_spec h41).1, x31, (at?_spec h41).2, rfl⟩, h40, h40, h40, ⟨(at?_spec h42).1, x32, (at?_spec h42).2, rfl⟩, h40, h40, h40, h40, ⟨(at?_spec h43).1, x33, (at?_spec h43).2, rfl⟩, h40, h40, h40, h40, rfl, h40, rfl, ch46, trivial⟩) (f12_p14_ok F x6 x17 x23 x5 x14 x15 k (w64 (x26 + 1)) x34 r h)
    ·rw [if_neg h40] at h
     have h40 := Bool.eq_false_iff.2 h40
     exact Lp.again (gRun_ok cxOK (f12_p14_e4 x5 x6 x14 x15 x17 x23 x25 x26) ⟨h29, h30, h30, h30, rfl, rfl, rfl, h40, h40, h40, h40, h40, h40, h40, h40, h40, h40, h40, h40, h40, h40, rfl, h40, rfl, rfl, trivial⟩) (f12_p14_ok F x6 x17 x23 x5 x14 x15 k (w64 (x26 + 1)) x25 r h)
  ·rw [if_neg h29] at h
   have h29 := Bool.eq_false_iff.2 h29
   obtain rfl := Option.some.inj h
   exact Lp.out (gRun_ok cxOK (f12_p14_e5 x5 x6 x14 x15 x17 x23 x25 x26) ⟨h29, trivial⟩) (by intro hh; cases hh)
theorem f12_p6_ok (F : Nat) (x6 : LI) (x5 : LL) (x14 : LI) (x15 : LL) : ∀ (k : Nat) (x17 : Int) (r : f12_p6_R), f12_p6 F x6 x5 x14 x15 k x17 = some r → f12_p6_P x6 x5 x14 x15 x17 r
 | 0, _, _, h => by cases h
 | k + 1, x17, r, h => by
  unfold f12_p6 at h
  by_cases h19 : (decide (x17 < ((List.length x5 : Nat) : Int))) = true
  ·rw [if_pos h19] at h
   obtain ⟨x23, h24, h⟩ := bind_some h
   have ch24 := f12_p10_ok F x6 x17 x5 x14 x15 F 0 0 _ h24
   try dsimp only at h
   obtain ⟨x35, h47, h⟩ := bind_some h
   have ch47 := f12_p14_ok F x6 x17 x23 x5 x14 x15 F (-1) ([] : List Int) _ h47
   try dsimp only at h
   obtain ⟨x36, h48, h⟩ := bind_some h
   try dsimp only at h
   obtain ⟨x37, h49, h⟩ := bind_some h
   have ch49 := f23_ok F x36 (List.drop 0 (List.take (0 + (List.length x35)) x35)) _ h49
   try dsimp only at h
   by_cases h50 : x37 = true
   ·rw [if_pos h50] at h
    exact Lp.again (gRun_ok cxOK (f12_p6_e0 x5 x6 x14 x15 x17 x23 x35 x36 x37) ⟨h19, ch24, ch47, ⟨(at?_spec h48).1, x36, (at?_spec h48).2, rfl⟩, ch49, (Nat.le_of_eq (Nat.zero_add _)), (by rw [h50]; rfl), trivial⟩) (f12_p6_ok F x6 x5 x14 x15 k (w64 (x17 + 1)) r h)
   ·rw [if_neg h50] at h
    have h50 := Bool.eq_false_iff.2 h50
    obtain rfl := Option.some.inj h
    exact Lp.out (gRun_ok cxOK (f12_p6_e1 x5 x6 x14 x15 x17 x23 x35 x36 x37) ⟨h19, ch24, ch47, ⟨(at?_spec h48).1, x36, (at?_spec h48).2, rfl⟩, ch49, (Nat.le_of_eq (Nat.zero_add _)), (by rw [h50]; rfl), trivial⟩) (by intro hh; cases hh)
  ·rw [if_neg h19] at h
   have h19 := Bool.eq_false_iff.2 h19
   obtain rfl := Option.some.inj h
   exact Lp.out (gRun_ok cxOK (f12_p6_e2 x5 x6 x14 x15 x17) ⟨h19, trivial⟩) (by intro hh; cases hh)
theorem f12_p32_1_ok (F : Nat) (x6 : LI) (x39 : Option (List Int)) (x40 : Int) (x53 : LI) (x56 x58 : Int) (x59 : Bool) (x61 : Int) (x5 : LL) (x57 : LI) (x60 : Int) (x14 : LI) (x15 : LL) (x38 : Bool) (r : Int × Bool) (h : f12_p32_1 F x6 x39 x40 x53 x56 x58 x59 x61 x5 x57 x60 x14 x15 x38 = some r) : f12_p32_1_P x6 x39 x40 x53 x56 x58 x59 x61 x5 x57 x60 x14 x15 x38 r := by
 unfold f12_p32_1 at h
 by_cases h73 : (decide (x61 < 0)) = true
 ·rw [if_pos h73] at h
  obtain rfl := Option.some.inj h
  exact gRun_ok cxOK (f12_p32_1_e0 x5 x6 x14 x15 x38 x39 x40 x53 x56 x57 x58 x59 x60 x61) ⟨h73, trivial⟩
 ·rw [if_neg h73] at h
  have h73 := Bool.eq_false_iff.2 h73
  obtain ⟨h74, h⟩ := req_some h
  obtain rfl := Option.some.inj h
  exact gRun_ok cxOK (f12_p32_1_e1 x5 x6 x14 x15 x38 x39 x40 x53 x56 x57 x58 x59 x60 x61) ⟨h73, h74, trivial⟩
theorem f12_p29_1_ok (F : Nat) (x6 : LI) (x39 : Option (List Int)) (x40 : Int) (x53 : LI) (x56 : Int) (x5 : LL) (x57 : LI) (x14 : LI) (x15 : LL) (x38 : Bool) : ∀ (k : Nat) (x58 : Int) (x59 : Bool) (x60 : Int) (r : Int × Bool), f12_p29_1 F x6 x39 x40 x53 x56 x5 x57 x14 x15 x38 k x58 x59 x60 = some r → f12_p29_1_P x6 x39 x40 x53 x56 x5 x57 x14 x15 x38 x58 x59 x60 r
 | 0, _, _, _, _, h => by cases h
 | k + 1, x58, x59, x60, r, h => by
  unfold f12_p29_1 at h
  by_cases h71 : (decide (x60 < ((List.length x57 : Nat) : Int))) = true
  ·rw [if_pos h71] at h
   obtain ⟨x61, h72, h⟩ := bind_some h
   try dsimp only at h
   obtain ⟨rh75, h75, h⟩ := bind_some h
   have ch75 := f12_p32_1_ok F x6 x39 x40 x53 x56 x58 x59 x61 x5 x57 x60 x14 x15 x38 _ h75
   obtain ⟨x62, x63⟩ := rh75
   try dsimp only at h
   exact Lp.again (gRun_ok cxOK (f12_p29_1_e0 x5 x6 x14 x15 x38 x39 x40 x53 x56 x57 x58 x59 x60 x61 x62 x63) ⟨h71, ⟨(at?_spec h72).1, x61, (at?_spec h72).2, rfl⟩, ch75, trivial⟩) (f12_p29_1_ok F x6 x39 x40 x53 x56 x5 x57 x14 x15 x38 k x62 x63 (w64 (x60 + 1)) r h)
  ·rw [if_neg h71] at h
   have h71 := Bool.eq_false_iff.2 h71
   obtain rfl := Option.some.inj h
   exact Lp.out (gRun_ok cxOK (f12_p29_1_e1 x5 x6 x14 x15 x38 x39 x40 x53 x56 x57 x58 x59 x60) ⟨h71, trivial⟩) (by intro hh; cases hh)
theorem f12_p24_ok (F : Nat) (x6 : LI) (x39 : Option (List Int)) (x40 : Int) (x5 : LL) (x14 : LI) (x15 : LL) (x38 : Bool) : ∀ (k : Nat) (x54 : Int) (x55 : Bool) (x56 : Int) (x53 : LI) (r : Int × Bool × (List Int)), f12_p24 F x6 x39 x40 x5 x14 x15 x38 k x54 x55 x56 x53 = some r → f12_p24_P x6 x39 x40 x5 x14 x15 x38 x54 x55 x56 x53 r
 | 0, _, _, _, _, _, h => by cases h
 | k + 1, x54, x55, x56, x53, r, h => by
  unfold f12_p24 at h
  by_cases h66 : (decide (x56 < ((List.length x5 : Nat) : Int))) = true
  ·rw [if_pos h66] at h
   obtain ⟨h67, h⟩ := req_some h
   by_cases h68 : ((iAnd .i64 (iShr .i64 x40 x56) 1) == 0) = true
   ·rw [if_pos h68] at h
    exact Lp.again (gRun_ok cxOK (f12_p24_e0 x5 x6 x14 x15 x38 x39 x40 x53 x54 x55 x56) ⟨h66, h67, h68, trivial⟩) (f12_p24_ok F x6 x39 x40 x5 x14 x15 x38 k x54 x55 (w64 (x56 + 1)) x53 r h)
   ·rw [if_neg h68] at h
    have h68 := Bool.eq_false_iff.2 h68
    obtain ⟨h69, h⟩ := req_some h
    obtain ⟨x57, h70, h⟩ := bind_some h
    try dsimp only at h
    obtain ⟨rh76, h76, h⟩ := bind_some h
    have ch76 := f12_p29_1_ok F x6 x39 x40 x53 x56 x5 x57 x14 x15 x38 F x54 x55 0 _ h76
    obtain ⟨x64, x65⟩ := rh76
    try dsimp only at h
    exact Lp.again (gRun_ok cxOK (f12_p24_e1 x5 x6 x14 x15 x38 x39 x40 x53 x54 x55 x56 x57 x64 x65) ⟨h66, h67, h68, h69, rfl, ⟨(at?_spec h70).1, x57, (at?_spec h70).2, rfl⟩, ch76, trivial⟩) (f12_p24_ok F x6 x39 x40 x5 x14 x15 x38 k x64 x65 (w64 (x56 + 1)) (x53 ++ ([x56] : List Int)) r h)
  ·rw [if_neg h66] at h
   have h66 := Bool.eq_false_iff.2 h66
   obtain rfl := Option.some.inj h
   exact Lp.out (gRun_ok cxOK (f12_p24_e2 x5 x6 x14 x15 x38 x39 x40 x53 x54 x55 x56) ⟨h66, trivial⟩) (by intro hh; cases hh)
theorem f12_p34_ok (F : Nat) (x6 : LI) (x39 : Option (List Int)) (x40 : Int) (x68 : LI) (x66 : Int) (x67 : Bool) (x5 : LL) (x14 : LI) (x15 : LL) (x38 : Bool) : ∀ (k : Nat) (x69 x70 : Int) (r : Int), f12_p34 F x6 x39 x40 x68 x66 x67 x5 x14 x15 x38 k x69 x70 = some r → f12_p34_P x6 x39 x40 x68 x66 x67 x5 x14 x15 x38 x69 x70 r
 | 0, _, _, _, h => by cases h
 | k + 1, x69, x70, r, h => by
  unfold f12_p34 at h
  by_cases h78 : (decide (x70 < ((List.length x6 : Nat) : Int))) = true
  ·rw [if_pos h78] at h
   obtain ⟨h79, h⟩ := req_some h
   exact Lp.again (gRun_ok cxOK (f12_p34_e0 x5 x6 x14 x15 x38 x39 x40 x66 x67 x68 x69 x70) ⟨h78, h79, trivial⟩) (f12_p34_ok F x6 x39 x40 x68 x66 x67 x5 x14 x15 x38 k (w64 (x69 + (iAnd .i64 (iShr .i64 x66 x70) 1))) (w64 (x70 + 1)) r h)
  ·rw [if_neg h78] at h
   have h78 := Bool.eq_false_iff.2 h78
   obtain rfl := Option.some.inj h
   exact Lp.out (gRun_ok cxOK (f12_p34_e1 x5 x6 x14 x15 x38 x39 x40 x66 x67 x68 x69 x70) ⟨h78, trivial⟩) (by intro hh; cases hh)
theorem f12_p37_ok (F : Nat) (x6 : LI) (x39 : Option (List Int)) (x40 : Int) (x68 : LI) (x72 : Int) (x5 : LL) (x14 : LI) (x15 : LL) (x38 : Bool) (r : (Option (List Int))) (h : f12_p37 F x6 x39 x40 x68 x72 x5 x14 x15 x38 = some r) : f12_p37_P x6 x39 x40 x68 x72 x5 x14 x15 x38 r := by
 unfold f12_p37 at h
 by_cases h89 : (decide (x72 < 0)) = true
 ·rw [if_pos h89] at h
  obtain ⟨h90, h⟩ := req_some h
  obtain rfl := Option.some.inj h
  exact gRun_ok cxOK (f12_p37_e0 x5 x6 x14 x15 x38 x39 x40 x68 x72) ⟨h89, (Nat.le_of_eq (Nat.zero_add _)), h90, trivial⟩
 ·rw [if_neg h89] at h
  have h89 := Bool.eq_false_iff.2 h89
  obtain rfl := Option.some.inj h
  exact gRun_ok cxOK (f12_p37_e1 x5 x6 x14 x15 x38 x39 x40 x68 x72) ⟨h89, trivial⟩
theorem f12_p20_ok (F : Nat) (x6 : LI) (x5 : LL) (x14 : LI) (x15 : LL) (x38 : Bool) : ∀ (k : Nat) (x39 : Option (List Int)) (x40 : Int) (r : (Option (List Int))), f12_p20 F x6 x5 x14 x15 x38 k x39 x40 = some r → f12_p20_P x6 x5 x14 x15 x38 x39 x40 r
 | 0, _, _, _, h => by cases h
 | k + 1, x39, x40, r, h => by
  unfold f12_p20 at h
  obtain ⟨h53, h⟩ := req_some h
  by_cases h54 : (decide (x40 < (iShl .i64 1 ((List.length x5 : Nat) : Int)))) = true
  ·rw [if_pos h54] at h
   obtain ⟨rh77, h77, h⟩ := bind_some h
   have ch77 := f12_p24_ok F x6 x39 x40 x5 x14 x15 x38 F 0 false 0 ([] : List Int) _ h77
   obtain ⟨x66, x67, x68⟩ := rh77
   try dsimp only at h
   obtain ⟨x71, h80, h⟩ := bind_some h
   have ch80 := f12_p34_ok F x6 x39 x40 x68 x66 x67 x5 x14 x15 x38 F 0 0 _ h80
   try dsimp only at h
   by_cases h81 : x67 = true
   ·rw [if_pos h81] at h
    exact Lp.again (gRun_ok cxOK (f12_p20_e0 x5 x6 x14 x15 x38 x39 x40 x66 x67 x68 x71) ⟨h53, h54, ch77, ch80, (by rw [h81]; rfl), (by rw [h81]; rfl), (by rw [h81]; rfl), (by rw [h81]; rfl), (by rw [h81]; rfl), rfl, rfl, rfl, rfl, rfl, rfl, rfl, rfl, trivial⟩) (f12_p20_ok F x6 x5 x14 x15 x38 k x39 (w64 (x40 + 1)) r h)
   ·rw [if_neg h81] at h
    have h81 := Bool.eq_false_iff.2 h81
    by_cases h82 : (decide (x71 < (((List.length x68) : Nat) : Int))) = true
    ·rw [if_pos h82] at h
     by_cases h83 : (Option.isNone x39) = true
     ·rw [if_pos h83] at h
      obtain ⟨h84, h⟩ := req_some h
      exact Lp.again (gRun_ok cxOK (f12_p20_e1 x5 x6 x14 x15 x38 x39 x40 x66 x67 x68 x71) ⟨h53, h54, ch77, ch80, (by rw [h81]; rfl), (by rw [h81]; rfl), (by rw [h81]; rfl), (by rw [h81]; rfl), (by rw [h81]; rfl), h82, h82, h82, h83, h83, h83, h83, h83, h82, h83, h82, rfl, rfl, rfl, rfl, rfl, rfl, rfl, h82, rfl, h82, rfl, (Nat.le_of_eq (Nat.zero_add _)), h84, trivial⟩) (f12_p20_ok F x6 x5 x14 x15 x38 k (some (List.drop 0 (List.take (0 + (List.length x68)) x68))) (w64 (x40 + 1)) r h)
     ·rw [if_neg h83] at h
      have h83 := Bool.eq_false_iff.2 h83
      by_cases h85 : (decide ((((List.length x68) : Nat) : Int) < ((List.length ((x39).getD []) : Nat) : Int))) = true
      ·rw [if_pos h85] at h
       obtain ⟨h86, h⟩ := req_some h
       exact Lp.again (gRun_ok cxOK (f12_p20_e2 x5 x6 x14 x15 x38 x39 x40 x66 x67 x68 x71) ⟨h53, h54, ch77, ch80, (by rw [h81]; rfl), (by rw [h81]; rfl), (by rw [h81]; rfl), (by rw [h81]; rfl), (by rw [h81]; rfl), h82, h82, h82, h83, h83, h83, h83, h83, h82, h83, h82, h85, h85, h85, h85, h85, h85, h85, h82, h85, h82, rfl, (Nat.le_of_eq (Nat.zero_add _)), h86, trivial⟩) (f12_p20_ok F x6 x5 x14 x15 x38 k (some (List.drop 0 (List.take (0 + (List.length x68)) x68))) (w64 (x40 + 1)) r h)
      ·rw [if_neg h85] at h
       have h85 := Bool.eq_false_iff.2 h85
       by_cases h87 : ((((List.length x68) : Nat) : Int) == ((List.length ((x39).getD []) : Nat) : Int)) = true
       ·rw [if_pos h87] at h
        obtain ⟨x72, h88, h⟩ := bind_some h
        have ch88 := f56_ok F (List.drop 0 (List.take (0 + (List.length x68)) x68)) x39 _ h88
        try dsimp only at h
        obtain ⟨x73, h91, h⟩ := bind_some h
        have ch91 := f12_p37_ok F x6 x39 x40 x68 x72 x5 x14 x15 x38 _ h91
        try dsimp only at h
        exact Lp.again (gRun_ok cxOK (f12_p20_e3 x5 x6 x14 x15 x38 x39 x40 x66 x67 x68 x71 x72 x73) ⟨h53, h54, ch77, ch80, (by rw [h81]; rfl), (by rw [h81]; rfl), (by rw [h81]; rfl), (by rw [h81]; rfl), (by rw [h81]; rfl), h82, h82, h82, h83, h83, h83, h83, h83, h82, h83, h82, h85, h85, h85, h85, h85, h85, h87, h87, h87, ch88, (Nat.le_of_eq (Nat.zero_add _)), h87, h85, h87, h82, h85, h82, ch91, trivial⟩) (f12_p20_ok F x6 x5 x14 x15 x38 k x73 (w64 (x40 + 1)) r h)
       ·rw [if_neg h87] at h
        have h87 := Bool.eq_false_iff.2 h87
        exact Lp.again (gRun_ok cxOK (f12_p20_e4 x5 x6 x14 x15 x38 x39 x40 x66 x67 x68 x71) ⟨h53, h54, ch77, ch80, (by rw [h81]; rfl), (by rw [h81]; rfl), (by rw [h81]; rfl), (by rw [h81]; rfl), (by rw [h81]; rfl), h82, h82, h82, h83, h83, h83, h83, h83, h82, h83, h82, h85, h85, h85, h85, h85, h85, h87, h87, h87, h87, h85, h87, h82, h85, h82, rfl, trivial⟩) (f12_p20_ok F x6 x5 x14 x15 x38 k x39 (w64 (x40 + 1)) r h)
    ·rw [if_neg h82] at h
     have h82 := Bool.eq_false_iff.2 h82
     exact Lp.again (gRun_ok cxOK (f12_p20_e5 x5 x6 x14 x15 x38 x39 x40 x66 x67 x68 x71) ⟨h53, h54, ch77, ch80, (by rw [h81]; rfl), (by rw [h81]; rfl), (by rw [h81]; rfl), (by rw [h81]; rfl), (by rw [h81]; rfl), h82, h82, h82, h82, h82, h82, h82, rfl, trivial⟩) (f12_p20_ok F x6 x5 x14 x15 x38 k x39 (w64 (x40 + 1)) r h)
  ·rw [if_neg h54] at h
   have h54 := Bool.eq_false_iff.2 h54
   obtain rfl := Option.some.inj h
   exact Lp.out (gRun_ok cxOK (f12_p20_e6 x5 x6 x14 x15 x38 x39 x40) ⟨h53, h54, trivial⟩) (by intro hh; cases hh)
theorem f12_ok (F : Nat) (x1 x2 : Int) (x3 x4 : LI) (r : Bool) (h : f12 F x1 x2 x3 x4 = some r) : f12_C x1 x2 x3 x4 r := by
 unfold f12 at h
 obtain ⟨x5, h1, h⟩ := bind_some h
 have ch1 := f43_ok F x1 x2 x3 4 4 5 _ h1
 try dsimp only at h
 obtain ⟨x6, h2, h⟩ := bind_some h
 try dsimp only at h
 obtain ⟨x14, h15, h⟩ := bind_some h
 have ch15 := f12_p1_ok F x6 x4 x5 F 0 ([] : List Int) _ h15
 try dsimp only at h
 obtain ⟨rh16, h16, h⟩ := bind_some h
 have ch16 := f32_ok F x5 (List.drop 0 (List.take (0 + (List.length x14)) x14)) _ h16
 obtain ⟨x15, x16⟩ := rh16
 try dsimp only at h
 by_cases h17 : (x16 != 0) = true
 ·rw [if_pos h17] at h
  cases h
 ·rw [if_neg h17] at h
  have h17 := Bool.eq_false_iff.2 h17
  by_cases h18 : (((List.length x15 : Nat) : Int) != ((List.length x5 : Nat) : Int)) = true
  ·rw [if_pos h18] at h
   cases h
  ·rw [if_neg h18] at h
   have h18 := Bool.eq_false_iff.2 h18
   obtain ⟨rh51, h51, h⟩ := bind_some h
   have ch51 := f12_p6_ok F x6 x5 x14 x15 F 0 _ h51
   cases rh51 with
   | c0 =>
    try dsimp only at h
    cases h
   | c1 =>
    try dsimp only at h
    obtain ⟨x38, h52, h⟩ := bind_some h
    have ch52 := f54_3_ok F ((List.length x5 : Nat) : Int) ((List.length x6 : Nat) : Int) x15 false _ h52
    try dsimp only at h
    obtain ⟨x74, h92, h⟩ := bind_some h
    have ch92 := f12_p20_ok F x6 x5 x14 x15 x38 F (none : Option (List Int)) 1 _ h92
    try dsimp only at h
    obtain ⟨rh93, h93, h⟩ := bind_some h
    have ch93 := f34_ok F x5 (List.drop 0 (List.take (0 + (List.length x14)) x14)) _ h93
    obtain ⟨x75, x76⟩ := rh93
    try dsimp only at h
    by_cases h94 : (x38 == (Option.isNone x74)) = true
    ·rw [if_pos h94] at h
     by_cases h95 : x38 = true
     ·rw [if_pos h95] at h
      by_cases h96 : (x76 == 13) = true
      ·rw [if_pos h96] at h
       by_cases h97 : (((List.length x75 : Nat) : Int) == 0) = true
       ·rw [if_pos h97] at h
        obtain ⟨x77, h98, h⟩ := bind_some h
        have ch98 := f16_ok F _ h98
        try dsimp only at h
        obtain rfl := Option.some.inj h
        exact callOK cxOK cxW Try.func12 (by kernel_rfl) (f12_e0 x1 x2 x3 x4 x5 x6 x14 x15 x16 x38 x74 x75 x76 x77) ⟨ch1, ⟨(at?_spec h2).1, x6, (at?_spec h2).2, rfl⟩, ch15, (Nat.le_of_eq (Nat.zero_add _)), ch16, h17, h17, h17, h17, h17, h17, h18, ch51, ch52, ch92, ch93, (by rw [h94]; rfl), h95, h96, h96, h96, h96, h97, ch98, h97, trivial⟩
       ·rw [if_neg h97] at h
        have h97 := Bool.eq_false_iff.2 h97
        cases h
      ·rw [if_neg h96] at h
       have h96 := Bool.eq_false_iff.2 h96
       cases h
     ·rw [if_neg h95] at h
      have h95 := Bool.eq_false_iff.2 h95
      obtain ⟨x78, h99, h⟩ := bind_some h
      have ch99 := f54_4_ok F ((List.length x5 : Nat) : Int) ((List.length x6 : Nat) : Int) x5 (List.drop 0 (List.take (0 + (List.length x14)) x14)) true _ h99
      try dsimp only at h
      by_cases h100 : x78 = true
      ·rw [if_pos h100] at h
       by_cases h101 : (x76 == 0) = true
       ·rw [if_pos h101] at h
        obtain ⟨x79, h102, h⟩ := bind_some h
        have ch102 := f23_1_ok F x75 x74 _ h102
        try dsimp only at h
        by_cases h103 : x79 = true
        ·rw [if_pos h103] at h
         obtain ⟨x80, h104, h⟩ := bind_some h
         have ch104 := f16_ok F _ h104
         try dsimp only at h
         obtain rfl := Option.some.inj h
         exact callOK cxOK cxW Try.func12 (by kernel_rfl) (f12_e1 x1 x2 x3 x4 x5 x6 x14 x15 x16 x38 x74 x75 x76 x78 x79 x80) ⟨ch1, ⟨(at?_spec h2).1, x6, (at?_spec h2).2, rfl⟩, ch15, (Nat.le_of_eq (Nat.zero_add _)), ch16, h17, h17, h17, h17, h17, h17, h18, ch51, ch52, ch92, ch93, (by rw [h94]; rfl), h95, ch99, h100, h100, h100, h101, h101, h101, ch102, h101, h103, ch104, h103, trivial⟩
        ·rw [if_neg h103] at h
         have h103 := Bool.eq_false_iff.2 h103
         cases h
       ·rw [if_neg h101] at h
        have h101 := Bool.eq_false_iff.2 h101
        cases h
      ·rw [if_neg h100] at h
       have h100 := Bool.eq_false_iff.2 h100
       cases h
    ·rw [if_neg h94] at h
     have h94 := Bool.eq_false_iff.2 h94
     cases h

end Go.Gh.Sale
