/- Sale8F1: printed by wip/tool/gx.py -/
import Derived.Test.YtdbaljbhnpchjaaSale8F0
namespace Go.Gh.Sale
set_option linter.unusedVariables false
set_option linter.unusedSimpArgs false
open Go.Proofs

theorem f8_p5_1_ok (F : Nat) (x4 x5 : Int) (x6 : LL) (x7 : LI) (x17 : Int) (x18 : LI) (x16 : LL) : ∀ (k : Nat) (x22 : Int) (x21 : LI) (r : (List Int)), f8_p5_1 F x4 x5 x6 x7 x17 x18 x16 k x22 x21 = some r → f8_p5_1_P x4 x5 x6 x7 x17 x18 x16 x22 x21 r
 | 0, _, _, _, h => by cases h
 | k + 1, x22, x21, r, h => by
  unfold f8_p5_1 at h
  by_cases h32 : (decide (x22 < ((List.length x18 : Nat) : Int))) = true
  ·rw [if_pos h32] at h
   obtain ⟨x23, h33, h⟩ := bind_some h
   try dsimp only at h
   obtain ⟨h34, h⟩ := req_some h
   obtain ⟨h35, h⟩ := req_some h
   obtain ⟨h36, h⟩ := req_some h
   exact Lp.again (gRun_ok cxOK (f8_p5_1_e0 x4 x5 x6 x7 x16 x17 x18 x21 x22 x23) ⟨h32, ⟨(at?_spec h33).1, x23, (at?_spec h33).2, rfl⟩, h34, h35, h36, trivial⟩) (f8_p5_1_ok F x4 x5 x6 x7 x17 x18 x16 k (w64 (x22 + 1)) (List.set x21 (0 + (Int.toNat (Int.tmod (w64 (x22 + (w64 (x5)))) ((List.length x7 : Nat) : Int)))) x23) r h)
  ·rw [if_neg h32] at h
   have h32 := eF h32
   obtain rfl := sI h
   exact Lp.out (gRun_ok cxOK (f8_p5_1_e1 x4 x5 x6 x7 x16 x17 x18 x21 x22) ⟨h32, trivial⟩) (by intro hh; cases hh)
theorem f8_p1_ok (F : Nat) (x4 x5 : Int) (x6 : LL) (x7 : LI) : ∀ (k : Nat) (x17 : Int) (x16 : LL) (r : (List (List Int))), f8_p1 F x4 x5 x6 x7 k x17 x16 = some r → f8_p1_P x4 x5 x6 x7 x17 x16 r
 | 0, _, _, _, h => by cases h
 | k + 1, x17, x16, r, h => by
  unfold f8_p1 at h
  by_cases h24 : (decide (x17 < ((List.length x6 : Nat) : Int))) = true
  ·rw [if_pos h24] at h
   obtain ⟨h25, h⟩ := req_some h
   obtain ⟨x18, h26, h⟩ := bind_some h
   try dsimp only at h
   obtain ⟨x24, h37, h⟩ := bind_some h
   have ch37 := f8_p5_1_ok F x4 x5 x6 x7 x17 x18 x16 F 0 (List.replicate (Int.toNat ((List.length x7 : Nat) : Int)) (0 : Int)) _ h37
   try dsimp only at h
   obtain ⟨h40, h⟩ := req_some h
   obtain ⟨h41, h⟩ := req_some h
   obtain ⟨h42, h⟩ := req_some h
   obtain ⟨h43, h⟩ := req_some h
   exact Lp.again (gRun_ok cxOK (f8_p1_e0 x4 x5 x6 x7 x16 x17 x18 x24) ⟨h24, h25, ⟨(at?_spec h26).1, x18, (at?_spec h26).2, rfl⟩, ch37, h40, h41, h42, h43, trivial⟩) (f8_p1_ok F x4 x5 x6 x7 k (w64 (x17 + 1)) (List.set x16 (0 + (Int.toNat (Int.tmod (w64 (x17 + (w64 (x4)))) ((List.length x6 : Nat) : Int)))) (List.drop 0 (List.take (0 + (Int.toNat ((List.length x7 : Nat) : Int))) x24))) r h)
  ·rw [if_neg h24] at h
   have h24 := eF h24
   obtain rfl := sI h
   exact Lp.out (gRun_ok cxOK (f8_p1_e1 x4 x5 x6 x7 x16 x17) ⟨h24, trivial⟩) (by intro hh; cases hh)
theorem f8_p14_ok (F : Nat) (x4 x5 : Int) (x6 : LL) (x7 : LI) (x25 : LL) (x26 : Int) (x32 : LI) (x38 x39 : Int) (x30 : LI) (r : Int) (h : f8_p14 F x4 x5 x6 x7 x25 x26 x32 x38 x39 x30 = some r) : f8_p14_P x4 x5 x6 x7 x25 x26 x32 x38 x39 x30 r := by
 unfold f8_p14 at h
 by_cases h65 : (decide (x39 < ((List.length x7 : Nat) : Int))) = true
 ·rw [if_pos h65] at h
  obtain ⟨h66, h⟩ := req_some h
  obtain rfl := sI h
  exact gRun_ok cxOK (f8_p14_e0 x4 x5 x6 x7 x25 x26 x30 x32 x38 x39) ⟨h65, h66, trivial⟩
 ·rw [if_neg h65] at h
  have h65 := eF h65
  obtain rfl := sI h
  exact gRun_ok cxOK (f8_p14_e1 x4 x5 x6 x7 x25 x26 x30 x32 x38 x39) ⟨h65, trivial⟩
theorem f8_p11_ok (F : Nat) (x4 x5 : Int) (x6 : LL) (x7 : LI) (x25 : LL) (x26 : Int) (x32 x30 : LI) : ∀ (k : Nat) (x38 : Int) (r : f8_p11_R), f8_p11 F x4 x5 x6 x7 x25 x26 x32 x30 k x38 = some r → f8_p11_P x4 x5 x6 x7 x25 x26 x32 x30 x38 r
 | 0, _, _, h => by cases h
 | k + 1, x38, r, h => by
  unfold f8_p11 at h
  by_cases h62 : (decide (x38 < ((List.length x30 : Nat) : Int))) = true
  ·rw [if_pos h62] at h
   obtain ⟨x39, h63, h⟩ := bind_some h
   try dsimp only at h
   by_cases h64 : (decide (x39 ≥ 0)) = true
   ·rw [if_pos h64] at h
    obtain ⟨x40, h67, h⟩ := bind_some h
    have ch67 := f8_p14_ok F x4 x5 x6 x7 x25 x26 x32 x38 x39 x30 _ h67
    try dsimp only at h
    by_cases h68 : (x26 == 1) = true
    ·rw [if_pos h68] at h
     obtain ⟨h69, h⟩ := req_some h
     obtain ⟨x41, h70, h⟩ := bind_some h
     try dsimp only at h
     by_cases h71 : (x41 != x40) = true
     ·rw [if_pos h71] at h
      obtain rfl := sI h
      exact Lp.out (gRun_ok cxOK (f8_p11_e0 x4 x5 x6 x7 x25 x26 x30 x32 x38 x39 x40 x41) ⟨h62, ⟨(at?_spec h63).1, x39, (at?_spec h63).2, rfl⟩, h64, h64, h64, h64, ch67, h68, h68, h68, h68, h68, h68, h68, h69, h68, ⟨(at?_spec h70).1, x41, (at?_spec h70).2, rfl⟩, h68, h68, h68, h68, h71, trivial⟩) (by intro hh; cases hh)
     ·rw [if_neg h71] at h
      have h71 := eF h71
      exact Lp.again (gRun_ok cxOK (f8_p11_e1 x4 x5 x6 x7 x25 x26 x30 x32 x38 x39 x40 x41) ⟨h62, ⟨(at?_spec h63).1, x39, (at?_spec h63).2, rfl⟩, h64, h64, h64, h64, ch67, h68, h68, h68, h68, h68, h68, h68, h69, h68, ⟨(at?_spec h70).1, x41, (at?_spec h70).2, rfl⟩, h68, h68, h68, h68, h71, trivial⟩) (f8_p11_ok F x4 x5 x6 x7 x25 x26 x32 x30 k (w64 (x38 + 1)) r h)
    ·rw [if_neg h68] at h
     have h68 := eF h68
     exact Lp.again (gRun_ok cxOK (f8_p11_e2 x4 x5 x6 x7 x25 x26 x30 x32 x38 x39 x40) ⟨h62, ⟨(at?_spec h63).1, x39, (at?_spec h63).2, rfl⟩, h64, h64, h64, h64, ch67, h68, h68, h68, h68, h68, h68, h68, h68, h68, h68, h68, h68, rfl, trivial⟩) (f8_p11_ok F x4 x5 x6 x7 x25 x26 x32 x30 k (w64 (x38 + 1)) r h)
   ·rw [if_neg h64] at h
    have h64 := eF h64
    by_cases h72 : (x26 == 1) = true
    ·rw [if_pos h72] at h
     obtain ⟨h73, h⟩ := req_some h
     obtain ⟨x42, h74, h⟩ := bind_some h
     try dsimp only at h
     by_cases h75 : (x42 != (-1)) = true
     ·rw [if_pos h75] at h
      obtain rfl := sI h
      exact Lp.out (gRun_ok cxOK (f8_p11_e3 x4 x5 x6 x7 x25 x26 x30 x32 x38 x39 x42) ⟨h62, ⟨(at?_spec h63).1, x39, (at?_spec h63).2, rfl⟩, h64, h64, h64, h64, rfl, h72, h72, h72, h72, h72, h72, h72, h73, h72, ⟨(at?_spec h74).1, x42, (at?_spec h74).2, rfl⟩, h72, h72, h72, h72, h75, trivial⟩) (by intro hh; cases hh)
     ·rw [if_neg h75] at h
      have h75 := eF h75
      exact Lp.again (gRun_ok cxOK (f8_p11_e4 x4 x5 x6 x7 x25 x26 x30 x32 x38 x39 x42) ⟨h62, ⟨(at?_spec h63).1, x39, (at?_spec h63).2, rfl⟩, h64, h64, h64, h64, rfl, h72, h72, h72, h72, h72, h72, h72, h73, h72, ⟨(at?_spec h74).1, x42, (at?_spec h74).2, rfl⟩, h72, h72, h72, h72, h75, trivial⟩) (f8_p11_ok F x4 x5 x6 x7 x25 x26 x32 x30 k (w64 (x38 + 1)) r h)
    ·rw [if_neg h72] at h
     have h72 := eF h72
     exact Lp.again (gRun_ok cxOK (f8_p11_e5 x4 x5 x6 x7 x25 x26 x30 x32 x38 x39) ⟨h62, ⟨(at?_spec h63).1, x39, (at?_spec h63).2, rfl⟩, h64, h64, h64, h64, rfl, h72, h72, h72, h72, h72, h72, h72, h72, h72, h72, h72, h72, rfl, trivial⟩) (f8_p11_ok F x4 x5 x6 x7 x25 x26 x32 x30 k (w64 (x38 + 1)) r h)
  ·rw [if_neg h62] at h
   have h62 := eF h62
   obtain rfl := sI h
   exact Lp.out (gRun_ok cxOK (f8_p11_e6 x4 x5 x6 x7 x25 x26 x30 x32 x38) ⟨h62, trivial⟩) (by intro hh; cases hh)
theorem f8_p22_ok (F : Nat) (x5 : Int) (x6 : LL) (x7 : LI) (x25 : LL) (x43 x45 : LI) : ∀ (k : Nat) (x47 : Int) (r : f8_p22_R), f8_p22 F x5 x6 x7 x25 x43 x45 k x47 = some r → f8_p22_P x5 x6 x7 x25 x43 x45 x47 r
 | 0, _, _, h => by cases h
 | k + 1, x47, r, h => by
  unfold f8_p22 at h
  by_cases h83 : (decide (x47 < ((List.length x7 : Nat) : Int))) = true
  ·rw [if_pos h83] at h
   obtain ⟨x48, h84, h⟩ := bind_some h
   try dsimp only at h
   obtain ⟨h85, h⟩ := req_some h
   obtain ⟨x49, h86, h⟩ := bind_some h
   try dsimp only at h
   by_cases h87 : (x48 != x49) = true
   ·rw [if_pos h87] at h
    obtain rfl := sI h
    exact Lp.out (gRun_ok cxOK (f8_p22_e0 x5 x6 x7 x25 x43 x45 x47 x48 x49) ⟨h83, ⟨(at?_spec h84).1, x48, (at?_spec h84).2, rfl⟩, h85, ⟨(at?_spec h86).1, x49, (at?_spec h86).2, rfl⟩, h87, trivial⟩) (by intro hh; cases hh)
   ·rw [if_neg h87] at h
    have h87 := eF h87
    exact Lp.again (gRun_ok cxOK (f8_p22_e1 x5 x6 x7 x25 x43 x45 x47 x48 x49) ⟨h83, ⟨(at?_spec h84).1, x48, (at?_spec h84).2, rfl⟩, h85, ⟨(at?_spec h86).1, x49, (at?_spec h86).2, rfl⟩, h87, trivial⟩) (f8_p22_ok F x5 x6 x7 x25 x43 x45 k (w64 (x47 + 1)) r h)
  ·rw [if_neg h83] at h
   have h83 := eF h83
   obtain rfl := sI h
   exact Lp.out (gRun_ok cxOK (f8_p22_e2 x5 x6 x7 x25 x43 x45 x47) ⟨h83, trivial⟩) (by intro hh; cases hh)
theorem f8_p22_1_ok (F : Nat) (x5 : Int) (x6 : LL) (x7 : LI) (x25 : LL) (x50 x52 : LI) : ∀ (k : Nat) (x54 : Int) (r : f8_p22_1_R), f8_p22_1 F x5 x6 x7 x25 x50 x52 k x54 = some r → f8_p22_1_P x5 x6 x7 x25 x50 x52 x54 r
 | 0, _, _, h => by cases h
 | k + 1, x54, r, h => by
  unfold f8_p22_1 at h
  by_cases h95 : (decide (x54 < ((List.length x7 : Nat) : Int))) = true
  ·rw [if_pos h95] at h
   obtain ⟨x55, h96, h⟩ := bind_some h
   try dsimp only at h
   obtain ⟨h97, h⟩ := req_some h
   obtain ⟨x56, h98, h⟩ := bind_some h
   try dsimp only at h
   by_cases h99 : (x55 != x56) = true
   ·rw [if_pos h99] at h
    obtain rfl := sI h
    exact Lp.out (gRun_ok cxOK (f8_p22_1_e0 x5 x6 x7 x25 x50 x52 x54 x55 x56) ⟨h95, ⟨(at?_spec h96).1, x55, (at?_spec h96).2, rfl⟩, h97, ⟨(at?_spec h98).1, x56, (at?_spec h98).2, rfl⟩, h99, trivial⟩) (by intro hh; cases hh)
   ·rw [if_neg h99] at h
    have h99 := eF h99
    exact Lp.again (gRun_ok cxOK (f8_p22_1_e1 x5 x6 x7 x25 x50 x52 x54 x55 x56) ⟨h95, ⟨(at?_spec h96).1, x55, (at?_spec h96).2, rfl⟩, h97, ⟨(at?_spec h98).1, x56, (at?_spec h98).2, rfl⟩, h99, trivial⟩) (f8_p22_1_ok F x5 x6 x7 x25 x50 x52 k (w64 (x54 + 1)) r h)
  ·rw [if_neg h95] at h
   have h95 := eF h95
   obtain rfl := sI h
   exact Lp.out (gRun_ok cxOK (f8_p22_1_e2 x5 x6 x7 x25 x50 x52 x54) ⟨h95, trivial⟩) (by intro hh; cases hh)
theorem f8_ok (F : Nat) (x1 x2 : Int) (x3 : LI) (x4 x5 : Int) (r : Bool) (h : f8 F x1 x2 x3 x4 x5 = some r) : f8_C x1 x2 x3 x4 x5 r := by
 unfold f8 at h
 obtain ⟨x6, h1, h⟩ := bind_some h
 have ch1 := f43_ok F x1 x2 x3 4 4 20 _ h1
 try dsimp only at h
 obtain ⟨x7, h2, h⟩ := bind_some h
 try dsimp only at h
 obtain ⟨h3, h⟩ := req_some h
 obtain ⟨x25, h44, h⟩ := bind_some h
 have ch44 := f8_p1_ok F x4 x5 x6 x7 F 0 (List.replicate (Int.toNat ((List.length x6 : Nat) : Int)) ([] : (List Int))) _ h44
 try dsimp only at h
 obtain ⟨rh45, h45, h⟩ := bind_some h
 have ch45 := f19_ok F x6 _ h45
 obtain ⟨x26, x27⟩ := rh45
 try dsimp only at h
 obtain ⟨rh46, h46, h⟩ := bind_some h
 have ch46 := f19_ok F (List.drop 0 (List.take (0 + (Int.toNat ((List.length x6 : Nat) : Int))) x25)) _ h46
 obtain ⟨x28, x29⟩ := rh46
 try dsimp only at h
 obtain ⟨h47, h⟩ := req_some h
 obtain ⟨rh48, h48, h⟩ := bind_some h
 have ch48 := f17_ok F x6 _ h48
 obtain ⟨x30, x31⟩ := rh48
 try dsimp only at h
 obtain ⟨rh49, h49, h⟩ := bind_some h
 have ch49 := f17_ok F (List.drop 0 (List.take (0 + (Int.toNat ((List.length x6 : Nat) : Int))) x25)) _ h49
 obtain ⟨x32, x33⟩ := rh49
 try dsimp only at h
 by_cases h50 : (x27 != 0) = true
 ·rw [if_pos h50] at h
  cases h
 ·rw [if_neg h50] at h
  have h50 := eF h50
  by_cases h51 : (x29 != 0) = true
  ·rw [if_pos h51] at h
   cases h
  ·rw [if_neg h51] at h
   have h51 := eF h51
   by_cases h52 : (x31 != 0) = true
   ·rw [if_pos h52] at h
    cases h
   ·rw [if_neg h52] at h
    have h52 := eF h52
    by_cases h53 : (x33 != 0) = true
    ·rw [if_pos h53] at h
     cases h
    ·rw [if_neg h53] at h
     have h53 := eF h53
     by_cases h54 : (x26 != x28) = true
     ·rw [if_pos h54] at h
      cases h
     ·rw [if_neg h54] at h
      have h54 := eF h54
      by_cases h55 : (((List.length x30 : Nat) : Int) != ((List.length x6 : Nat) : Int)) = true
      ·rw [if_pos h55] at h
       cases h
      ·rw [if_neg h55] at h
       have h55 := eF h55
       by_cases h56 : (((List.length x32 : Nat) : Int) != ((List.length x6 : Nat) : Int)) = true
       ·rw [if_pos h56] at h
        cases h
       ·rw [if_neg h56] at h
        have h56 := eF h56
        obtain ⟨rh57, h57, h⟩ := bind_some h
        have ch57 := f21_ok F x6 x30 _ h57
        obtain ⟨x34, x35⟩ := rh57
        try dsimp only at h
        obtain ⟨rh58, h58, h⟩ := bind_some h
        have ch58 := f21_ok F (List.drop 0 (List.take (0 + (Int.toNat ((List.length x6 : Nat) : Int))) x25)) x32 _ h58
        obtain ⟨x36, x37⟩ := rh58
        try dsimp only at h
        by_cases h59 : (x35 != 0) = true
        ·rw [if_pos h59] at h
         cases h
        ·rw [if_neg h59] at h
         have h59 := eF h59
         by_cases h60 : (x37 != 0) = true
         ·rw [if_pos h60] at h
          cases h
         ·rw [if_neg h60] at h
          have h60 := eF h60
          by_cases h61 : (x34 != x36) = true
          ·rw [if_pos h61] at h
           cases h
          ·rw [if_neg h61] at h
           have h61 := eF h61
           obtain ⟨rh76, h76, h⟩ := bind_some h
           have ch76 := f8_p11_ok F x4 x5 x6 x7 x25 x26 x32 x30 F 0 _ h76
           cases rh76 with
           | c0 =>
            try dsimp only at h
            cases h
           | c1 =>
            try dsimp only at h
            obtain ⟨rh77, h77, h⟩ := bind_some h
            have ch77 := f39_ok F x6 _ h77
            obtain ⟨x43, x44⟩ := rh77
            try dsimp only at h
            obtain ⟨rh78, h78, h⟩ := bind_some h
            have ch78 := f39_ok F (List.drop 0 (List.take (0 + (Int.toNat ((List.length x6 : Nat) : Int))) x25)) _ h78
            obtain ⟨x45, x46⟩ := rh78
            try dsimp only at h
            by_cases h79 : (x44 != 0) = true
            ·rw [if_pos h79] at h
             cases h
            ·rw [if_neg h79] at h
             have h79 := eF h79
             by_cases h80 : (x46 != 0) = true
             ·rw [if_pos h80] at h
              cases h
             ·rw [if_neg h80] at h
              have h80 := eF h80
              by_cases h81 : (((List.length x43 : Nat) : Int) != ((List.length x7 : Nat) : Int)) = true
              ·rw [if_pos h81] at h
               cases h
              ·rw [if_neg h81] at h
               have h81 := eF h81
               by_cases h82 : (((List.length x45 : Nat) : Int) != ((List.length x7 : Nat) : Int)) = true
               ·rw [if_pos h82] at h
                cases h
               ·rw [if_neg h82] at h
                have h82 := eF h82
                obtain ⟨rh88, h88, h⟩ := bind_some h
                have ch88 := f8_p22_ok F x5 x6 x7 x25 x43 x45 F 0 _ h88
                cases rh88 with
                | c0 =>
                 try dsimp only at h
                 cases h
                | c1 =>
                 try dsimp only at h
                 obtain ⟨rh89, h89, h⟩ := bind_some h
                 have ch89 := f41_ok F x6 _ h89
                 obtain ⟨x50, x51⟩ := rh89
                 try dsimp only at h
                 obtain ⟨rh90, h90, h⟩ := bind_some h
                 have ch90 := f41_ok F (List.drop 0 (List.take (0 + (Int.toNat ((List.length x6 : Nat) : Int))) x25)) _ h90
                 obtain ⟨x52, x53⟩ := rh90
                 try dsimp only at h
                 by_cases h91 : (x51 != 0) = true
                 ·rw [if_pos h91] at h
                  cases h
                 ·rw [if_neg h91] at h
                  have h91 := eF h91
                  by_cases h92 : (x53 != 0) = true
                  ·rw [if_pos h92] at h
                   cases h
                  ·rw [if_neg h92] at h
                   have h92 := eF h92
                   by_cases h93 : (((List.length x50 : Nat) : Int) != ((List.length x7 : Nat) : Int)) = true
                   ·rw [if_pos h93] at h
                    cases h
                   ·rw [if_neg h93] at h
                    have h93 := eF h93
                    by_cases h94 : (((List.length x52 : Nat) : Int) != ((List.length x7 : Nat) : Int)) = true
                    ·rw [if_pos h94] at h
                     cases h
                    ·rw [if_neg h94] at h
                     have h94 := eF h94
                     obtain ⟨rh100, h100, h⟩ := bind_some h
                     have ch100 := f8_p22_1_ok F x5 x6 x7 x25 x50 x52 F 0 _ h100
                     cases rh100 with
                     | c0 =>
                      try dsimp only at h
                      cases h
                     | c1 =>
                      try dsimp only at h
                      obtain ⟨x57, h101, h⟩ := bind_some h
                      have ch101 := f16_ok F _ h101
                      try dsimp only at h
                      obtain rfl := sI h
                      exact callOK cxOK cxW Try.func8 (by kernel_rfl) (f8_e0 x1 x2 x3 x4 x5 x6 x7 x25 x26 x27 x28 x29 x30 x31 x32 x33 x34 x35 x36 x37 x43 x44 x45 x46 x50 x51 x52 x53 x57) ⟨ch1, ⟨(at?_spec h2).1, x7, (at?_spec h2).2, rfl⟩, h3, ch44, ch45, ch46, h47, ch48, h47, ch49, h50, h50, h50, h51, h51, h51, h52, h52, h52, h53, h53, h53, h53, h54, h54, h54, h54, h54, h55, h55, h55, h55, h55, h56, ch57, ch58, h59, h59, h59, h60, h60, h60, h60, h61, ch76, rfl, (by decide), ch77, ch78, h79, h79, h79, h80, h80, h80, h80, h80, h81, h81, h81, h81, h81, h82, ch88, rfl, (by decide), ch89, ch90, h91, h91, h91, h92, h92, h92, h92, h92, h93, h93, h93, h93, h93, h94, ch100, rfl, ch101, trivial⟩

end Go.Gh.Sale
