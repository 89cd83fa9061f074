/- Top8F1: printed by wip/tool/gx.py -/
import Derived.Test.YtcaphjiiaclndaaDoorTop8F0
namespace Go.Gh.Top
set_option linter.unusedVariables false
set_option linter.unusedSimpArgs false
open Go.Proofs

theorem f8_p8_1_ok (F : Nat) (x1 : Int) (x5 x7 : LI) (x17 x18 : Int) : ∀ (k : Nat) (x20 : Int) (x19 : LI) (r : (List Int)), f8_p8_1 F x1 x5 x7 x17 x18 k x20 x19 = some r → f8_p8_1_P x1 x5 x7 x17 x18 x20 x19 r
 | 0, _, _, _, h => by cases h
 | k + 1, x20, x19, r, h => by
  unfold f8_p8_1 at h
  by_cases h26 : (decide (x20 < x18)) = true
  ·rw [if_pos h26] at h
   obtain ⟨h27, h⟩ := req_some h
   exact Lp.again (gRun_ok cxOK (f8_p8_1_e0 x1 x5 x7 x17 x18 x19 x20) ⟨h26, h27, rfl, trivial⟩) (f8_p8_1_ok F x1 x5 x7 x17 x18 k (w64 (x20 + 1)) (x19 ++ ([x17] : List Int)) r h)
  ·rw [if_neg h26] at h
   have h26 := Bool.eq_false_iff.2 h26
   obtain rfl := Option.some.inj h
   exact Lp.out (gRun_ok cxOK (f8_p8_1_e1 x1 x5 x7 x17 x18 x19 x20) ⟨h26, trivial⟩) (by intro hh; cases hh)
theorem f8_p3_ok (F : Nat) (x1 : Int) (x5 x7 : LI) : ∀ (k : Nat) (x17 : Int) (x16 : LI) (r : f8_p3_R), f8_p3 F x1 x5 x7 k x17 x16 = some r → f8_p3_P x1 x5 x7 x17 x16 r
 | 0, _, _, _, h => by cases h
 | k + 1, x17, x16, r, h => by
  unfold f8_p3 at h
  by_cases h22 : (decide (x17 < ((List.length x5 : Nat) : Int))) = true
  ·rw [if_pos h22] at h
   obtain ⟨x18, h23, h⟩ := bind_some h
   try dsimp only at h
   by_cases h24 : (decide (x18 < 1)) = true
   ·rw [if_pos h24] at h
    obtain rfl := Option.some.inj h
    exact Lp.out (gRun_ok cxOK (f8_p3_e0 x1 x5 x7 x16 x17 x18) ⟨h22, ⟨(at?_spec h23).1, x18, (at?_spec h23).2, rfl⟩, h24, h24, h24, h24, h24, h24, h24, rfl, trivial⟩) (by intro hh; cases hh)
   ·rw [if_neg h24] at h
    have h24 := Bool.eq_false_iff.2 h24
    by_cases h25 : (decide ((w64 ((((List.length x16) : Nat) : Int) + x18)) > (w64 (1 + (Int.tmod (w64 (x1)) 8))))) = true
    ·rw [if_pos h25] at h
     obtain rfl := Option.some.inj h
     exact Lp.out (gRun_ok cxOK (f8_p3_e1 x1 x5 x7 x16 x17 x18) ⟨h22, ⟨(at?_spec h23).1, x18, (at?_spec h23).2, rfl⟩, h24, h24, h24, h24, h24, h24, h24, h25, trivial⟩) (by intro hh; cases hh)
    ·rw [if_neg h25] at h
     have h25 := Bool.eq_false_iff.2 h25
     obtain ⟨x21, h28, h⟩ := bind_some h
     have ch28 := f8_p8_1_ok F x1 x5 x7 x17 x18 F 0 x16 _ h28
     try dsimp only at h
     exact Lp.again (gRun_ok cxOK (f8_p3_e2 x1 x5 x7 x16 x17 x18 x21) ⟨h22, ⟨(at?_spec h23).1, x18, (at?_spec h23).2, rfl⟩, h24, h24, h24, h24, h24, h24, h24, h25, ch28, trivial⟩) (f8_p3_ok F x1 x5 x7 k (w64 (x17 + 1)) x21 r h)
  ·rw [if_neg h22] at h
   have h22 := Bool.eq_false_iff.2 h22
   obtain rfl := Option.some.inj h
   exact Lp.out (gRun_ok cxOK (f8_p3_e3 x1 x5 x7 x16 x17) ⟨h22, trivial⟩) (by intro hh; cases hh)
theorem f8_p20_7_ok (F : Nat) (x1 : Int) (x5 x22 : LI) (x59 x66 : Int) (x68 x69 x67 : Int) (x65 : List (Int × (Int × Unit))) (r : (List (Int × (Int × Unit)))) (h : f8_p20_7 F x1 x5 x22 x59 x66 x68 x69 x67 x65 = some r) : f8_p20_7_P x1 x5 x22 x59 x66 x68 x69 x67 x65 r := by
 unfold f8_p20_7 at h
 by_cases h101 : (x68 != x69) = true
 ·rw [if_pos h101] at h
  obtain ⟨h102, h⟩ := req_some h
  obtain rfl := Option.some.inj h
  exact gRun_ok cxOK (f8_p20_7_e0 x1 x5 x22 x59 x65 x66 x67 x68 x69) ⟨h101, h102, rfl, trivial⟩
 ·rw [if_neg h101] at h
  have h101 := Bool.eq_false_iff.2 h101
  obtain rfl := Option.some.inj h
  exact gRun_ok cxOK (f8_p20_7_e1 x1 x5 x22 x59 x65 x66 x67 x68 x69) ⟨h101, trivial⟩
theorem f8_p17_2_ok (F : Nat) (x1 : Int) (x5 x22 : LI) (x59 : Int) : ∀ (k : Nat) (x66 x67 : Int) (x65 : List (Int × (Int × Unit))) (r : Int × (List (Int × (Int × Unit)))), f8_p17_2 F x1 x5 x22 x59 k x66 x67 x65 = some r → f8_p17_2_P x1 x5 x22 x59 x66 x67 x65 r
 | 0, _, _, _, _, h => by cases h
 | k + 1, x66, x67, x65, r, h => by
  unfold f8_p17_2 at h
  by_cases h96 : (decide (x66 < x59)) = true
  ·rw [if_pos h96] at h
   obtain ⟨h97, h⟩ := req_some h
   obtain ⟨x68, h98, h⟩ := bind_some h
   try dsimp only at h
   obtain ⟨h99, h⟩ := req_some h
   obtain ⟨x69, h100, h⟩ := bind_some h
   try dsimp only at h
   obtain ⟨x70, h103, h⟩ := bind_some h
   have ch103 := f8_p20_7_ok F x1 x5 x22 x59 x66 x68 x69 x67 x65 _ h103
   try dsimp only at h
   exact Lp.again (gRun_ok cxOK (f8_p17_2_e0 x1 x5 x22 x59 x65 x66 x67 x68 x69 x70) ⟨h96, h97, ⟨x68, h98, rfl⟩, h99, ⟨x69, h100, rfl⟩, ch103, trivial⟩) (f8_p17_2_ok F x1 x5 x22 x59 k (w64 (x66 + 1)) x67 x70 r h)
  ·rw [if_neg h96] at h
   have h96 := Bool.eq_false_iff.2 h96
   obtain rfl := Option.some.inj h
   exact Lp.out (gRun_ok cxOK (f8_p17_2_e1 x1 x5 x22 x59 x65 x66 x67) ⟨h96, trivial⟩) (by intro hh; cases hh)
theorem f8_p13_ok (F : Nat) (x1 : Int) (x5 x22 : LI) : ∀ (k : Nat) (x59 x60 : Int) (x58 : List (Int × (Int × Unit))) (r : Int × (List (Int × (Int × Unit)))), f8_p13 F x1 x5 x22 k x59 x60 x58 = some r → f8_p13_P x1 x5 x22 x59 x60 x58 r
 | 0, _, _, _, _, h => by cases h
 | k + 1, x59, x60, x58, r, h => by
  unfold f8_p13 at h
  by_cases h87 : (decide (x59 < (w64 (1 + (Int.tmod (w64 (x1)) 8))))) = true
  ·rw [if_pos h87] at h
   obtain ⟨rh104, h104, h⟩ := bind_some h
   have ch104 := f8_p17_2_ok F x1 x5 x22 x59 F 0 x60 x58 _ h104
   obtain ⟨x71, x72⟩ := rh104
   try dsimp only at h
   exact Lp.again (gRun_ok cxOK (f8_p13_e0 x1 x5 x22 x58 x59 x60 x71 x72) ⟨h87, ch104, trivial⟩) (f8_p13_ok F x1 x5 x22 k (w64 (x59 + 1)) x71 x72 r h)
  ·rw [if_neg h87] at h
   have h87 := Bool.eq_false_iff.2 h87
   obtain rfl := Option.some.inj h
   exact Lp.out (gRun_ok cxOK (f8_p13_e1 x1 x5 x22 x58 x59 x60) ⟨h87, trivial⟩) (by intro hh; cases hh)
theorem f8_p23_ok (F : Nat) (x5 : LI) (x79 : Int) (x75 : LL) (x73 : Int) (x74 : List (Int × (Int × Unit))) : ∀ (k : Nat) (x81 : Int) (r : f8_p23_R), f8_p23 F x5 x79 x75 x73 x74 k x81 = some r → f8_p23_P x5 x79 x75 x73 x74 x81 r
 | 0, _, _, h => by cases h
 | k + 1, x81, r, h => by
  unfold f8_p23 at h
  by_cases h114 : (decide (x81 < ((List.length x75 : Nat) : Int))) = true
  ·rw [if_pos h114] at h
   obtain ⟨x82, h115, h⟩ := bind_some h
   try dsimp only at h
   obtain ⟨x83, h116, h⟩ := bind_some h
   try dsimp only at h
   by_cases h117 : (((List.length x82 : Nat) : Int) != x83) = true
   ·rw [if_pos h117] at h
    obtain rfl := Option.some.inj h
    exact Lp.out (gRun_ok cxOK (f8_p23_e0 x5 x73 x74 x75 x79 x81 x82 x83) ⟨h114, ⟨(at?_spec h115).1, x82, (at?_spec h115).2, rfl⟩, ⟨(at?_spec h116).1, x83, (at?_spec h116).2, rfl⟩, h117, trivial⟩) (by intro hh; cases hh)
   ·rw [if_neg h117] at h
    have h117 := Bool.eq_false_iff.2 h117
    exact Lp.again (gRun_ok cxOK (f8_p23_e1 x5 x73 x74 x75 x79 x81 x82 x83) ⟨h114, ⟨(at?_spec h115).1, x82, (at?_spec h115).2, rfl⟩, ⟨(at?_spec h116).1, x83, (at?_spec h116).2, rfl⟩, h117, trivial⟩) (f8_p23_ok F x5 x79 x75 x73 x74 k (w64 (x81 + 1)) r h)
  ·rw [if_neg h114] at h
   have h114 := Bool.eq_false_iff.2 h114
   obtain rfl := Option.some.inj h
   exact Lp.out (gRun_ok cxOK (f8_p23_e2 x5 x73 x74 x75 x79 x81) ⟨h114, trivial⟩) (by intro hh; cases hh)
theorem f8_ok (F : Nat) (x1 x2 : Int) (r : Bool) (h : f8 F x1 x2 = some r) : f8_C x1 x2 r := by
 unfold f8 at h
 obtain ⟨rh1, h1, h⟩ := bind_some h
 have ch1 := f39_ok F (w64 (1 + (Int.tmod (w64 (x1)) 8))) _ h1
 obtain ⟨x3, x4⟩ := rh1
 try dsimp only at h
 by_cases h2 : (x4 != 0) = true
 ·rw [if_pos h2] at h
  cases h
 ·rw [if_neg h2] at h
  have h2 := Bool.eq_false_iff.2 h2
  by_cases h3 : (decide (x3 < 1)) = true
  ·rw [if_pos h3] at h
   cases h
  ·rw [if_neg h3] at h
   have h3 := Bool.eq_false_iff.2 h3
   obtain ⟨h4, h⟩ := req_some h
   obtain ⟨rh5, h5, h⟩ := bind_some h
   have ch5 := f40_ok F (w64 (1 + (Int.tmod (w64 (x1)) 8))) (Int.tmod (w64 (x2)) x3) _ h5
   obtain ⟨x5, x6⟩ := rh5
   try dsimp only at h
   obtain ⟨rh6, h6, h⟩ := bind_some h
   have ch6 := f41_ok F x5 _ h6
   obtain ⟨x7, x8⟩ := rh6
   try dsimp only at h
   by_cases h7 : (x6 != 0) = true
   ·rw [if_pos h7] at h
    cases h
   ·rw [if_neg h7] at h
    have h7 := Bool.eq_false_iff.2 h7
    by_cases h8 : (x8 != 0) = true
    ·rw [if_pos h8] at h
     cases h
    ·rw [if_neg h8] at h
     have h8 := Bool.eq_false_iff.2 h8
     obtain ⟨x9, h9, h⟩ := bind_some h
     have ch9 := f42_ok F x5 _ h9
     try dsimp only at h
     by_cases h10 : (x9 != 0) = true
     ·rw [if_pos h10] at h
      cases h
     ·rw [if_neg h10] at h
      have h10 := Bool.eq_false_iff.2 h10
      by_cases h11 : (((List.length x5 : Nat) : Int) == 0) = true
      ·rw [if_pos h11] at h
       cases h
      ·rw [if_neg h11] at h
       have h11 := Bool.eq_false_iff.2 h11
       by_cases h12 : (decide (((List.length x5 : Nat) : Int) > (w64 (1 + (Int.tmod (w64 (x1)) 8))))) = true
       ·rw [if_pos h12] at h
        cases h
       ·rw [if_neg h12] at h
        have h12 := Bool.eq_false_iff.2 h12
        obtain ⟨rh29, h29, h⟩ := bind_some h
        have ch29 := f8_p3_ok F x1 x5 x7 F 0 ([] : List Int) _ h29
        cases rh29 with
        | c0 =>
         try dsimp only at h
         cases h
        | c1 x22 =>
         try dsimp only at h
         by_cases h30 : ((((List.length x22) : Nat) : Int) != (w64 (1 + (Int.tmod (w64 (x1)) 8)))) = true
         ·rw [if_pos h30] at h
          cases h
         ·rw [if_neg h30] at h
          have h30 := Bool.eq_false_iff.2 h30
          obtain ⟨x23, h31, h⟩ := bind_some h
          try dsimp only at h
          by_cases h32 : (((List.length x7 : Nat) : Int) != x23) = true
          ·rw [if_pos h32] at h
           cases h
          ·rw [if_neg h32] at h
           have h32 := Bool.eq_false_iff.2 h32
           obtain ⟨x24, h33, h⟩ := bind_some h
           try dsimp only at h
           by_cases h34 : (x24 != ((List.length x5 : Nat) : Int)) = true
           ·rw [if_pos h34] at h
            cases h
           ·rw [if_neg h34] at h
            have h34 := Bool.eq_false_iff.2 h34
            obtain ⟨rh105, h105, h⟩ := bind_some h
            have ch105 := f8_p13_ok F x1 x5 x22 F 0 (w64 (1 + (Int.tmod (w64 (x1)) 8))) ([] : List (Int × (Int × Unit))) _ h105
            obtain ⟨x73, x74⟩ := rh105
            try dsimp only at h
            obtain ⟨rh106, h106, h⟩ := bind_some h
            have ch106 := f43_ok F x73 (List.drop 0 (List.take (0 + (List.length x74)) x74)) _ h106
            obtain ⟨x75, x76⟩ := rh106
            try dsimp only at h
            obtain ⟨rh107, h107, h⟩ := bind_some h
            have ch107 := f30_ok F x73 (List.drop 0 (List.take (0 + (List.length x74)) x74)) _ h107
            obtain ⟨x77, x78⟩ := rh107
            try dsimp only at h
            obtain ⟨rh108, h108, h⟩ := bind_some h
            have ch108 := f44_ok F (w64 (1 + (Int.tmod (w64 (x1)) 8))) ((List.length x5 : Nat) : Int) _ h108
            obtain ⟨x79, x80⟩ := rh108
            try dsimp only at h
            by_cases h109 : (x76 != 0) = true
            ·rw [if_pos h109] at h
             cases h
            ·rw [if_neg h109] at h
             have h109 := Bool.eq_false_iff.2 h109
             by_cases h110 : (x78 != 0) = true
             ·rw [if_pos h110] at h
              cases h
             ·rw [if_neg h110] at h
              have h110 := Bool.eq_false_iff.2 h110
              by_cases h111 : (x80 != 0) = true
              ·rw [if_pos h111] at h
               cases h
              ·rw [if_neg h111] at h
               have h111 := Bool.eq_false_iff.2 h111
               by_cases h112 : (((List.length x75 : Nat) : Int) != ((List.length x5 : Nat) : Int)) = true
               ·rw [if_pos h112] at h
                cases h
               ·rw [if_neg h112] at h
                have h112 := Bool.eq_false_iff.2 h112
                by_cases h113 : (((List.length x77 : Nat) : Int) != ((List.length x5 : Nat) : Int)) = true
                ·rw [if_pos h113] at h
                 cases h
                ·rw [if_neg h113] at h
                 have h113 := Bool.eq_false_iff.2 h113
                 obtain ⟨rh118, h118, h⟩ := bind_some h
                 have ch118 := f8_p23_ok F x5 x79 x75 x73 x74 F 0 _ h118
                 cases rh118 with
                 | c0 =>
                  try dsimp only at h
                  cases h
                 | c1 =>
                  try dsimp only at h
                  by_cases h119 : (decide (((List.length (List.drop 0 (List.take (0 + (List.length x74)) x74)) : Nat) : Int) ≤ x79)) = true
                  ·rw [if_pos h119] at h
                   obtain ⟨x84, h120, h⟩ := bind_some h
                   try dsimp only at h
                   by_cases h121 : ((((List.length (List.drop 0 (List.take (0 + (List.length x74)) x74)) : Nat) : Int) == x79) == (decide ((w64 (x23 - x84)) ≤ 1))) = true
                   ·rw [if_pos h121] at h
                    obtain ⟨x85, h122, h⟩ := bind_some h
                    have ch122 := f33_ok F _ h122
                    try dsimp only at h
                    obtain rfl := Option.some.inj h
                    exact callOK cxOK cxW Tryd.func8 (by kernel_rfl) (f8_e0 x1 x2 x3 x4 x5 x6 x7 x8 x9 x22 x23 x24 x73 x74 x75 x76 x77 x78 x79 x80 x84 x85) ⟨(by decide), ch1, h2, h2, h2, h3, h4, ch5, ch6, h7, h7, h7, h8, h8, ch9, h8, h8, h10, h10, h10, h10, h11, h11, h11, h11, h11, h12, ch29, h30, h30, h30, h30, ⟨(at?_spec h31).1, x23, (at?_spec h31).2, rfl⟩, h30, h30, h30, h32, h32, ⟨(at?_spec h33).1, x24, (at?_spec h33).2, rfl⟩, h32, h32, h32, h32, h32, h34, ch105, (Nat.le_of_eq (Nat.zero_add _)), ch106, ch107, ch108, h109, h109, h109, h110, h110, h110, h111, h111, h111, h111, h111, h111, h112, h112, h112, h112, h112, h112, h113, ch118, h119, h119, h119, h119, h119, h119, h119, ⟨(at?_spec h31).1, x23, (at?_spec h31).2, rfl⟩, h119, h119, h119, h119, h119, h119, ⟨(at?_spec h120).1, x84, (at?_spec h120).2, rfl⟩, h119, h119, h119, h119, h119, h121, ch122, h121, trivial⟩
                   ·rw [if_neg h121] at h
                    have h121 := Bool.eq_false_iff.2 h121
                    cases h
                  ·rw [if_neg h119] at h
                   have h119 := Bool.eq_false_iff.2 h119
                   cases h

end Go.Gh.Top
