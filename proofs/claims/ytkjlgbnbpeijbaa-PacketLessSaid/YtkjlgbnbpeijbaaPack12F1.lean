/- Pack12F1: printed by wip/tool/gx.py -/
import Derived.Test.YtkjlgbnbpeijbaaPack12F0
namespace Go.Gh.Pack
set_option linter.unusedVariables false
set_option linter.unusedSimpArgs false
open Go.Proofs

theorem f54_2_p5_1_ok (F : Nat) (x1 : List Int) (x2 x14 : Int) : ∀ (k : Nat) (x19 : Int) (x18 : List Bool) (r : (List Bool)), f54_2_p5_1 F x1 x2 x14 k x19 x18 = some r → f54_2_p5_1_P x1 x2 x14 x19 x18 r
  | 0, _, _, _, h => by cases h
  | k + 1, x19, x18, r, h => by
    unfold f54_2_p5_1 at h
    by_cases h32 : (decide (x19 < ((List.length x1 : Nat) : Int))) = true
    · rw [if_pos h32] at h
      obtain ⟨x20, h33, h⟩ := bind_some h
      try dsimp only at h
      obtain ⟨h34, h⟩ := req_some h
      obtain ⟨x21, h35, h⟩ := bind_some h
      try dsimp only at h
      by_cases h36 : x21 = true
      · rw [if_pos h36] at h
        obtain ⟨h37, h⟩ := req_some h
        exact Lp.again (gRun_ok cxOK (f54_2_p5_1_e0 x1 x2 x14 x18 x19 x20 x21) ⟨h32, ⟨(at?_spec h33).1, x20, (at?_spec h33).2, rfl⟩, h34, ⟨x21, h35, rfl⟩, h36, h36, h36, h36, h36, h36, h34, h37, trivial⟩) (f54_2_p5_1_ok F x1 x2 x14 k (w64 (x19 + 1)) (List.set x18 (0 + (Int.toNat x14)) true) r h)
      · rw [if_neg h36] at h
        have h36 := Bool.eq_false_iff.2 h36
        by_cases h38 : (decide (x20 ≤ x14)) = true
        · rw [if_pos h38] at h
          obtain ⟨h39, h⟩ := req_some h
          obtain ⟨x22, h40, h⟩ := bind_some h
          try dsimp only at h
          obtain ⟨h41, h⟩ := req_some h
          exact Lp.again (gRun_ok cxOK (f54_2_p5_1_e1 x1 x2 x14 x18 x19 x20 x21 x22) ⟨h32, ⟨(at?_spec h33).1, x20, (at?_spec h33).2, rfl⟩, h34, ⟨x21, h35, rfl⟩, h36, h36, h36, h36, h38, h38, h38, h38, h38, h39, h38, ⟨x22, h40, rfl⟩, h36, h38, h36, h34, h41, trivial⟩) (f54_2_p5_1_ok F x1 x2 x14 k (w64 (x19 + 1)) (List.set x18 (0 + (Int.toNat x14)) x22) r h)
        · rw [if_neg h38] at h
          have h38 := Bool.eq_false_iff.2 h38
          obtain ⟨h42, h⟩ := req_some h
          exact Lp.again (gRun_ok cxOK (f54_2_p5_1_e2 x1 x2 x14 x18 x19 x20 x21) ⟨h32, ⟨(at?_spec h33).1, x20, (at?_spec h33).2, rfl⟩, h34, ⟨x21, h35, rfl⟩, h36, h36, h36, h36, h38, h38, h38, h38, h38, h38, h36, h38, h36, h34, h42, trivial⟩) (f54_2_p5_1_ok F x1 x2 x14 k (w64 (x19 + 1)) (List.set x18 (0 + (Int.toNat x14)) false) r h)
    · rw [if_neg h32] at h
      have h32 := Bool.eq_false_iff.2 h32
      obtain rfl := Option.some.inj h
      exact Lp.out (gRun_ok cxOK (f54_2_p5_1_e3 x1 x2 x14 x18 x19) ⟨h32, trivial⟩) (by intro hh; cases hh)
theorem f54_2_p1_ok (F : Nat) (x1 : List Int) (x2 : Int) : ∀ (k : Nat) (x14 : Int) (x13 : List Bool) (r : (List Bool)), f54_2_p1 F x1 x2 k x14 x13 = some r → f54_2_p1_P x1 x2 x14 x13 r
  | 0, _, _, _, h => by cases h
  | k + 1, x14, x13, r, h => by
    unfold f54_2_p1 at h
    by_cases h23 : (decide (x14 < (((Int.toNat (w64 (x2 + 1))) : Nat) : Int))) = true
    · rw [if_pos h23] at h
      obtain ⟨h24, h⟩ := req_some h
      obtain ⟨h25, h⟩ := req_some h
      obtain ⟨rh43, h43, h⟩ := bind_some h
      have ch43 := f54_2_p5_1_ok F x1 x2 x14 F 0 (List.set x13 (0 + (Int.toNat x14)) (x14 == 0)) _ h43
      obtain ⟨x23, rfl⟩ : ∃ z, z = rh43 := ⟨_, rfl⟩
      try dsimp only at h
      exact Lp.again (gRun_ok cxOK (f54_2_p1_e0 x1 x2 x13 x14 x23) ⟨h23, h24, h25, ch43, trivial⟩) (f54_2_p1_ok F x1 x2 k (w64 (x14 + 1)) x23 r h)
    · rw [if_neg h23] at h
      have h23 := Bool.eq_false_iff.2 h23
      obtain rfl := Option.some.inj h
      exact Lp.out (gRun_ok cxOK (f54_2_p1_e1 x1 x2 x13 x14) ⟨h23, trivial⟩) (by intro hh; cases hh)
theorem f54_2_ok (F : Nat) (x1 : List Int) (x2 : Int) (r : Nat × (List Bool)) (h : f54_2 F x1 x2 = some r) : f54_2_C x1 x2 r := by
  unfold f54_2 at h
  obtain ⟨h1, h⟩ := req_some h
  obtain ⟨rh44, h44, h⟩ := bind_some h
  have ch44 := f54_2_p1_ok F x1 x2 F 0 (List.replicate (Int.toNat (w64 (x2 + 1))) (false : Bool)) _ h44
  obtain ⟨x24, rfl⟩ : ∃ z, z = rh44 := ⟨_, rfl⟩
  try dsimp only at h
  obtain rfl := Option.some.inj h
  exact callOK cxOK cxW Try.func54 (by kernel_rfl) (f54_2_e0 x1 x2 x24) ⟨h1, ch44, trivial⟩

theorem f55_p2_ok (F : Nat) (x1 x2 : List Bool) : ∀ (k : Nat) (x3 : Int) (r : f55_p2_R), f55_p2 F x1 x2 k x3 = some r → f55_p2_P x1 x2 x3 r
  | 0, _, _, h => by cases h
  | k + 1, x3, r, h => by
    unfold f55_p2 at h
    by_cases h2 : (decide (x3 < ((List.length x1 : Nat) : Int))) = true
    · rw [if_pos h2] at h
      obtain ⟨x4, h3, h⟩ := bind_some h
      try dsimp only at h
      obtain ⟨x5, h4, h⟩ := bind_some h
      try dsimp only at h
      by_cases h5 : (x4 == x5) = true
      · rw [if_pos h5] at h
        exact Lp.again (gRun_ok cxOK (f55_p2_e0 x1 x2 x3 x4 x5) ⟨h2, ⟨(at?_spec h3).1, x4, (at?_spec h3).2, rfl⟩, ⟨(at?_spec h4).1, x5, (at?_spec h4).2, rfl⟩, (by rw [h5]; rfl), trivial⟩) (f55_p2_ok F x1 x2 k (w64 (x3 + 1)) r h)
      · rw [if_neg h5] at h
        have h5 := Bool.eq_false_iff.2 h5
        obtain rfl := Option.some.inj h
        exact Lp.out (gRun_ok cxOK (f55_p2_e1 x1 x2 x3 x4 x5) ⟨h2, ⟨(at?_spec h3).1, x4, (at?_spec h3).2, rfl⟩, ⟨(at?_spec h4).1, x5, (at?_spec h4).2, rfl⟩, (by rw [h5]; rfl), trivial⟩) (by intro hh; cases hh)
    · rw [if_neg h2] at h
      have h2 := Bool.eq_false_iff.2 h2
      obtain rfl := Option.some.inj h
      exact Lp.out (gRun_ok cxOK (f55_p2_e2 x1 x2 x3) ⟨h2, trivial⟩) (by intro hh; cases hh)
theorem f55_ok (F : Nat) (x1 x2 : List Bool) (r : Bool) (h : f55 F x1 x2 = some r) : f55_C x1 x2 r := by
  unfold f55 at h
  by_cases h1 : (((List.length x1 : Nat) : Int) != ((List.length x2 : Nat) : Int)) = true
  · rw [if_pos h1] at h
    obtain rfl := Option.some.inj h
    exact callOK cxOK cxW Try.func55 (by kernel_rfl) (f55_e0 x1 x2) ⟨h1, trivial⟩
  · rw [if_neg h1] at h
    have h1 := Bool.eq_false_iff.2 h1
    obtain ⟨rh6, h6, h⟩ := bind_some h
    have ch6 := f55_p2_ok F x1 x2 F 0 _ h6
    cases rh6 with
    | c0 =>
      try dsimp only at h
      obtain rfl := Option.some.inj h
      exact callOK cxOK cxW Try.func55 (by kernel_rfl) (f55_e1 x1 x2) ⟨h1, ch6, trivial⟩
    | c1 =>
      try dsimp only at h
      obtain rfl := Option.some.inj h
      exact callOK cxOK cxW Try.func55 (by kernel_rfl) (f55_e2 x1 x2) ⟨h1, ch6, trivial⟩

theorem f12_p5_2_ok (F : Nat) (x4 x6 : List Int) (x21 x22 : List Int) (x23 x24 : Int) (x28 : Bool) (r : (List Int) × (List Int)) (h : f12_p5_2 F x4 x6 x21 x22 x23 x24 x28 = some r) : f12_p5_2_P x4 x6 x21 x22 x23 x24 x28 r := by
  unfold f12_p5_2 at h
  by_cases h40 : x28 = true
  · rw [if_pos h40] at h
    obtain rfl := Option.some.inj h
    exact gRun_ok cxOK (f12_p5_2_e0 x4 x6 x21 x22 x23 x24 x28) ⟨(by rw [h40]; rfl), trivial⟩
  · rw [if_neg h40] at h
    have h40 := Bool.eq_false_iff.2 h40
    obtain ⟨h41, h⟩ := req_some h
    obtain ⟨h42, h⟩ := req_some h
    obtain rfl := Option.some.inj h
    exact gRun_ok cxOK (f12_p5_2_e1 x4 x6 x21 x22 x23 x24 x28) ⟨(by rw [h40]; rfl), h41, rfl, h42, rfl, trivial⟩
theorem f12_p2_ok (F : Nat) (x4 x6 : List Int) : ∀ (k : Nat) (x23 : Int) (x21 x22 : List Int) (r : (List Int) × (List Int)), f12_p2 F x4 x6 k x23 x21 x22 = some r → f12_p2_P x4 x6 x23 x21 x22 r
  | 0, _, _, _, _, h => by cases h
  | k + 1, x23, x21, x22, r, h => by
    unfold f12_p2 at h
    by_cases h31 : (decide (x23 < ((List.length x4 : Nat) : Int))) = true
    · rw [if_pos h31] at h
      obtain ⟨x24, h32, h⟩ := bind_some h
      try dsimp only at h
      obtain ⟨h33, h⟩ := req_some h
      obtain ⟨rh34, h34, h⟩ := bind_some h
      have ch34 := f47_2m_ok F (List.drop 0 (List.take (Int.toNat x23) x4)) _ h34
      obtain ⟨x25, rfl⟩ : ∃ z, z = rh34 := ⟨_, rfl⟩
      try dsimp only at h
      obtain ⟨h35, h⟩ := req_some h
      obtain ⟨h36, h⟩ := req_some h
      obtain ⟨rh37, h37, h⟩ := bind_some h
      have ch37 := f54_1_ok F (List.drop 0 (List.take (0 + (List.length (x25 ++ (List.drop (Int.toNat (w64 (x23 + 1))) (List.take (List.length x4) x4))))) (x25 ++ (List.drop (Int.toNat (w64 (x23 + 1))) (List.take (List.length x4) x4))))) x24 _ h37
      obtain ⟨x26, x27⟩ := rh37
      try dsimp only at h
      obtain ⟨h38, h⟩ := req_some h
      obtain ⟨x28, h39, h⟩ := bind_some h
      try dsimp only at h
      obtain ⟨rh43, h43, h⟩ := bind_some h
      have ch43 := f12_p5_2_ok F x4 x6 x21 x22 x23 x24 x28 _ h43
      obtain ⟨x29, x30⟩ := rh43
      try dsimp only at h
      exact Lp.again (gRun_ok cxOK (f12_p2_e0 x4 x6 x21 x22 x23 x24 x25 x26 x27 x28 x29 x30) ⟨h31, ⟨(at?_spec h32).1, x24, (at?_spec h32).2, rfl⟩, h33, ch34, h35, h36, rfl, ch37, (Nat.le_of_eq (Nat.zero_add _)), h38, ⟨x28, h39, rfl⟩, ch43, trivial⟩) (f12_p2_ok F x4 x6 k (w64 (x23 + 1)) x29 x30 r h)
    · rw [if_neg h31] at h
      have h31 := Bool.eq_false_iff.2 h31
      obtain rfl := Option.some.inj h
      exact Lp.out (gRun_ok cxOK (f12_p2_e1 x4 x6 x21 x22 x23) ⟨h31, trivial⟩) (by intro hh; cases hh)
theorem f12_ok (F : Nat) (x1 x2 : List Int) (x3 : Int) (r : Bool) (h : f12 F x1 x2 x3 = some r) : f12_C x1 x2 x3 r := by
  unfold f12 at h
  obtain ⟨rh1, h1, h⟩ := bind_some h
  have ch1 := f44_ok F x1 x2 x3 30 1 _ h1
  obtain ⟨x4, x5⟩ := rh1
  try dsimp only at h
  obtain ⟨rh2, h2, h⟩ := bind_some h
  have ch2 := f34_ok F x4 _ h2
  obtain ⟨x6, x7⟩ := rh2
  try dsimp only at h
  by_cases h3 : (x7 != 0) = true
  · rw [if_pos h3] at h
    cases h
  · rw [if_neg h3] at h
    have h3 := Bool.eq_false_iff.2 h3
    by_cases h4 : (((List.length x6 : Nat) : Int) == 0) = true
    · rw [if_pos h4] at h
      cases h
    · rw [if_neg h4] at h
      have h4 := Bool.eq_false_iff.2 h4
      obtain ⟨rh44, h44, h⟩ := bind_some h
      have ch44 := f12_p2_ok F x4 x6 F 0 ([] : List Int) ([] : List Int) _ h44
      obtain ⟨x31, x32⟩ := rh44
      try dsimp only at h
      obtain ⟨rh45, h45, h⟩ := bind_some h
      have ch45 := f23_ok F x6 (List.drop 0 (List.take (0 + (List.length x31)) x31)) _ h45
      obtain ⟨x33, rfl⟩ : ∃ z, z = rh45 := ⟨_, rfl⟩
      try dsimp only at h
      by_cases h46 : x33 = true
      · rw [if_pos h46] at h
        obtain ⟨rh47, h47, h⟩ := bind_some h
        have ch47 := f54_ok F x4 900 _ h47
        obtain ⟨x34, rfl⟩ : ∃ z, z = rh47 := ⟨_, rfl⟩
        try dsimp only at h
        obtain ⟨rh48, h48, h⟩ := bind_some h
        have ch48 := f54_2_ok F (List.drop 0 (List.take (0 + (List.length x32)) x32)) 900 _ h48
        obtain ⟨x35, x36⟩ := rh48
        try dsimp only at h
        obtain ⟨rh49, h49, h⟩ := bind_some h
        have ch49 := f55_ok F x34 (List.drop 0 (List.take (0 + x35) x36)) _ h49
        obtain ⟨x37, rfl⟩ : ∃ z, z = rh49 := ⟨_, rfl⟩
        try dsimp only at h
        obtain ⟨h50, h⟩ := req_some h
        by_cases h51 : x37 = true
        · rw [if_pos h51] at h
          obtain ⟨rh52, h52, h⟩ := bind_some h
          have ch52 := f28_ok F x4 _ h52
          obtain ⟨x38, x39⟩ := rh52
          try dsimp only at h
          obtain ⟨rh53, h53, h⟩ := bind_some h
          have ch53 := f28_ok F (List.drop 0 (List.take (0 + (List.length x32)) x32)) _ h53
          obtain ⟨x40, x41⟩ := rh53
          try dsimp only at h
          by_cases h54 : (x39 == x41) = true
          · rw [if_pos h54] at h
            obtain ⟨rh55, h55, h⟩ := bind_some h
            have ch55 := f23_ok F x38 x40 _ h55
            obtain ⟨x42, rfl⟩ : ∃ z, z = rh55 := ⟨_, rfl⟩
            try dsimp only at h
            by_cases h56 : x42 = true
            · rw [if_pos h56] at h
              by_cases h57 : (x39 == 0) = true
              · rw [if_pos h57] at h
                obtain ⟨rh58, h58, h⟩ := bind_some h
                have ch58 := f16_ok F _ h58
                obtain ⟨x43, rfl⟩ : ∃ z, z = rh58 := ⟨_, rfl⟩
                try dsimp only at h
                obtain rfl := Option.some.inj h
                exact callOK cxOK cxW Try.func12 (by kernel_rfl) (f12_e0 x1 x2 x3 x4 x5 x6 x7 x31 x32 x33 x34 x35 x36 x37 x38 x39 x40 x41 x42 x43) ⟨ch1, ch2, h3, h3, h3, h3, h4, ch44, ch45, (Nat.le_of_eq (Nat.zero_add _)), (by rw [h46]; rfl), (by rw [h46]; rfl), ch47, (by rw [h46]; rfl), (by rw [h46]; rfl), ch48, (Nat.le_of_eq (Nat.zero_add _)), (by rw [h46]; rfl), ch49, h50, (by rw [h46]; rfl), (by rw [h46]; rfl), (by rw [h51]; rfl), ch52, (Nat.le_of_eq (Nat.zero_add _)), ch53, h54, h54, h54, ch55, h54, h56, h56, h56, h57, h57, h56, h57, h56, rfl, ch58, rfl, trivial⟩
              · rw [if_neg h57] at h
                have h57 := Bool.eq_false_iff.2 h57
                by_cases h59 : (x39 == 15) = true
                · rw [if_pos h59] at h
                  obtain ⟨rh60, h60, h⟩ := bind_some h
                  have ch60 := f16_ok F _ h60
                  obtain ⟨x44, rfl⟩ : ∃ z, z = rh60 := ⟨_, rfl⟩
                  try dsimp only at h
                  obtain rfl := Option.some.inj h
                  exact callOK cxOK cxW Try.func12 (by kernel_rfl) (f12_e1 x1 x2 x3 x4 x5 x6 x7 x31 x32 x33 x34 x35 x36 x37 x38 x39 x40 x41 x42 x44) ⟨ch1, ch2, h3, h3, h3, h3, h4, ch44, ch45, (Nat.le_of_eq (Nat.zero_add _)), (by rw [h46]; rfl), (by rw [h46]; rfl), ch47, (by rw [h46]; rfl), (by rw [h46]; rfl), ch48, (Nat.le_of_eq (Nat.zero_add _)), (by rw [h46]; rfl), ch49, h50, (by rw [h46]; rfl), (by rw [h46]; rfl), (by rw [h51]; rfl), ch52, (Nat.le_of_eq (Nat.zero_add _)), ch53, h54, h54, h54, ch55, h54, h56, h56, h56, h57, h57, h56, h57, h56, h59, ch60, h59, trivial⟩
                · rw [if_neg h59] at h
                  have h59 := Bool.eq_false_iff.2 h59
                  cases h
            · rw [if_neg h56] at h
              have h56 := Bool.eq_false_iff.2 h56
              cases h
          · rw [if_neg h54] at h
            have h54 := Bool.eq_false_iff.2 h54
            cases h
        · rw [if_neg h51] at h
          have h51 := Bool.eq_false_iff.2 h51
          cases h
      · rw [if_neg h46] at h
        have h46 := Bool.eq_false_iff.2 h46
        cases h

end Go.Gh.Pack
