/- Fan7N0: printed by wip/tool/gx.py -/
import Derived.Test.YtidfbhlhogkfmaaGhPl
namespace Go.Gh.Fan
set_option linter.unusedVariables false
set_option linter.unusedSimpArgs false

def f56 (F : Nat) (x1 : Bool) (x2 : List Int) : Option (Int × Bool × (List Int)) :=
  some ((w64 (Int.tdiv ((List.length x2 : Nat) : Int) 2)), x1, x2)

def f54 (F : Nat) : Option (Int × Bool × (List Int)) :=
  Option.bind (f56 F true ([2, 3, 1, 2, 1, 3] : List Int)) fun (x1, x2, x3) =>
  some (x1, x2, x3)

def f58 (F : Nat) (x1 : Int) (x2 : Int) (x3 : Int) : Option Bool :=
  if (decide (x1 ≤ x2)) = true then
    some (decide (x2 ≤ x3))
  else
    some false

def f77_p0 (F : Nat) (x1 : Int) (x2 : Bool) : Option Int :=
  if x2 = true then
    some (w64 (x1 + 1))
  else
    some x1
def f77 (F : Nat) (x1 : Int) (x2 : Bool) : Option Int :=
  Option.bind (f77_p0 F x1 x2) fun x3 =>
  some x3

def f70 (F : Nat) (x1 : Int) (x2 : Int) (x3 : Bool) (x4 : List Int) (x5 : List Int) : Option Int :=
  req ((0 : Int) ≤ x1 ∧ (x1 : Int) < ((9 : Nat) : Int)) <|
  Option.bind ((x5)[(0 + ((Int.toNat x1) * 1))]?) fun x6 =>
  Option.bind (f77 F x1 x3) fun x7 =>
  some (w64 (x6 + x7))

def f57_p4 (F : Nat) (x1 : Int) (x2 : Bool) (x3 : List Int) : Nat → Int → Int → Bool → (List Int) → (List Int) → Option (Int × Bool × (List Int) × (List Int))
  | 0, _, _, _, _, _ => none
  | k + 1, x6, x7, x8, x9, x10 =>
    if (decide (x6 < 9)) = true then
      req ((0 : Int) ≤ x6 ∧ (x6 : Int) < ((9 : Nat) : Int)) <|
      req ((0 + ((Int.toNat x6) * 1)) < 9) <|
      f57_p4 F x1 x2 x3 k (w64 (x6 + 1)) x7 x8 x9 (List.set x10 (0 + ((Int.toNat x6) * 1)) (-1))
    else
      some (x7, x8, x9, x10)
def f57_p12_1 (F : Nat) (x21 : Int) (x28 : Int) (x3 : List Int) (x31 : Int) (x1 : Int) (x2 : Bool) (x22 : Int) (x23 : Bool) (x24 : List Int) (x25 : List Int) (x26 : List Int) (x30 : Int) (x27 : List Int) : Option (List Int) :=
  if (x31 == 1) = true then
    req ((0 : Int) ≤ x28 ∧ (x28 : Int) < ((9 : Nat) : Int)) <|
    req ((0 + ((Int.toNat x28) * 1)) < 9) <|
    some (List.set x25 (0 + ((Int.toNat x28) * 1)) x21)
  else
    some x25
inductive f57_p8_R where
  | c0
  | c1 (a0 : Int) (a1 : Bool) (a2 : List Int) (a3 : List Int) (a4 : List Int) (a5 : List Int)
def f57_p8 (F : Nat) (x3 : List Int) (x1 : Int) (x2 : Bool) : Nat → Int → Int → Bool → (List Int) → (List Int) → (List Int) → (List Int) → Option f57_p8_R
  | 0, _, _, _, _, _, _, _ => none
  | k + 1, x21, x22, x23, x24, x25, x26, x27 =>
    if (decide (x21 < ((List.length x3 : Nat) : Int))) = true then
      Option.bind (at? x3 x21) fun x28 =>
      Option.bind (f58 F 0 x28 x1) fun x29 =>
      if x29 = true then
        req ((0 : Int) ≤ x28 ∧ (x28 : Int) < ((9 : Nat) : Int)) <|
        Option.bind ((x26)[(0 + ((Int.toNat x28) * 1))]?) fun x30 =>
        req ((0 + ((Int.toNat x28) * 1)) < 9) <|
        Option.bind (((List.set x26 (0 + ((Int.toNat x28) * 1)) (w64 (x30 + 1))))[(0 + ((Int.toNat x28) * 1))]?) fun x31 =>
        Option.bind (f57_p12_1 F x21 x28 x3 x31 x1 x2 x22 x23 x24 x25 x26 x30 x27) fun x32 =>
        req ((0 : Int) ≤ x21 ∧ (x21 : Int) < ((16 : Nat) : Int)) <|
        req ((0 + ((Int.toNat x21) * 1)) < 16) <|
        f57_p8 F x3 x1 x2 k (w64 (x21 + 1)) x22 x23 (List.set x24 (0 + ((Int.toNat x21) * 1)) x28) x32 (List.set x26 (0 + ((Int.toNat x28) * 1)) (w64 (x30 + 1))) (List.set x27 (0 + ((Int.toNat x28) * 1)) x21)
      else
        some .c0
    else
      some (.c1 x22 x23 x24 x25 x26 x27)
inductive f57_p14_R where
  | c0 (a0 : Int)
  | c1
def f57_p14 (F : Nat) (x1 : Int) (x2 : Bool) (x3 : List Int) (x33 : Int) (x34 : Bool) (x35 : List Int) (x36 : List Int) (x37 : List Int) (x38 : List Int) : Nat → Int → Option f57_p14_R
  | 0, _ => none
  | k + 1, x39 =>
    if (decide (x39 ≤ x1)) = true then
      req ((0 : Int) ≤ x39 ∧ (x39 : Int) < ((9 : Nat) : Int)) <|
      Option.bind ((x37)[(0 + ((Int.toNat x39) * 1))]?) fun x40 =>
      if (decide (x40 > 2)) = true then
        some (.c0 3)
      else
      if (x40 == 1) = true then
        some (.c0 21)
      else
      if (x40 == 2) = true then
        Option.bind ((x38)[(0 + ((Int.toNat x39) * 1))]?) fun x41 =>
        Option.bind (f70 F x39 x33 x34 x35 x36) fun x42 =>
        if (x41 != x42) = true then
          some (.c0 13)
        else
          f57_p14 F x1 x2 x3 x33 x34 x35 x36 x37 x38 k (w64 (x39 + 1))
      else
        f57_p14 F x1 x2 x3 x33 x34 x35 x36 x37 x38 k (w64 (x39 + 1))
    else
      some .c1
inductive f57_R where
  | c0 (a0 : Int)
  | c1 (a0 : Int) (a1 : Int) (a2 : Bool) (a3 : List Int) (a4 : List Int)
def f57 (F : Nat) (x1 : Int) (x2 : Bool) (x3 : List Int) : Option f57_R :=
  Option.bind (f58 F 1 x1 8) fun x4 =>
  if x4 = true then
    if (((List.length x3 : Nat) : Int) != (w64 (2 * x1))) = true then
      some (.c0 5)
    else
      Option.bind (f57_p4 F x1 x2 x3 F 0 x1 x2 (List.replicate 16 0) (List.replicate 9 0)) fun (x11, x12, x13, x14) =>
      Option.bind (f57_p8 F x3 x1 x2 F 0 x11 x12 x13 x14 (List.replicate 9 0) (List.replicate 9 0)) fun
      | .c0 =>
        some (.c0 2)
      | .c1 x33 x34 x35 x36 x37 x38 =>
        Option.bind (f57_p14 F x1 x2 x3 x33 x34 x35 x36 x37 x38 F 1) fun
        | .c0 x43 =>
          some (.c0 x43)
        | .c1 =>
          some (.c1 0 x33 x34 x35 x36)
  else
    some (.c0 1)

inductive f74_p1_R where
  | c0 (a0 : Int)
  | c1
def f74_p1 (F : Nat) (x1 : List Int) (x2 : Int) : Nat → Int → Option f74_p1_R
  | 0, _ => none
  | k + 1, x3 =>
    if (decide (x3 < ((List.length x1 : Nat) : Int))) = true then
      Option.bind (at? x1 x3) fun x4 =>
      if (x2 == x4) = true then
        some (.c0 x3)
      else
        f74_p1 F x1 x2 k (w64 (x3 + 1))
    else
      some .c1
def f74 (F : Nat) (x1 : List Int) (x2 : Int) : Option Int :=
  Option.bind (f74_p1 F x1 x2 F 0) fun
  | .c0 x5 =>
    some x5
  | .c1 =>
    some (-1)

def f46 (F : Nat) (x1 : List Int) (x2 : Int) : Option Bool :=
  Option.bind (f74 F x1 x2) fun x3 =>
  some (decide (x3 ≥ 0))

def f48 (F : Nat) (x1 : Int) (x2 : Bool) (x3 : List Int) : Option (Bool × Int) :=
  Option.bind (f57 F x1 x2 x3) fun
  | .c0 x4 =>
    if (x4 != 0) = true then
      some (false, x4)
    else
      none
  | .c1 x5 x6 x7 x8 x9 =>
    if (x5 != 0) = true then
      some (false, x5)
    else
      req ((0 : Int) ≤ 1 ∧ (1 : Int) ≤ (w64 (x6 + 1)) ∧ ((w64 (x6 + 1)) : Int) ≤ ((9 : Nat) : Int)) <|
      Option.bind (f46 F (List.drop 1 (List.take (1 + ((Int.toNat (w64 (x6 + 1))) - 1)) x9)) (-1)) fun x10 =>
      req ((1 + ((Int.toNat (w64 (x6 + 1))) - 1)) ≤ List.length x9) <|
      some ((!x10), 0)

def f29_p1 (F : Nat) (x1 : Int) (x2 : Bool) : Option Int :=
  if x2 = true then
    some (w64 (x1 + 1))
  else
    some x1
def f29 (F : Nat) (x1 : Int) (x2 : Bool) : Option (Bool × Int) :=
  Option.bind (f58 F 1 x1 8) fun x3 =>
  if x3 = true then
    Option.bind (f29_p1 F x1 x2) fun x4 =>
    some ((decide ((Int.tmod x4 4) < 2)), 0)
  else
    some (false, 1)

def f71_p0 (F : Nat) (x1 : Int) (x2 : Bool) : Option Int :=
  if x2 = true then
    some (w64 ((w64 ((w64 (x1 * (w64 ((w64 (2 * x1)) - 1)))) - (w64 (Int.tdiv (w64 (x1 * (w64 (x1 + 1)))) 2)))) - x1))
  else
    some (w64 ((w64 (x1 * (w64 ((w64 (2 * x1)) - 1)))) - (w64 (Int.tdiv (w64 (x1 * (w64 (x1 + 1)))) 2))))
def f71 (F : Nat) (x1 : Int) (x2 : Bool) : Option (Int × Bool) :=
  Option.bind (f71_p0 F x1 x2) fun x3 =>
  some ((w64 (Int.tdiv x3 2)), ((Int.tmod x3 2) == 0))

def f31 (F : Nat) (x1 : Int) (x2 : Bool) : Option (Int × Int) :=
  Option.bind (f58 F 1 x1 8) fun x3 =>
  if x3 = true then
    Option.bind (f71 F x1 x2) fun (x4, x5) =>
    if x5 = true then
      some (x4, 0)
    else
      some (0, 12)
  else
    some (0, 1)

def f53 (F : Nat) : Option (Int × Bool × (List Int)) :=
  Option.bind (f56 F false ([0, 0, 3, 0, 0, 3, 0, 0] : List Int)) fun (x1, x2, x3) =>
  some (x1, x2, x3)

def f59 (F : Nat) (x1 : Int) (x2 : Bool) (x3 : List Int) (x4 : List Int) : Option Int :=
  some (w64 (2 * x1))

def f60 (F : Nat) (x1 : Int) (x2 : Int) (x3 : Int) (x4 : Bool) (x5 : List Int) (x6 : List Int) : Option Int :=
  Option.bind (f77 F x1 x4) fun x7 =>
  req ((0 : Int) ≤ x1 ∧ (x1 : Int) < ((9 : Nat) : Int)) <|
  Option.bind ((x6)[(0 + ((Int.toNat x1) * 1))]?) fun x8 =>
  if (decide (x8 ≥ 0)) = true then
    some 6
  else
    Option.bind (f59 F x3 x4 x5 x6) fun x9 =>
    if (decide ((w64 (x2 + x7)) ≥ x9)) = true then
      some 15
    else
      req ((0 : Int) ≤ x2 ∧ (x2 : Int) < ((16 : Nat) : Int)) <|
      Option.bind ((x5)[(0 + ((Int.toNat x2) * 1))]?) fun x10 =>
      if (decide (x10 > 0)) = true then
        some 16
      else
        req ((0 : Int) ≤ (w64 (x2 + x7)) ∧ ((w64 (x2 + x7)) : Int) < ((16 : Nat) : Int)) <|
        Option.bind ((x5)[(0 + ((Int.toNat (w64 (x2 + x7))) * 1))]?) fun x11 =>
        if (decide (x11 > 0)) = true then
          some 16
        else
          some 0

def f19_p8_1 (F : Nat) (x4 : Int) (x16 : List Int) (x17 : Int) (x13 : Int) (x18 : Int) (x7 : Int) (x8 : Bool) (x9 : List Int) (x10 : List Int) : Option (List Int) :=
  if (x18 == 0) = true then
    req (List.length x16 + List.length ([x17] : List Int) ≤ 1099511627776) <|
    some (x16 ++ ([x17] : List Int))
  else
    some x16
def f19_p5 (F : Nat) (x4 : Int) (x13 : Int) (x7 : Int) (x8 : Bool) (x9 : List Int) (x10 : List Int) : Nat → Int → (List Int) → Option (List Int)
  | 0, _, _ => none
  | k + 1, x17, x16 =>
    if (decide (x17 < x13)) = true then
      Option.bind (f60 F x4 x17 x7 x8 x9 x10) fun x18 =>
      Option.bind (f19_p8_1 F x4 x16 x17 x13 x18 x7 x8 x9 x10) fun x19 =>
      f19_p5 F x4 x13 x7 x8 x9 x10 k (w64 (x17 + 1)) x19
    else
      some x16
def f19 (F : Nat) (x1 : Int) (x2 : Bool) (x3 : List Int) (x4 : Int) : Option ((List Int) × Int) :=
  Option.bind (f57 F x1 x2 x3) fun
  | .c0 x5 =>
    if (x5 != 0) = true then
      some (([] : List Int), x5)
    else
      none
  | .c1 x6 x7 x8 x9 x10 =>
    if (x6 != 0) = true then
      some (([] : List Int), x6)
    else
      Option.bind (f58 F 1 x4 x7) fun x11 =>
      if x11 = true then
        req ((0 : Int) ≤ x4 ∧ (x4 : Int) < ((9 : Nat) : Int)) <|
        Option.bind ((x10)[(0 + ((Int.toNat x4) * 1))]?) fun x12 =>
        if (decide (x12 ≥ 0)) = true then
          some (([] : List Int), 6)
        else
          Option.bind (f59 F x7 x8 x9 x10) fun x13 =>
          Option.bind (f19_p5 F x4 x13 x7 x8 x9 x10 F 0 ([] : List Int)) fun x20 =>
          some ((List.drop 0 (List.take (0 + (List.length x20)) x20)), 0)
      else
        some (([] : List Int), 2)

def f61 (F : Nat) (x1 : Int) (x2 : Int) (x3 : Int) (x4 : Bool) (x5 : List Int) (x6 : List Int) : Option (Int × Bool × (List Int) × (List Int)) :=
  Option.bind (f77 F x1 x4) fun x7 =>
  req ((0 : Int) ≤ x1 ∧ (x1 : Int) < ((9 : Nat) : Int)) <|
  Option.bind ((x6)[(0 + ((Int.toNat x1) * 1))]?) fun x8 =>
  if (decide (x8 < 0)) = true then
    req ((0 : Int) ≤ x2 ∧ (x2 : Int) < ((16 : Nat) : Int)) <|
    req ((0 + ((Int.toNat x2) * 1)) < 16) <|
    req ((0 : Int) ≤ (w64 (x2 + x7)) ∧ ((w64 (x2 + x7)) : Int) < ((16 : Nat) : Int)) <|
    req ((0 + ((Int.toNat (w64 (x2 + x7))) * 1)) < 16) <|
    req ((0 + ((Int.toNat x1) * 1)) < 9) <|
    some (x3, x4, (List.set (List.set x5 (0 + ((Int.toNat x2) * 1)) x1) (0 + ((Int.toNat (w64 (x2 + x7))) * 1)) x1), (List.set x6 (0 + ((Int.toNat x1) * 1)) x2))
  else
    req ((0 : Int) ≤ x2 ∧ (x2 : Int) < ((16 : Nat) : Int)) <|
    req ((0 + ((Int.toNat x2) * 1)) < 16) <|
    req ((0 : Int) ≤ (w64 (x2 + x7)) ∧ ((w64 (x2 + x7)) : Int) < ((16 : Nat) : Int)) <|
    req ((0 + ((Int.toNat (w64 (x2 + x7))) * 1)) < 16) <|
    req ((0 + ((Int.toNat x1) * 1)) < 9) <|
    some (x3, x4, (List.set (List.set x5 (0 + ((Int.toNat x2) * 1)) 0) (0 + ((Int.toNat (w64 (x2 + x7))) * 1)) 0), (List.set x6 (0 + ((Int.toNat x1) * 1)) (-1)))

def f44 (F : Nat) (x1 : List Int) : Option (List Int) :=
  req (x1 ≠ []) <|
  req (List.length ([] : List Int) + List.length x1 ≤ 1099511627776) <|
  some (([] : List Int) ++ x1)

def f62 (F : Nat) (x1 : List Int) (x2 : Int) (x3 : Bool) (x4 : List Int) (x5 : List Int) : Option (Int × Bool × (List Int)) :=
  Option.bind (f59 F x2 x3 x4 x5) fun x6 =>
  req ((0 : Int) ≤ 0 ∧ (0 : Int) ≤ x6 ∧ (x6 : Int) ≤ ((16 : Nat) : Int)) <|
  Option.bind (f44 F (List.drop 0 (List.take (0 + (Int.toNat x6)) x1))) fun x7 =>
  req ((0 + (Int.toNat x6)) ≤ List.length x1) <|
  some (x2, x3, (List.drop 0 (List.take (0 + (List.length x7)) x7)))

def f15 (F : Nat) (x1 : Int) (x2 : Bool) (x3 : List Int) (x4 : Int) (x5 : Int) : Option (Int × Bool × (List Int) × Int) :=
  Option.bind (f57 F x1 x2 x3) fun
  | .c0 x6 =>
    if (x6 != 0) = true then
      some (0, false, ([] : List Int), x6)
    else
      none
  | .c1 x7 x8 x9 x10 x11 =>
    if (x7 != 0) = true then
      some (0, false, ([] : List Int), x7)
    else
      Option.bind (f58 F 1 x4 x8) fun x12 =>
      if x12 = true then
        Option.bind (f59 F x8 x9 x10 x11) fun x13 =>
        Option.bind (f58 F 0 x5 (w64 (x13 - 1))) fun x14 =>
        if x14 = true then
          Option.bind (f60 F x4 x5 x8 x9 x10 x11) fun x15 =>
          if (x15 != 0) = true then
            some (0, false, ([] : List Int), x15)
          else
            Option.bind (f61 F x4 x5 x8 x9 x10 x11) fun (x16, x17, x18, x19) =>
            Option.bind (f62 F x18 x16 x17 x18 x19) fun (x20, x21, x22) =>
            some (x20, x21, x22, 0)
        else
          some (0, false, ([] : List Int), 2)
      else
        some (0, false, ([] : List Int), 2)

inductive f68_R where
  | c0 (a0 : Int)
  | c1 (a0 : Int) (a1 : Int) (a2 : Bool) (a3 : List Int) (a4 : List Int)
def f68 (F : Nat) (x1 : Int) (x2 : Bool) (x3 : List Int) (x4 : Int) : Option f68_R :=
  Option.bind (f57 F x1 x2 x3) fun
  | .c0 x5 =>
    if (x5 != 0) = true then
      some (.c0 x5)
    else
      none
  | .c1 x6 x7 x8 x9 x10 =>
    if (x6 != 0) = true then
      some (.c0 x6)
    else
      Option.bind (f58 F 1 x4 x7) fun x11 =>
      if x11 = true then
        req ((0 : Int) ≤ x4 ∧ (x4 : Int) < ((9 : Nat) : Int)) <|
        Option.bind ((x10)[(0 + ((Int.toNat x4) * 1))]?) fun x12 =>
        if (decide (x12 < 0)) = true then
          some (.c0 12)
        else
          some (.c1 0 x7 x8 x9 x10)
      else
        some (.c0 2)

def f17 (F : Nat) (x1 : Int) (x2 : Bool) (x3 : List Int) (x4 : Int) : Option (Int × Bool × (List Int) × Int) :=
  Option.bind (f68 F x1 x2 x3 x4) fun
  | .c0 x5 =>
    if (x5 != 0) = true then
      some (0, false, ([] : List Int), x5)
    else
      none
  | .c1 x6 x7 x8 x9 x10 =>
    if (x6 != 0) = true then
      some (0, false, ([] : List Int), x6)
    else
      req ((0 : Int) ≤ x4 ∧ (x4 : Int) < ((9 : Nat) : Int)) <|
      Option.bind ((x10)[(0 + ((Int.toNat x4) * 1))]?) fun x11 =>
      Option.bind (f61 F x4 x11 x7 x8 x9 x10) fun (x12, x13, x14, x15) =>
      Option.bind (f62 F x14 x12 x13 x14 x15) fun (x16, x17, x18) =>
      some (x16, x17, x18, 0)

inductive f59_1_R where
def f59_1 (F : Nat) : Option f59_1_R :=
  none

def f23 (F : Nat) (x1 : Int) (x2 : Bool) (x3 : List Int) (x4 : Int) : Option (Int × Int) :=
  Option.bind (f57 F x1 x2 x3) fun
  | .c0 x5 =>
    if (x5 != 0) = true then
      some (0, x5)
    else
      Option.bind (f59_1 F) fun _ => none
  | .c1 x6 x7 x8 x9 x10 =>
    if (x6 != 0) = true then
      some (0, x6)
    else
      Option.bind (f59 F x7 x8 x9 x10) fun x11 =>
      Option.bind (f58 F 0 x4 (w64 (x11 - 1))) fun x12 =>
      if x12 = true then
        req ((0 : Int) ≤ x4 ∧ (x4 : Int) < ((16 : Nat) : Int)) <|
        Option.bind ((x9)[(0 + ((Int.toNat x4) * 1))]?) fun x13 =>
        if (x13 == 0) = true then
          some (0, 4)
        else
          req ((0 : Int) ≤ x13 ∧ (x13 : Int) < ((9 : Nat) : Int)) <|
          Option.bind ((x10)[(0 + ((Int.toNat x13) * 1))]?) fun x14 =>
          Option.bind (f70 F x13 x7 x8 x9 x10) fun x15 =>
          some ((w64 ((w64 (x14 + x15)) - x4)), 0)
      else
        some (0, 2)

def f44_1 (F : Nat) (x1 : Nat) (x2 : Nat) (x3 : Int) (x4 : Bool) (x5 : List Int) (x6 : List Int) : Option (List Int) :=
  req ((x1 + x2) ≤ List.length x5) <|
  req (List.length ([] : List Int) + List.length (List.drop x1 (List.take (x1 + x2) x5)) ≤ 1099511627776) <|
  some (List.drop 0 (List.take (0 + (List.length (([] : List Int) ++ (List.drop x1 (List.take (x1 + x2) x5))))) (([] : List Int) ++ (List.drop x1 (List.take (x1 + x2) x5)))))

def f25 (F : Nat) (x1 : Int) (x2 : Bool) (x3 : List Int) (x4 : Int) : Option ((List Int) × Int) :=
  Option.bind (f68 F x1 x2 x3 x4) fun
  | .c0 x5 =>
    if (x5 != 0) = true then
      some (([] : List Int), x5)
    else
      none
  | .c1 x6 x7 x8 x9 x10 =>
    if (x6 != 0) = true then
      some (([] : List Int), x6)
    else
      req ((0 : Int) ≤ x4 ∧ (x4 : Int) < ((9 : Nat) : Int)) <|
      Option.bind ((x10)[(0 + ((Int.toNat x4) * 1))]?) fun x11 =>
      Option.bind (f70 F x4 x7 x8 x9 x10) fun x12 =>
      req ((0 : Int) ≤ (w64 (x11 + 1)) ∧ ((w64 (x11 + 1)) : Int) ≤ x12 ∧ (x12 : Int) ≤ ((16 : Nat) : Int)) <|
      Option.bind (f44_1 F (Int.toNat (w64 (x11 + 1))) ((Int.toNat x12) - (Int.toNat (w64 (x11 + 1)))) x7 x8 x9 x10) fun x13 =>
      some (x13, 0)

def f27_p6_1 (F : Nat) (x4 : Int) (x11 : Int) (x12 : Int) (x18 : List Int) (x19 : Int) (x22 : Bool) (x23 : Bool) (x7 : Int) (x8 : Bool) (x9 : List Int) (x10 : List Int) : Option (List Int) :=
  if (x22 == x23) = true then
    some x18
  else
    req (List.length x18 + List.length ([x19] : List Int) ≤ 1099511627776) <|
    some (x18 ++ ([x19] : List Int))
def f27_p2 (F : Nat) (x4 : Int) (x11 : Int) (x12 : Int) (x7 : Int) (x8 : Bool) (x9 : List Int) (x10 : List Int) : Nat → Int → (List Int) → Option (List Int)
  | 0, _, _ => none
  | k + 1, x19, x18 =>
    if (decide (x19 ≤ x7)) = true then
      req ((0 : Int) ≤ x19 ∧ (x19 : Int) < ((9 : Nat) : Int)) <|
      Option.bind ((x10)[(0 + ((Int.toNat x19) * 1))]?) fun x20 =>
      if (decide (x20 < 0)) = true then
        f27_p2 F x4 x11 x12 x7 x8 x9 x10 k (w64 (x19 + 1)) x18
      else
      if (x19 == x4) = true then
        f27_p2 F x4 x11 x12 x7 x8 x9 x10 k (w64 (x19 + 1)) x18
      else
        Option.bind (f70 F x19 x7 x8 x9 x10) fun x21 =>
        Option.bind (f58 F x11 x20 x12) fun x22 =>
        Option.bind (f58 F x11 x21 x12) fun x23 =>
        Option.bind (f27_p6_1 F x4 x11 x12 x18 x19 x22 x23 x7 x8 x9 x10) fun x24 =>
        f27_p2 F x4 x11 x12 x7 x8 x9 x10 k (w64 (x19 + 1)) x24
    else
      some x18
def f27 (F : Nat) (x1 : Int) (x2 : Bool) (x3 : List Int) (x4 : Int) : Option ((List Int) × Int) :=
  Option.bind (f68 F x1 x2 x3 x4) fun
  | .c0 x5 =>
    if (x5 != 0) = true then
      some (([] : List Int), x5)
    else
      none
  | .c1 x6 x7 x8 x9 x10 =>
    if (x6 != 0) = true then
      some (([] : List Int), x6)
    else
      req ((0 : Int) ≤ x4 ∧ (x4 : Int) < ((9 : Nat) : Int)) <|
      Option.bind ((x10)[(0 + ((Int.toNat x4) * 1))]?) fun x11 =>
      Option.bind (f70 F x4 x7 x8 x9 x10) fun x12 =>
      Option.bind (f27_p2 F x4 x11 x12 x7 x8 x9 x10 F 1 ([] : List Int)) fun x25 =>
      some ((List.drop 0 (List.take (0 + (List.length x25)) x25)), 0)

inductive f72_R where
def f72 (F : Nat) (x1 : Int) (x2 : Bool) (x3 : List Int) : Option f72_R :=
  none

def f79 (F : Nat) (x1 : Int) : Option Bool :=
  some (x1 != x1)

def f75 (F : Nat) (x1 : Int) (x2 : Int) : Option Int :=
  Option.bind (f79 F x1) fun x3 =>
  Option.bind (f79 F x2) fun x4 =>
  if x3 = true then
    if x4 = true then
      some 0
    else
      some (-1)
  else
  if x4 = true then
    some 1
  else
  if (decide (x1 < x2)) = true then
    some (-1)
  else
  if (decide (x1 > x2)) = true then
    some 1
  else
    some 0

inductive f42_p1_R where
  | c0 (a0 : Int)
  | c1
def f42_p1 (F : Nat) (x1 : List Int) (x2 : List Int) : Nat → Int → Option f42_p1_R
  | 0, _ => none
  | k + 1, x3 =>
    if (decide (x3 < ((List.length x1 : Nat) : Int))) = true then
      Option.bind (at? x1 x3) fun x4 =>
      if (decide (x3 ≥ ((List.length x2 : Nat) : Int))) = true then
        some (.c0 1)
      else
        Option.bind (at? x2 x3) fun x5 =>
        Option.bind (f75 F x4 x5) fun x6 =>
        if (x6 != 0) = true then
          some (.c0 x6)
        else
          f42_p1 F x1 x2 k (w64 (x3 + 1))
    else
      some .c1
def f42 (F : Nat) (x1 : List Int) (x2 : List Int) : Option Int :=
  Option.bind (f42_p1 F x1 x2 F 0) fun
  | .c0 x7 =>
    some x7
  | .c1 =>
    if (decide (((List.length x1 : Nat) : Int) < ((List.length x2 : Nat) : Int))) = true then
      some (-1)
    else
      some 0

def f33_y0 (F : Nat) (x1 : List Int) (x2 : Int) (x3 : Bool) (x4 : List Int) (x5 : List Int) (x6 : Int) (x7 : Bool) (x8 : List Int) : Option (List Int) :=
  if (eqL x8 [0, 0, 0, 0, 0, 0, 0, 0, 0, 0, 0, 0, 0, 0, 0, 0]) = true then
    some x1
  else
    Option.bind (f42 F (List.drop 0 (List.take 16 x1)) (List.drop 0 (List.take 16 x8))) fun x9 =>
    req (16 ≤ List.length x1) <|
    req (16 ≤ List.length x8) <|
    if (decide (x9 < 0)) = true then
      some x1
    else
      some x8

def f78_p1 (F : Nat) (x2 : Int) (x3 : Bool) (x4 : List Int) (x5 : List Int) (x6 : Int) (x7 : Bool) (x8 : List Int) : Nat → Int → Option Int
  | 0, _ => none
  | k + 1, x9 =>
    if (decide (x9 > 0)) = true then
      req ((0 : Int) ≤ x9 ∧ (x9 : Int) < ((9 : Nat) : Int)) <|
      Option.bind ((x5)[(0 + ((Int.toNat x9) * 1))]?) fun x10 =>
      if (decide (x10 ≥ 0)) = true then
        f78_p1 F x2 x3 x4 x5 x6 x7 x8 k (w64 (x9 - 1))
      else
        some x9
    else
      some x9
inductive f78_p6_R where
  | c0 (a0 : Int) (a1 : Bool) (a2 : List Int) (a3 : List Int) (a4 : List Int)
  | c1 (a0 : Int) (a1 : Bool) (a2 : List Int) (a3 : List Int) (a4 : List Int)
def f78_p6 (F : Nat) (rec : Int → Int → Bool → (List Int) → (List Int) → Int → Bool → (List Int) → Option (Bool × Int × Bool × (List Int) × (List Int) × (List Int))) (x11 : Int) (x13 : Int) (x6 : Int) (x7 : Bool) : Nat → Int → Int → Bool → (List Int) → (List Int) → (List Int) → Option f78_p6_R
  | 0, _, _, _, _, _, _ => none
  | k + 1, x30, x31, x32, x33, x34, x35 =>
    if (decide (x30 < x13)) = true then
      Option.bind (f60 F x11 x30 x31 x32 x33 x34) fun x36 =>
      if (x36 != 0) = true then
        f78_p6 F rec x11 x13 x6 x7 k (w64 (x30 + 1)) x31 x32 x33 x34 x35
      else
        Option.bind (f61 F x11 x30 x31 x32 x33 x34) fun (x37, x38, x39, x40) =>
        Option.bind (rec (w64 (x11 - 1)) x37 x38 x39 x40 x6 x7 x35) fun (x41, x42, x43, x44, x45, x46) =>
        Option.bind (f61 F x11 x30 x42 x43 x44 x45) fun (x47, x48, x49, x50) =>
        if x41 = true then
          f78_p6 F rec x11 x13 x6 x7 k (w64 (x30 + 1)) x47 x48 x49 x50 x46
        else
          some (.c0 x47 x48 x49 x50 x46)
    else
      some (.c1 x31 x32 x33 x34 x35)
def f78_b (F : Nat) (rec : Int → Int → Bool → (List Int) → (List Int) → Int → Bool → (List Int) → Option (Bool × Int × Bool × (List Int) × (List Int) × (List Int))) (x1 : Int) (x2 : Int) (x3 : Bool) (x4 : List Int) (x5 : List Int) (x6 : Int) (x7 : Bool) (x8 : List Int) : Option (Bool × Int × Bool × (List Int) × (List Int) × (List Int)) :=
  Option.bind (f78_p1 F x2 x3 x4 x5 x6 x7 x8 F x1) fun x11 =>
  if (x11 == 0) = true then
    Option.bind (f33_y0 F x4 x2 x3 x4 x5 x6 x7 x8) fun x12 =>
    some (true, x2, x3, x4, x5, x12)
  else
    Option.bind (f59 F x2 x3 x4 x5) fun x13 =>
    Option.bind (f78_p6 F rec x11 x13 x6 x7 F 0 x2 x3 x4 x5 x8) fun
    | .c0 x51 x52 x53 x54 x55 =>
      some (false, x51, x52, x53, x54, x55)
    | .c1 x56 x57 x58 x59 x60 =>
      some (true, x56, x57, x58, x59, x60)
def f78 (F : Nat) : Nat → Int → Int → Bool → (List Int) → (List Int) → Int → Bool → (List Int) → Option (Bool × Int × Bool × (List Int) × (List Int) × (List Int))
  | 0 => fun _ _ _ _ _ _ _ _ => none
  | k + 1 => f78_b F (f78 F k)

def f72_1 (F : Nat) (x1 : Int) (x2 : Bool) (x3 : List Int) (x4 : List Int) (x5 : Int) (x6 : Bool) (x7 : List Int) : Option (Int × Bool × (List Int) × (List Int) × (List Int)) :=
  Option.bind (f78 F F x1 x1 x2 x3 x4 x5 x6 x7) fun (x8, x9, x10, x11, x12, x13) =>
  some (x9, x10, x11, x12, x13)

def f33 (F : Nat) (x1 : Int) (x2 : Bool) (x3 : List Int) : Option (Int × Bool × (List Int) × Int) :=
  Option.bind (f57 F x1 x2 x3) fun
  | .c0 x4 =>
    if (x4 != 0) = true then
      some (0, false, ([] : List Int), x4)
    else
      Option.bind (f72 F 0 false (List.replicate 16 0)) fun _ => none
  | .c1 x5 x6 x7 x8 x9 =>
    if (x5 != 0) = true then
      some (0, false, ([] : List Int), x5)
    else
      Option.bind (f72_1 F x6 x7 x8 x9 0 false (List.replicate 16 0)) fun (x10, x11, x12, x13, x14) =>
      if (eqL x14 [0, 0, 0, 0, 0, 0, 0, 0, 0, 0, 0, 0, 0, 0, 0, 0]) = true then
        some (0, false, ([] : List Int), 12)
      else
        Option.bind (f62 F x14 x10 x11 x12 x13) fun (x15, x16, x17) =>
        some (x15, x16, x17, 0)

inductive f72_2_R where
def f72_2 (F : Nat) (x1 : Int) : Option f72_2_R :=
  none

def f35_y0 (F : Nat) (x1 : List Int) (x2 : Int) (x3 : Bool) (x4 : List Int) (x5 : List Int) (x6 : Int) : Option Int :=
  some (w64 (x6 + 1))

def f78_1_p1 (F : Nat) (x2 : Int) (x3 : Bool) (x4 : List Int) (x5 : List Int) (x6 : Int) : Nat → Int → Option Int
  | 0, _ => none
  | k + 1, x7 =>
    if (decide (x7 > 0)) = true then
      req ((0 : Int) ≤ x7 ∧ (x7 : Int) < ((9 : Nat) : Int)) <|
      Option.bind ((x5)[(0 + ((Int.toNat x7) * 1))]?) fun x8 =>
      if (decide (x8 ≥ 0)) = true then
        f78_1_p1 F x2 x3 x4 x5 x6 k (w64 (x7 - 1))
      else
        some x7
    else
      some x7
inductive f78_1_p6_R where
  | c0 (a0 : Int) (a1 : Bool) (a2 : List Int) (a3 : List Int) (a4 : Int)
  | c1 (a0 : Int) (a1 : Bool) (a2 : List Int) (a3 : List Int) (a4 : Int)
def f78_1_p6 (F : Nat) (rec : Int → Int → Bool → (List Int) → (List Int) → Int → Option (Bool × Int × Bool × (List Int) × (List Int) × Int)) (x9 : Int) (x11 : Int) : Nat → Int → Int → Bool → (List Int) → (List Int) → Int → Option f78_1_p6_R
  | 0, _, _, _, _, _, _ => none
  | k + 1, x28, x29, x30, x31, x32, x33 =>
    if (decide (x28 < x11)) = true then
      Option.bind (f60 F x9 x28 x29 x30 x31 x32) fun x34 =>
      if (x34 != 0) = true then
        f78_1_p6 F rec x9 x11 k (w64 (x28 + 1)) x29 x30 x31 x32 x33
      else
        Option.bind (f61 F x9 x28 x29 x30 x31 x32) fun (x35, x36, x37, x38) =>
        Option.bind (rec (w64 (x9 - 1)) x35 x36 x37 x38 x33) fun (x39, x40, x41, x42, x43, x44) =>
        Option.bind (f61 F x9 x28 x40 x41 x42 x43) fun (x45, x46, x47, x48) =>
        if x39 = true then
          f78_1_p6 F rec x9 x11 k (w64 (x28 + 1)) x45 x46 x47 x48 x44
        else
          some (.c0 x45 x46 x47 x48 x44)
    else
      some (.c1 x29 x30 x31 x32 x33)
def f78_1_b (F : Nat) (rec : Int → Int → Bool → (List Int) → (List Int) → Int → Option (Bool × Int × Bool × (List Int) × (List Int) × Int)) (x1 : Int) (x2 : Int) (x3 : Bool) (x4 : List Int) (x5 : List Int) (x6 : Int) : Option (Bool × Int × Bool × (List Int) × (List Int) × Int) :=
  Option.bind (f78_1_p1 F x2 x3 x4 x5 x6 F x1) fun x9 =>
  if (x9 == 0) = true then
    Option.bind (f35_y0 F x4 x2 x3 x4 x5 x6) fun x10 =>
    some (true, x2, x3, x4, x5, x10)
  else
    Option.bind (f59 F x2 x3 x4 x5) fun x11 =>
    Option.bind (f78_1_p6 F rec x9 x11 F 0 x2 x3 x4 x5 x6) fun
    | .c0 x49 x50 x51 x52 x53 =>
      some (false, x49, x50, x51, x52, x53)
    | .c1 x54 x55 x56 x57 x58 =>
      some (true, x54, x55, x56, x57, x58)
def f78_1 (F : Nat) : Nat → Int → Int → Bool → (List Int) → (List Int) → Int → Option (Bool × Int × Bool × (List Int) × (List Int) × Int)
  | 0 => fun _ _ _ _ _ _ => none
  | k + 1 => f78_1_b F (f78_1 F k)

def f72_3 (F : Nat) (x1 : Int) (x2 : Bool) (x3 : List Int) (x4 : List Int) (x5 : Int) : Option (Int × Bool × (List Int) × (List Int) × Int) :=
  Option.bind (f78_1 F F x1 x1 x2 x3 x4 x5) fun (x6, x7, x8, x9, x10, x11) =>
  some (x7, x8, x9, x10, x11)

def f35 (F : Nat) (x1 : Int) (x2 : Bool) (x3 : List Int) : Option (Int × Int) :=
  Option.bind (f57 F x1 x2 x3) fun
  | .c0 x4 =>
    if (x4 != 0) = true then
      some (0, x4)
    else
      Option.bind (f72_2 F 0) fun _ => none
  | .c1 x5 x6 x7 x8 x9 =>
    if (x5 != 0) = true then
      some (0, x5)
    else
      Option.bind (f72_3 F x6 x7 x8 x9 0) fun (x10, x11, x12, x13, x14) =>
      some (x14, 0)

def f44_2 (F : Nat) (x1 : List Int) : Option (List Int) :=
  req (x1 ≠ []) <|
  req (List.length ([] : List Int) + List.length x1 ≤ 1099511627776) <|
  some (([] : List Int) ++ x1)

def f62_1 (F : Nat) (x1 : List Int) (x2 : Int) (x3 : Bool) (x4 : List Int) (x5 : List Int) : Option (Int × Bool × (List Int)) :=
  Option.bind (f59 F x2 x3 x4 x5) fun x6 =>
  req ((0 : Int) ≤ 0 ∧ (0 : Int) ≤ x6 ∧ (x6 : Int) ≤ ((16 : Nat) : Int)) <|
  Option.bind (f44_2 F (List.drop 0 (List.take (0 + (Int.toNat x6)) x1))) fun x7 =>
  req ((0 + (Int.toNat x6)) ≤ List.length x1) <|
  some (x2, x3, x7)

def f76_p1 (F : Nat) (x1 : Nat) (x2 : Nat) : Nat → Int → Int → (List Int) → Option (List Int)
  | 0, _, _, _ => none
  | k + 1, x9, x10, x8 =>
    if (decide (x9 < x10)) = true then
      req ((0 : Int) ≤ x10 ∧ (x10 : Int) < ((x2 : Nat) : Int)) <|
      Option.bind ((x8)[(x1 + (Int.toNat x10))]?) fun x11 =>
      req ((0 : Int) ≤ x9 ∧ (x9 : Int) < ((x2 : Nat) : Int)) <|
      Option.bind ((x8)[(x1 + (Int.toNat x9))]?) fun x12 =>
      req ((x1 + (Int.toNat x9)) < List.length x8) <|
      req ((x1 + (Int.toNat x10)) < List.length (List.set x8 (x1 + (Int.toNat x9)) x11)) <|
      f76_p1 F x1 x2 k (w64 (x9 + 1)) (w64 (x10 - 1)) (List.set (List.set x8 (x1 + (Int.toNat x9)) x11) (x1 + (Int.toNat x10)) x12)
    else
      some x8
def f76 (F : Nat) (x1 : Nat) (x2 : Nat) (x3 : List Int) : Option (List Int) :=
  Option.bind (f76_p1 F x1 x2 F 0 (w64 (((x2 : Nat) : Int) - 1)) x3) fun x13 =>
  some x13

def f47 (F : Nat) (x1 : Int) (x2 : Bool) (x3 : List Int) : Option (Int × Bool × (List Int) × Int) :=
  Option.bind (f57 F x1 x2 x3) fun
  | .c0 x4 =>
    if (x4 != 0) = true then
      some (0, false, ([] : List Int), x4)
    else
      none
  | .c1 x5 x6 x7 x8 x9 =>
    if (x5 != 0) = true then
      some (0, false, ([] : List Int), x5)
    else
      Option.bind (f62_1 F x8 x6 x7 x8 x9) fun (x10, x11, x12) =>
      Option.bind (f76 F 0 (List.length x12) x12) fun x13 =>
      req ((0 + (List.length x12)) ≤ List.length x13) <|
      some (x10, x11, (List.drop 0 (List.take (0 + (List.length x12)) x13)), 0)

def f55 (F : Nat) (x1 : List Int) : Option (List Int) :=
  some x1

inductive f22_p2_R where
  | c0
  | c1
def f22_p2 (F : Nat) (x1 : List Int) (x2 : List Int) : Nat → Int → Option f22_p2_R
  | 0, _ => none
  | k + 1, x3 =>
    if (decide (x3 < ((List.length x1 : Nat) : Int))) = true then
      Option.bind (at? x1 x3) fun x4 =>
      Option.bind (at? x2 x3) fun x5 =>
      if (x4 != x5) = true then
        some .c0
      else
        f22_p2 F x1 x2 k (w64 (x3 + 1))
    else
      some .c1
def f22 (F : Nat) (x1 : List Int) (x2 : List Int) : Option Bool :=
  if (((List.length x1 : Nat) : Int) != ((List.length x2 : Nat) : Int)) = true then
    some false
  else
    Option.bind (f22_p2 F x1 x2 F 0) fun
    | .c0 =>
      some false
    | .c1 =>
      some true

def f14 (F : Nat) : Option Bool :=
  Option.bind (f54 F) fun (x1, x2, x3) =>
  Option.bind (f48 F x1 x2 x3) fun (x4, x5) =>
  Option.bind (f29 F 3 false) fun (x6, x7) =>
  Option.bind (f31 F 4 false) fun (x8, x9) =>
  Option.bind (f53 F) fun (x10, x11, x12) =>
  Option.bind (f19 F x10 x11 x12 2) fun (x13, x14) =>
  Option.bind (f53 F) fun (x15, x16, x17) =>
  Option.bind (f15 F x15 x16 x17 4 3) fun (x18, x19, x20, x21) =>
  Option.bind (f54 F) fun (x22, x23, x24) =>
  Option.bind (f17 F x22 x23 x24 2) fun (x25, x26, x27, x28) =>
  Option.bind (f54 F) fun (x29, x30, x31) =>
  Option.bind (f23 F x29 x30 x31 5) fun (x32, x33) =>
  if (x5 != 0) = true then
    none
  else
  if (x7 != 0) = true then
    none
  else
  if (x9 != 0) = true then
    none
  else
  if (x14 != 0) = true then
    none
  else
  if (x21 != 0) = true then
    none
  else
  if (x28 != 0) = true then
    none
  else
  if (x33 != 0) = true then
    none
  else
    Option.bind (f54 F) fun (x34, x35, x36) =>
    Option.bind (f25 F x34 x35 x36 3) fun (x37, x38) =>
    Option.bind (f54 F) fun (x39, x40, x41) =>
    Option.bind (f27 F x39 x40 x41 2) fun (x42, x43) =>
    Option.bind (f53 F) fun (x44, x45, x46) =>
    Option.bind (f33 F x44 x45 x46) fun (x47, x48, x49, x50) =>
    Option.bind (f56 F true ([0, 0, 0, 0, 0, 0] : List Int)) fun (x51, x52, x53) =>
    Option.bind (f35 F x51 x52 x53) fun (x54, x55) =>
    Option.bind (f54 F) fun (x56, x57, x58) =>
    Option.bind (f47 F x56 x57 x58) fun (x59, x60, x61, x62) =>
    Option.bind (f56 F true ([0, 0, 0, 0] : List Int)) fun (x63, x64, x65) =>
    Option.bind (f33 F x63 x64 x65) fun (x66, x67, x68, x69) =>
    Option.bind (f31 F 3 false) fun (x70, x71) =>
    if (x38 == 0) = true then
      if (x43 == 0) = true then
        if (x50 == 0) = true then
          if (x55 == 0) = true then
            if (x62 == 0) = true then
              if (x69 == 12) = true then
                if (x71 == 12) = true then
                  if x4 = true then
                    if x6 = true then
                      none
                    else
                    if (x8 == 9) = true then
                      Option.bind (f55 F ([1, 4] : List Int)) fun x72 =>
                      Option.bind (f22 F x13 x72) fun x73 =>
                      if x73 = true then
                        Option.bind (f55 F ([0, 0, 3, 4, 0, 3, 0, 4] : List Int)) fun x74 =>
                        Option.bind (f22 F x20 x74) fun x75 =>
                        if x75 = true then
                          Option.bind (f55 F ([0, 3, 1, 0, 1, 3] : List Int)) fun x76 =>
                          Option.bind (f22 F x27 x76) fun x77 =>
                          if x77 = true then
                            if (x32 == 1) = true then
                              Option.bind (f55 F ([1, 2, 1] : List Int)) fun x78 =>
                              Option.bind (f22 F x37 x78) fun x79 =>
                              if x79 = true then
                                Option.bind (f55 F ([1, 3] : List Int)) fun x80 =>
                                Option.bind (f22 F x42 x80) fun x81 =>
                                if x81 = true then
                                  Option.bind (f55 F ([1, 1, 3, 4, 2, 3, 2, 4] : List Int)) fun x82 =>
                                  Option.bind (f22 F x49 x82) fun x83 =>
                                  if x83 = true then
                                    if (x54 == 2) = true then
                                      Option.bind (f55 F ([3, 1, 2, 1, 3, 2] : List Int)) fun x84 =>
                                      Option.bind (f22 F x61 x84) fun x85 =>
                                      some x85
                                    else
                                      none
                                  else
                                    none
                                else
                                  none
                              else
                                none
                            else
                              none
                          else
                            none
                        else
                          none
                      else
                        none
                    else
                      none
                  else
                    none
                else
                  none
              else
                none
            else
              none
          else
            none
        else
          none
      else
        none
    else
      none

def f37 (F : Nat) (x1 : Int) (x2 : Bool) : Option Int :=
  if x2 = true then
    some (w64 (x1 + 1))
  else
    some x1

inductive f42_1_p1_R where
  | c0 (a0 : Int)
  | c1
def f42_1_p1 (F : Nat) (x1 : List Int) (x2 : Option (List Int)) : Nat → Int → Option f42_1_p1_R
  | 0, _ => none
  | k + 1, x3 =>
    if (decide (x3 < ((List.length x1 : Nat) : Int))) = true then
      Option.bind (at? x1 x3) fun x4 =>
      if (decide (x3 ≥ ((List.length ((x2).getD []) : Nat) : Int))) = true then
        some (.c0 1)
      else
        Option.bind (at? ((x2).getD []) x3) fun x5 =>
        Option.bind (f75 F x4 x5) fun x6 =>
        if (x6 != 0) = true then
          some (.c0 x6)
        else
          f42_1_p1 F x1 x2 k (w64 (x3 + 1))
    else
      some .c1
def f42_1 (F : Nat) (x1 : List Int) (x2 : Option (List Int)) : Option Int :=
  Option.bind (f42_1_p1 F x1 x2 F 0) fun
  | .c0 x7 =>
    some x7
  | .c1 =>
    if (decide (((List.length x1 : Nat) : Int) < ((List.length ((x2).getD []) : Nat) : Int))) = true then
      some (-1)
    else
      some 0

inductive f22_1_p2_R where
  | c0
  | c1
def f22_1_p2 (F : Nat) (x1 : List Int) (x2 : Option (List Int)) : Nat → Int → Option f22_1_p2_R
  | 0, _ => none
  | k + 1, x3 =>
    if (decide (x3 < ((List.length x1 : Nat) : Int))) = true then
      Option.bind (at? x1 x3) fun x4 =>
      Option.bind (at? ((x2).getD []) x3) fun x5 =>
      if (x4 != x5) = true then
        some .c0
      else
        f22_1_p2 F x1 x2 k (w64 (x3 + 1))
    else
      some .c1
def f22_1 (F : Nat) (x1 : List Int) (x2 : Option (List Int)) : Option Bool :=
  if (((List.length x1 : Nat) : Int) != ((List.length ((x2).getD []) : Nat) : Int)) = true then
    some false
  else
    Option.bind (f22_1_p2 F x1 x2 F 0) fun
    | .c0 =>
      some false
    | .c1 =>
      some true

def f43_p4_1 (F : Nat) (x13 : Int) (x14 : Int) (x1 : Int) (x5 : Int) (x15 : Int) (x17 : Int) (x2 : Bool) (x3 : List Int) (x4 : Int) (x12 : List Int) : Option (List Int) :=
  if (x17 == 0) = true then
    req ((0 : Int) ≤ (Int.tmod (w64 (x14)) (((Int.toNat (w64 (2 * (w64 (1 + (Int.tmod (w64 (x1)) x5)))))) : Nat) : Int)) ∧ ((Int.tmod (w64 (x14)) (((Int.toNat (w64 (2 * (w64 (1 + (Int.tmod (w64 (x1)) x5)))))) : Nat) : Int)) : Int) < (((Int.toNat (w64 (2 * (w64 (1 + (Int.tmod (w64 (x1)) x5)))))) : Nat) : Int)) <|
    req ((0 + (Int.toNat (Int.tmod (w64 (x14)) (((Int.toNat (w64 (2 * (w64 (1 + (Int.tmod (w64 (x1)) x5)))))) : Nat) : Int)))) < List.length x12) <|
    req ((0 : Int) ≤ (w64 ((Int.tmod (w64 (x14)) (((Int.toNat (w64 (2 * (w64 (1 + (Int.tmod (w64 (x1)) x5)))))) : Nat) : Int)) + x15)) ∧ ((w64 ((Int.tmod (w64 (x14)) (((Int.toNat (w64 (2 * (w64 (1 + (Int.tmod (w64 (x1)) x5)))))) : Nat) : Int)) + x15)) : Int) < (((Int.toNat (w64 (2 * (w64 (1 + (Int.tmod (w64 (x1)) x5)))))) : Nat) : Int)) <|
    req ((0 + (Int.toNat (w64 ((Int.tmod (w64 (x14)) (((Int.toNat (w64 (2 * (w64 (1 + (Int.tmod (w64 (x1)) x5)))))) : Nat) : Int)) + x15)))) < List.length (List.set x12 (0 + (Int.toNat (Int.tmod (w64 (x14)) (((Int.toNat (w64 (2 * (w64 (1 + (Int.tmod (w64 (x1)) x5)))))) : Nat) : Int)))) x13)) <|
    some (List.set (List.set x12 (0 + (Int.toNat (Int.tmod (w64 (x14)) (((Int.toNat (w64 (2 * (w64 (1 + (Int.tmod (w64 (x1)) x5)))))) : Nat) : Int)))) x13) (0 + (Int.toNat (w64 ((Int.tmod (w64 (x14)) (((Int.toNat (w64 (2 * (w64 (1 + (Int.tmod (w64 (x1)) x5)))))) : Nat) : Int)) + x15)))) x13)
  else
    some x12
def f43_p1 (F : Nat) (x1 : Int) (x2 : Bool) (x3 : List Int) (x4 : Int) (x5 : Int) : Nat → Int → (List Int) → Option (List Int)
  | 0, _, _ => none
  | k + 1, x13, x12 =>
    if (decide (x13 > 0)) = true then
      req ((0 : Int) ≤ (w64 (x13 - 1)) ∧ ((w64 (x13 - 1)) : Int) < ((8 : Nat) : Int)) <|
      Option.bind ((x3)[(0 + ((Int.toNat (w64 (x13 - 1))) * 1))]?) fun x14 =>
      req (((((Int.toNat (w64 (2 * (w64 (1 + (Int.tmod (w64 (x1)) x5)))))) : Nat) : Int) : Int) ≠ 0) <|
      Option.bind (f37 F x13 x2) fun x15 =>
      req ((0 : Int) ≤ (w64 (x13 - 1))) <|
      if ((iAnd .u8 (iShr .u8 x4 (w64 (x13 - 1))) 1) == 1) = true then
        if (decide ((w64 ((Int.tmod (w64 (x14)) (((Int.toNat (w64 (2 * (w64 (1 + (Int.tmod (w64 (x1)) x5)))))) : Nat) : Int)) + x15)) < (((Int.toNat (w64 (2 * (w64 (1 + (Int.tmod (w64 (x1)) x5)))))) : Nat) : Int))) = true then
          req ((0 : Int) ≤ (Int.tmod (w64 (x14)) (((Int.toNat (w64 (2 * (w64 (1 + (Int.tmod (w64 (x1)) x5)))))) : Nat) : Int)) ∧ ((Int.tmod (w64 (x14)) (((Int.toNat (w64 (2 * (w64 (1 + (Int.tmod (w64 (x1)) x5)))))) : Nat) : Int)) : Int) < (((Int.toNat (w64 (2 * (w64 (1 + (Int.tmod (w64 (x1)) x5)))))) : Nat) : Int)) <|
          Option.bind ((x12)[(0 + (Int.toNat (Int.tmod (w64 (x14)) (((Int.toNat (w64 (2 * (w64 (1 + (Int.tmod (w64 (x1)) x5)))))) : Nat) : Int))))]?) fun x16 =>
          if (x16 == 0) = true then
            req ((0 : Int) ≤ (w64 ((Int.tmod (w64 (x14)) (((Int.toNat (w64 (2 * (w64 (1 + (Int.tmod (w64 (x1)) x5)))))) : Nat) : Int)) + x15)) ∧ ((w64 ((Int.tmod (w64 (x14)) (((Int.toNat (w64 (2 * (w64 (1 + (Int.tmod (w64 (x1)) x5)))))) : Nat) : Int)) + x15)) : Int) < (((Int.toNat (w64 (2 * (w64 (1 + (Int.tmod (w64 (x1)) x5)))))) : Nat) : Int)) <|
            Option.bind ((x12)[(0 + (Int.toNat (w64 ((Int.tmod (w64 (x14)) (((Int.toNat (w64 (2 * (w64 (1 + (Int.tmod (w64 (x1)) x5)))))) : Nat) : Int)) + x15))))]?) fun x17 =>
            Option.bind (f43_p4_1 F x13 x14 x1 x5 x15 x17 x2 x3 x4 x12) fun x18 =>
            f43_p1 F x1 x2 x3 x4 x5 k (w64 (x13 - 1)) x18
          else
            f43_p1 F x1 x2 x3 x4 x5 k (w64 (x13 - 1)) x12
        else
          f43_p1 F x1 x2 x3 x4 x5 k (w64 (x13 - 1)) x12
      else
        f43_p1 F x1 x2 x3 x4 x5 k (w64 (x13 - 1)) x12
    else
      some x12
def f43 (F : Nat) (x1 : Int) (x2 : Bool) (x3 : List Int) (x4 : Int) (x5 : Int) : Option (Int × Bool × (List Int)) :=
  req ((x5 : Int) ≠ 0) <|
  req ((0 : Int) ≤ (w64 (2 * (w64 (1 + (Int.tmod (w64 (x1)) x5))))) ∧ ((w64 (2 * (w64 (1 + (Int.tmod (w64 (x1)) x5))))) : Int) ≤ (w64 (2 * (w64 (1 + (Int.tmod (w64 (x1)) x5))))) ∧ ((w64 (2 * (w64 (1 + (Int.tmod (w64 (x1)) x5))))) : Int) ≤ 1099511627776) <|
  Option.bind (f43_p1 F x1 x2 x3 x4 x5 F (w64 (1 + (Int.tmod (w64 (x1)) x5))) (List.replicate (Int.toNat (w64 (2 * (w64 (1 + (Int.tmod (w64 (x1)) x5)))))) (0 : Int))) fun x19 =>
  req ((0 + (Int.toNat (w64 (2 * (w64 (1 + (Int.tmod (w64 (x1)) x5))))))) ≤ List.length x19) <|
  some ((w64 (1 + (Int.tmod (w64 (x1)) x5))), x2, (List.drop 0 (List.take (0 + (Int.toNat (w64 (2 * (w64 (1 + (Int.tmod (w64 (x1)) x5))))))) x19)))

def f44_4 (F : Nat) (x1 : List Int) : Option (List Int) :=
  req (x1 ≠ []) <|
  req (List.length ([] : List Int) + List.length x1 ≤ 1099511627776) <|
  some (([] : List Int) ++ x1)

def f44_5 (F : Nat) (x1 : List Int) : Option (List Int) :=
  req (x1 ≠ []) <|
  req (List.length ([] : List Int) + List.length x1 ≤ 1099511627776) <|
  some (([] : List Int) ++ x1)

def f45_p0 (F : Nat) (x1 : List Int) (x4 : Int) (x2 : Int) (x3 : Option (List Int)) : Option (Option (List Int)) :=
  if (decide (x4 < 0)) = true then
    req (x1 ≠ []) <|
    some (some x1)
  else
    some x3
def f45 (F : Nat) (x1 : List Int) (x2 : Int) (x3 : Option (List Int)) : Option (Int × (Option (List Int))) :=
  if (Option.isNone x3) = true then
    req (x1 ≠ []) <|
    some ((w64 (x2 + 1)), (some x1))
  else
    Option.bind (f42_1 F x1 x3) fun x4 =>
    Option.bind (f45_p0 F x1 x4 x2 x3) fun x5 =>
    some ((w64 (x2 + 1)), x5)

def f38_1_p1 (F : Nat) (x1 : Nat) (x2 : Nat) (x3 : Int) (x4 : Bool) (x5 : Int) (x6 : Option (List Int)) (x7 : List Int) : Nat → Int → Option Int
  | 0, _ => none
  | k + 1, x8 =>
    if (decide (x8 ≤ x3)) = true then
      Option.bind (f46 F (List.drop x1 (List.take (x1 + x2) x7)) x8) fun x9 =>
      req ((x1 + x2) ≤ List.length x7) <|
      if x9 = true then
        f38_1_p1 F x1 x2 x3 x4 x5 x6 x7 k (w64 (x8 + 1))
      else
        some x8
    else
      some x8
def f38_1_p9_1 (F : Nat) (rec : Nat → Nat → Int → Bool → Int → (Option (List Int)) → (List Int) → Option (Int × (Option (List Int)) × (List Int))) (x1 : Nat) (x2 : Nat) (x3 : Int) (x4 : Bool) (x10 : Int) (x27 : Int) (x31 : Int) (x33 : Int) (x28 : Int) (x29 : Option (List Int)) (x26 : List Int) : Option (Int × (Option (List Int)) × (List Int)) :=
  if (x33 == 0) = true then
    req ((0 : Int) ≤ x27 ∧ (x27 : Int) < ((x2 : Nat) : Int)) <|
    req ((x1 + (Int.toNat x27)) < List.length x26) <|
    req ((0 : Int) ≤ (w64 (x27 + x31)) ∧ ((w64 (x27 + x31)) : Int) < ((x2 : Nat) : Int)) <|
    req ((x1 + (Int.toNat (w64 (x27 + x31)))) < List.length (List.set x26 (x1 + (Int.toNat x27)) x10)) <|
    Option.bind (rec x1 x2 x3 x4 x28 x29 (List.set (List.set x26 (x1 + (Int.toNat x27)) x10) (x1 + (Int.toNat (w64 (x27 + x31)))) x10)) fun (x34, x35, x36) =>
    req ((x1 + (Int.toNat x27)) < List.length x36) <|
    req ((x1 + (Int.toNat (w64 (x27 + x31)))) < List.length (List.set x36 (x1 + (Int.toNat x27)) 0)) <|
    some (x34, x35, (List.set (List.set x36 (x1 + (Int.toNat x27)) 0) (x1 + (Int.toNat (w64 (x27 + x31)))) 0))
  else
    some (x28, x29, x26)
def f38_1_p6 (F : Nat) (rec : Nat → Nat → Int → Bool → Int → (Option (List Int)) → (List Int) → Option (Int × (Option (List Int)) × (List Int))) (x1 : Nat) (x2 : Nat) (x3 : Int) (x4 : Bool) (x10 : Int) : Nat → Int → Int → (Option (List Int)) → (List Int) → Option (Int × (Option (List Int)) × (List Int))
  | 0, _, _, _, _ => none
  | k + 1, x27, x28, x29, x26 =>
    Option.bind (f37 F x10 x4) fun x30 =>
    if (decide ((w64 (x27 + x30)) < ((x2 : Nat) : Int))) = true then
      Option.bind (f37 F x10 x4) fun x31 =>
      req ((0 : Int) ≤ x27 ∧ (x27 : Int) < ((x2 : Nat) : Int)) <|
      Option.bind ((x26)[(x1 + (Int.toNat x27))]?) fun x32 =>
      if (x32 == 0) = true then
        req ((0 : Int) ≤ (w64 (x27 + x31)) ∧ ((w64 (x27 + x31)) : Int) < ((x2 : Nat) : Int)) <|
        Option.bind ((x26)[(x1 + (Int.toNat (w64 (x27 + x31))))]?) fun x33 =>
        Option.bind (f38_1_p9_1 F rec x1 x2 x3 x4 x10 x27 x31 x33 x28 x29 x26) fun (x37, x38, x39) =>
        f38_1_p6 F rec x1 x2 x3 x4 x10 k (w64 (x27 + 1)) x37 x38 x39
      else
        f38_1_p6 F rec x1 x2 x3 x4 x10 k (w64 (x27 + 1)) x28 x29 x26
    else
      some (x28, x29, x26)
def f38_1_b (F : Nat) (rec : Nat → Nat → Int → Bool → Int → (Option (List Int)) → (List Int) → Option (Int × (Option (List Int)) × (List Int))) (x1 : Nat) (x2 : Nat) (x3 : Int) (x4 : Bool) (x5 : Int) (x6 : Option (List Int)) (x7 : List Int) : Option (Int × (Option (List Int)) × (List Int)) :=
  Option.bind (f38_1_p1 F x1 x2 x3 x4 x5 x6 x7 F 1) fun x10 =>
  if (decide (x10 > x3)) = true then
    Option.bind (f44_5 F (List.drop x1 (List.take (x1 + x2) x7))) fun x12 =>
    req ((x1 + x2) ≤ List.length x7) <|
    Option.bind (f45 F (List.drop 0 (List.take (0 + (List.length x12)) x12)) x5 x6) fun (x13, x14) =>
    some (x13, x14, x7)
  else
    Option.bind (f38_1_p6 F rec x1 x2 x3 x4 x10 F 0 x5 x6 x7) fun (x40, x41, x42) =>
    some (x40, x41, x42)
def f38_1 (F : Nat) : Nat → Nat → Nat → Int → Bool → Int → (Option (List Int)) → (List Int) → Option (Int × (Option (List Int)) × (List Int))
  | 0 => fun _ _ _ _ _ _ _ => none
  | k + 1 => f38_1_b F (f38_1 F k)

inductive f7_p1_R where
  | c0
  | c1 (a0 : Int) (a1 : Bool) (a2 : List Int)
def f7_p1 (F : Nat) (x14 : Int) (x5 : Int) (x6 : Int) (x24 : Int) (x7 : Bool) (x8 : List Int) (x21 : Int) (x22 : Bool) (x23 : List Int) : Option f7_p1_R :=
  if (x24 == 12) = true then
    Option.bind (f46 F x8 (w64 (1 + (Int.tmod (w64 (x5)) x6)))) fun x25 =>
    if x25 = true then
      some .c0
    else
      some (.c1 x6 x7 x8)
  else
  if (x24 != 0) = true then
    some .c0
  else
    some (.c1 x21 x22 x23)
inductive f7_p6_R where
  | c0
  | c1 (a0 : Int)
def f7_p6 (F : Nat) (x5 : Int) (x6 : Int) (x29 : Int) (x31 : List Int) (x26 : Int) (x27 : Bool) (x28 : List Int) : Nat → Int → Int → Option f7_p6_R
  | 0, _, _ => none
  | k + 1, x33, x34 =>
    if (decide (x34 < ((List.length x31 : Nat) : Int))) = true then
      Option.bind (at? x31 x34) fun x35 =>
      Option.bind (f15 F x26 x27 x28 (w64 (1 + (Int.tmod (w64 (x5)) x6))) x35) fun (x36, x37, x38, x39) =>
      Option.bind (f35 F x36 x37 x38) fun (x40, x41) =>
      if (x39 != 0) = true then
        some .c0
      else
      if (x41 != 0) = true then
        some .c0
      else
      if (decide (x34 > 0)) = true then
        Option.bind (at? x31 (w64 (x34 - 1))) fun x42 =>
        if (decide (x35 ≤ x42)) = true then
          some .c0
        else
          f7_p6 F x5 x6 x29 x31 x26 x27 x28 k (w64 (x33 + x40)) (w64 (x34 + 1))
      else
        f7_p6 F x5 x6 x29 x31 x26 x27 x28 k (w64 (x33 + x40)) (w64 (x34 + 1))
    else
      some (.c1 x33)
inductive f7_p1_1_R where
  | c0
  | c1 (a0 : Int) (a1 : Bool) (a2 : List Int)
def f7_p1_1 (F : Nat) (x14 : Int) (x5 : Int) (x6 : Int) (x49 : Int) (x7 : Bool) (x8 : List Int) (x46 : Int) (x47 : Bool) (x48 : List Int) : Option f7_p1_1_R :=
  if (x49 == 12) = true then
    Option.bind (f46 F x8 (w64 (1 + (Int.tmod (w64 (x5)) x6)))) fun x50 =>
    if x50 = true then
      some .c0
    else
      some (.c1 x6 x7 x8)
  else
  if (x49 != 0) = true then
    some .c0
  else
    some (.c1 x46 x47 x48)
inductive f7_p6_1_R where
  | c0
  | c1 (a0 : Int)
def f7_p6_1 (F : Nat) (x5 : Int) (x6 : Int) (x54 : Int) (x56 : List Int) (x51 : Int) (x52 : Bool) (x53 : List Int) : Nat → Int → Int → Option f7_p6_1_R
  | 0, _, _ => none
  | k + 1, x58, x59 =>
    if (decide (x59 < ((List.length x56 : Nat) : Int))) = true then
      Option.bind (at? x56 x59) fun x60 =>
      Option.bind (f15 F x51 x52 x53 (w64 (1 + (Int.tmod (w64 (x5)) x6))) x60) fun (x61, x62, x63, x64) =>
      Option.bind (f35 F x61 x62 x63) fun (x65, x66) =>
      if (x64 != 0) = true then
        some .c0
      else
      if (x66 != 0) = true then
        some .c0
      else
      if (decide (x59 > 0)) = true then
        Option.bind (at? x56 (w64 (x59 - 1))) fun x67 =>
        if (decide (x60 ≤ x67)) = true then
          some .c0
        else
          f7_p6_1 F x5 x6 x54 x56 x51 x52 x53 k (w64 (x58 + x65)) (w64 (x59 + 1))
      else
        f7_p6_1 F x5 x6 x54 x56 x51 x52 x53 k (w64 (x58 + x65)) (w64 (x59 + 1))
    else
      some (.c1 x58)
def f7 (F : Nat) (x1 : Int) (x2 : Bool) (x3 : List Int) (x4 : Int) (x5 : Int) : Option Bool :=
  Option.bind (f43 F x1 x2 x3 x4 7) fun (x6, x7, x8) =>
  Option.bind (f44_4 F x8) fun x10 =>
  Option.bind (f38_1 F F 0 (List.length x10) x6 x7 0 (none : Option (List Int)) x10) fun (x11, x12, x13) =>
  Option.bind (f35 F x6 x7 x8) fun (x14, x15) =>
  Option.bind (f33 F x6 x7 x8) fun (x16, x17, x18, x19) =>
  if (x15 != 0) = true then
    none
  else
  if (x14 != x11) = true then
    none
  else
  if ((x19 == 0) == (decide (x11 > 0))) = true then
    if (x19 != 0) = true then
      if (x19 != 12) = true then
        none
      else
        Option.bind (f22_1 F x18 x12) fun x20 =>
        if x20 = true then
          req ((x6 : Int) ≠ 0) <|
          Option.bind (f17 F x6 x7 x8 (w64 (1 + (Int.tmod (w64 (x5)) x6)))) fun (x21, x22, x23, x24) =>
          Option.bind (f7_p1 F x14 x5 x6 x24 x7 x8 x21 x22 x23) fun
          | .c0 =>
            none
          | .c1 x26 x27 x28 =>
            Option.bind (f35 F x26 x27 x28) fun (x29, x30) =>
            Option.bind (f19 F x26 x27 x28 (w64 (1 + (Int.tmod (w64 (x5)) x6)))) fun (x31, x32) =>
            if (x30 != 0) = true then
              none
            else
            if (x32 != 0) = true then
              none
            else
            if (decide (x29 < x14)) = true then
              none
            else
            if (decide (((List.length x31 : Nat) : Int) > ((List.length x8 : Nat) : Int))) = true then
              none
            else
              Option.bind (f7_p6 F x5 x6 x29 x31 x26 x27 x28 F 0 0) fun
              | .c0 =>
                none
              | .c1 x43 =>
                if (x43 == x29) = true then
                  Option.bind (f14 F) fun x44 =>
                  some x44
                else
                  none
        else
          none
    else
      Option.bind (f22_1 F x18 x12) fun x45 =>
      if x45 = true then
        req ((x6 : Int) ≠ 0) <|
        Option.bind (f17 F x6 x7 x8 (w64 (1 + (Int.tmod (w64 (x5)) x6)))) fun (x46, x47, x48, x49) =>
        Option.bind (f7_p1_1 F x14 x5 x6 x49 x7 x8 x46 x47 x48) fun
        | .c0 =>
          none
        | .c1 x51 x52 x53 =>
          Option.bind (f35 F x51 x52 x53) fun (x54, x55) =>
          Option.bind (f19 F x51 x52 x53 (w64 (1 + (Int.tmod (w64 (x5)) x6)))) fun (x56, x57) =>
          if (x55 != 0) = true then
            none
          else
          if (x57 != 0) = true then
            none
          else
          if (decide (x54 < x14)) = true then
            none
          else
          if (decide (((List.length x56 : Nat) : Int) > ((List.length x8 : Nat) : Int))) = true then
            none
          else
            Option.bind (f7_p6_1 F x5 x6 x54 x56 x51 x52 x53 F 0 0) fun
            | .c0 =>
              none
            | .c1 x68 =>
              if (x68 == x54) = true then
                Option.bind (f14 F) fun x69 =>
                some x69
              else
                none
      else
        none
  else
    none

end Go.Gh.Fan
