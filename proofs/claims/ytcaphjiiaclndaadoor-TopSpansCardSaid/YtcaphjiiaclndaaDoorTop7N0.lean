/- Top7N0: printed by wip/tool/gx.py -/
import Derived.Test.YtcaphjiiaclndaaDoorGhPl
namespace Go.Gh.Top
set_option linter.unusedVariables false
set_option linter.unusedSimpArgs false

def tab32 : List Int := [0, 1, 28, 2, 29, 14, 24, 3, 30, 22, 20, 15, 25, 17, 4, 8, 31, 27, 13, 23, 21, 19, 16, 7, 26, 12, 18, 6, 11, 5, 10, 9]
def tab64 : List Int := [0, 1, 56, 2, 57, 49, 28, 3, 61, 58, 42, 50, 38, 29, 17, 4, 62, 47, 59, 36, 45, 43, 51, 22, 53, 39, 33, 30, 24, 18, 12, 5, 63, 55, 48, 27, 60, 41, 37, 16, 46, 35, 44, 21, 52, 32, 23, 11, 54, 26, 40, 15, 34, 20, 31, 10, 25, 14, 19, 9, 13, 8, 7, 6]
def str0 : ByteArray := ⟨#[8, 0, 1, 0, 2, 0, 1, 0, 3, 0, 1, 0, 2, 0, 1, 0, 4, 0, 1, 0, 2, 0, 1, 0, 3, 0, 1, 0, 2, 0, 1, 0, 5, 0, 1, 0, 2, 0, 1, 0, 3, 0, 1, 0, 2, 0, 1, 0, 4, 0, 1, 0, 2, 0, 1, 0, 3, 0, 1, 0, 2, 0, 1, 0, 6, 0, 1, 0, 2, 0, 1, 0, 3, 0, 1, 0, 2, 0, 1, 0, 4, 0, 1, 0, 2, 0, 1, 0, 3, 0, 1, 0, 2, 0, 1, 0, 5, 0, 1, 0, 2, 0, 1, 0, 3, 0, 1, 0, 2, 0, 1, 0, 4, 0, 1, 0, 2, 0, 1, 0, 3, 0, 1, 0, 2, 0, 1, 0, 7, 0, 1, 0, 2, 0, 1, 0, 3, 0, 1, 0, 2, 0, 1, 0, 4, 0, 1, 0, 2, 0, 1, 0, 3, 0, 1, 0, 2, 0, 1, 0, 5, 0, 1, 0, 2, 0, 1, 0, 3, 0, 1, 0, 2, 0, 1, 0, 4, 0, 1, 0, 2, 0, 1, 0, 3, 0, 1, 0, 2, 0, 1, 0, 6, 0, 1, 0, 2, 0, 1, 0, 3, 0, 1, 0, 2, 0, 1, 0, 4, 0, 1, 0, 2, 0, 1, 0, 3, 0, 1, 0, 2, 0, 1, 0, 5, 0, 1, 0, 2, 0, 1, 0, 3, 0, 1, 0, 2, 0, 1, 0, 4, 0, 1, 0, 2, 0, 1, 0, 3, 0, 1, 0, 2, 0, 1, 0]⟩
def str1 : ByteArray := ⟨#[0, 1, 1, 2, 1, 2, 2, 3, 1, 2, 2, 3, 2, 3, 3, 4, 1, 2, 2, 3, 2, 3, 3, 4, 2, 3, 3, 4, 3, 4, 4, 5, 1, 2, 2, 3, 2, 3, 3, 4, 2, 3, 3, 4, 3, 4, 4, 5, 2, 3, 3, 4, 3, 4, 4, 5, 3, 4, 4, 5, 4, 5, 5, 6, 1, 2, 2, 3, 2, 3, 3, 4, 2, 3, 3, 4, 3, 4, 4, 5, 2, 3, 3, 4, 3, 4, 4, 5, 3, 4, 4, 5, 4, 5, 5, 6, 2, 3, 3, 4, 3, 4, 4, 5, 3, 4, 4, 5, 4, 5, 5, 6, 3, 4, 4, 5, 4, 5, 5, 6, 4, 5, 5, 6, 5, 6, 6, 7, 1, 2, 2, 3, 2, 3, 3, 4, 2, 3, 3, 4, 3, 4, 4, 5, 2, 3, 3, 4, 3, 4, 4, 5, 3, 4, 4, 5, 4, 5, 5, 6, 2, 3, 3, 4, 3, 4, 4, 5, 3, 4, 4, 5, 4, 5, 5, 6, 3, 4, 4, 5, 4, 5, 5, 6, 4, 5, 5, 6, 5, 6, 6, 7, 2, 3, 3, 4, 3, 4, 4, 5, 3, 4, 4, 5, 4, 5, 5, 6, 3, 4, 4, 5, 4, 5, 5, 6, 4, 5, 5, 6, 5, 6, 6, 7, 3, 4, 4, 5, 4, 5, 5, 6, 4, 5, 5, 6, 5, 6, 6, 7, 4, 5, 5, 6, 5, 6, 6, 7, 5, 6, 6, 7, 6, 7, 7, 8]⟩
inductive f36_p1_R where
 | c0 (a0 : Int)
 | c1
def f36_p1 (F : Nat) (x1 : List Int) (x2 : Int) : Nat → Int → Option f36_p1_R
 | 0, _ => none
 | k + 1, x3 =>
  if (decide (x3 < ((List.length x1 : Nat) : Int))) = true then
   Option.bind (at? x1 x3) fun x4 =>
   if (x2 == x4) = true then
    some (.c0 x3)
   else
    f36_p1 F x1 x2 k (w64 (x3 + 1))
  else
   some .c1
def f36 (F : Nat) (x1 : List Int) (x2 : Int) : Option Int :=
 Option.bind (f36_p1 F x1 x2 F 0) fun
 | .c0 x5 =>
  some x5
 | .c1 =>
  some (-1)

def f65 (F : Nat) (x1 : Int) : Option Bool :=
 if (decide (x1 ≥ 1)) = true then
  some (decide (x1 ≤ 6))
 else
  some false

inductive f102_p1_R where
 | c0 (a0 : Int)
 | c1 (a0 : Int)
def f102_p1 (F : Nat) (x1 : Int) (x2 : List Int) : Nat → Int → Int → Int → Option f102_p1_R
 | 0, _, _, _ => none
 | k + 1, x3, x4, x5 =>
  if (decide (x5 < ((List.length x2 : Nat) : Int))) = true then
   Option.bind (at? x2 x5) fun x6 =>
   if (decide (x6 < 0)) = true then
    some (.c0 2)
   else
   if (decide (x6 ≥ x1)) = true then
    some (.c0 2)
   else
   if (decide (x6 ≤ x4)) = true then
    some (.c0 7)
   else
    req ((0 : Int) ≤ x6) <|
    f102_p1 F x1 x2 k (iOr .u64 x3 (iShl .u64 1 x6)) x6 (w64 (x5 + 1))
  else
   some (.c1 x3)
def f102 (F : Nat) (x1 : Int) (x2 : List Int) : Option (Int × Int) :=
 Option.bind (f102_p1 F x1 x2 F 0 (-1) 0) fun
 | .c0 x7 =>
  some (0, x7)
 | .c1 x8 =>
  some (x8, 0)

def f86 (F : Nat) (x1 : Int) : Option Bool :=
 if (decide (x1 ≥ 1)) = true then
  some (decide (x1 ≤ 8))
 else
  some false

def f104 (F : Nat) (x1 x2 : Int) : Option Bool :=
 req ((0 : Int) ≤ x2) <|
 some ((iAnd .u8 (iShr .u8 x1 x2) 1) == 1)

def f105 (F : Nat) (x1 x2 x3 : Int) (x4 : List Int) : Option (Int × (List Int)) :=
 req ((0 : Int) ≤ x1 ∧ (x1 : Int) < ((8 : Nat) : Int)) <|
 Option.bind ((x4)[(0 + ((Int.toNat x1) * 1))]?) fun x5 =>
 req ((0 : Int) ≤ x2) <|
 req ((0 + ((Int.toNat x1) * 1)) < 8) <|
 req ((0 : Int) ≤ x2 ∧ (x2 : Int) < ((8 : Nat) : Int)) <|
 Option.bind (((List.set x4 (0 + ((Int.toNat x1) * 1)) (iOr .u8 x5 (iShl .u8 1 x2))))[(0 + ((Int.toNat x2) * 1))]?) fun x6 =>
 req ((0 : Int) ≤ x1) <|
 req ((0 + ((Int.toNat x2) * 1)) < 8) <|
 some (x3, (List.set (List.set x4 (0 + ((Int.toNat x1) * 1)) (iOr .u8 x5 (iShl .u8 1 x2))) (0 + ((Int.toNat x2) * 1)) (iOr .u8 x6 (iShl .u8 1 x1))))

inductive f70_p2_R where
 | c0 (a0 : Int)
 | c1 (a0 : Int) (a1 : List Int)
def f70_p2 (F : Nat) (x2 : List (Int × (Int × Unit))) (x1 : Int) : Nat → Int → Int → (List Int) → Option f70_p2_R
 | 0, _, _, _ => none
 | k + 1, x12, x13, x14 =>
  if (decide (x12 < ((List.length x2 : Nat) : Int))) = true then
   Option.bind (at? x2 x12) fun x15 =>
   Option.bind (([x15.1, x15.2.1])[0]?) fun x16 =>
   Option.bind (([x15.1, x15.2.1])[1]?) fun x17 =>
   if (decide ((if x17 < x16 then x17 else x16) < 0)) = true then
    some (.c0 2)
   else
   if (decide ((if x17 > x16 then x17 else x16) ≥ x1)) = true then
    some (.c0 2)
   else
   if (decide (x16 ≥ x17)) = true then
    some (.c0 7)
   else
    req ((0 : Int) ≤ x16 ∧ (x16 : Int) < ((8 : Nat) : Int)) <|
    Option.bind ((x14)[(0 + ((Int.toNat x16) * 1))]?) fun x18 =>
    Option.bind (f104 F x18 x17) fun x19 =>
    if x19 = true then
     some (.c0 6)
    else
     Option.bind (f105 F x16 x17 x13 x14) fun (x20, x21) =>
     f70_p2 F x2 x1 k (w64 (x12 + 1)) x20 x21
  else
   some (.c1 x13 x14)
inductive f70_R where
 | c0 (a0 : Int)
 | c1 (a0 : Int) (a1 : Int) (a2 : List Int)
def f70 (F : Nat) (x1 : Int) (x2 : List (Int × (Int × Unit))) : Option f70_R :=
 Option.bind (f86 F x1) fun x3 =>
 if x3 = true then
  Option.bind (f70_p2 F x2 x1 F 0 x1 (List.replicate 8 0)) fun
  | .c0 x22 =>
   some (.c0 x22)
  | .c1 x23 x24 =>
   some (.c1 0 x23 x24)
 else
  some (.c0 1)

inductive f71_p1_R where
def f71_p1 (F : Nat) : Nat → Int → Option f71_p1_R
 | 0, _ => none
 | k + 1, x1 =>
  none
inductive f71_R where
def f71 (F : Nat) : Option f71_R :=
 Option.bind (f71_p1 F F 1) fun _ => none

def f84 (F : Nat) (x1 : Int) : Option Int :=
 req ((0 : Int) ≤ x1 ∧ (x1 : Int) < ((256 : Nat) : Int)) <|
 some (w64 ((strAt str0 x1)))

def f85_p1 (F : Nat) : Nat → Int → (List Int) → Option (List Int)
 | 0, _, _ => none
 | k + 1, x5, x4 =>
  if (x5 != 0) = true then
   Option.bind (f84 F x5) fun x6 =>
   req (List.length x4 + List.length ([x6] : List Int) ≤ 1099511627776) <|
   f85_p1 F k (iAnd .u8 x5 (IntKind.wrap .u8 (x5 - 1))) (x4 ++ ([x6] : List Int))
  else
   some x4
def f85 (F : Nat) (x1 : Int) : Option (List Int) :=
 Option.bind (f85_p1 F F x1 ([] : List Int)) fun x7 =>
 some (List.drop 0 (List.take (0 + (List.length x7)) x7))

inductive f106_p1_R where
 | c0
 | c1
def f106_p1 (F : Nat) (x1 : Int) (x4 : List Int) (x2 : Int) (x3 : List Int) : Nat → Int → Option f106_p1_R
 | 0, _ => none
 | k + 1, x5 =>
  if (decide (x5 < ((List.length x4 : Nat) : Int))) = true then
   Option.bind (at? x4 x5) fun x6 =>
   req ((0 : Int) ≤ x6 ∧ (x6 : Int) < ((8 : Nat) : Int)) <|
   Option.bind ((x3)[(0 + ((Int.toNat x6) * 1))]?) fun x7 =>
   req ((0 : Int) ≤ x6) <|
   if ((iAndNot .u8 x1 x7) != (iShl .u8 1 x6)) = true then
    some .c0
   else
    f106_p1 F x1 x4 x2 x3 k (w64 (x5 + 1))
  else
   some .c1
def f106 (F : Nat) (x1 x2 : Int) (x3 : List Int) : Option Bool :=
 Option.bind (f85 F x1) fun x4 =>
 Option.bind (f106_p1 F x1 x4 x2 x3 F 0) fun
 | .c0 =>
  some false
 | .c1 =>
  some true

def f147 (F : Nat) (x1 : Int) : Option Bool :=
 some (x1 != x1)

def f136 (F : Nat) (x1 x2 : Int) : Option Int :=
 Option.bind (f147 F x1) fun x3 =>
 Option.bind (f147 F x2) fun x4 =>
 if x3 = true then
  if x4 = true then
   some 0
  else
   some (-1)
 else
 if x4 = true then
  some 1
 else
 if (decide (x1 < x2)) = true then
  some (-1)
 else
 if (decide (x1 > x2)) = true then
  some 1
 else
  some 0

inductive f107_p1_R where
 | c0 (a0 : Int)
 | c1
def f107_p1 (F : Nat) (x1 x2 : List Int) : Nat → Int → Option f107_p1_R
 | 0, _ => none
 | k + 1, x3 =>
  if (decide (x3 < ((List.length x1 : Nat) : Int))) = true then
   Option.bind (at? x1 x3) fun x4 =>
   if (decide (x3 ≥ ((List.length x2 : Nat) : Int))) = true then
    some (.c0 1)
   else
    Option.bind (at? x2 x3) fun x5 =>
    Option.bind (f136 F x4 x5) fun x6 =>
    if (x6 != 0) = true then
     some (.c0 x6)
    else
     f107_p1 F x1 x2 k (w64 (x3 + 1))
  else
   some .c1
def f107 (F : Nat) (x1 x2 : List Int) : Option Int :=
 Option.bind (f107_p1 F x1 x2 F 0) fun
 | .c0 x7 =>
  some x7
 | .c1 =>
  if (decide (((List.length x1 : Nat) : Int) < ((List.length x2 : Nat) : Int))) = true then
   some (-1)
  else
   some 0

def f71_1_p4 (F : Nat) (x6 : List Int) (x7 : Int) (x8 : List Int) (x10 x1 : Int) (x2 : List Int) : Option (List Int) :=
 if (decide (x10 < 0)) = true then
  some x8
 else
  some x6
def f71_1_p1 (F : Nat) (x1 : Int) (x2 : List Int) : Nat → (List Int) → Int → Option (List Int)
 | 0, _, _ => none
 | k + 1, x6, x7 =>
  req ((0 : Int) ≤ x1) <|
  if (decide (x7 < (iShl .i64 1 x1))) = true then
   Option.bind (f85 F (IntKind.wrap .u8 (x7))) fun x8 =>
   if (decide (((List.length x8 : Nat) : Int) ≥ ((List.length x6 : Nat) : Int))) = true then
    Option.bind (f106 F (IntKind.wrap .u8 (x7)) x1 x2) fun x9 =>
    if x9 = true then
     if (decide (((List.length x8 : Nat) : Int) > ((List.length x6 : Nat) : Int))) = true then
      f71_1_p1 F x1 x2 k x8 (w64 (x7 + 1))
     else
      Option.bind (f107 F x8 x6) fun x10 =>
      Option.bind (f71_1_p4 F x6 x7 x8 x10 x1 x2) fun x11 =>
      f71_1_p1 F x1 x2 k x11 (w64 (x7 + 1))
    else
     f71_1_p1 F x1 x2 k x6 (w64 (x7 + 1))
   else
    f71_1_p1 F x1 x2 k x6 (w64 (x7 + 1))
  else
   some x6
def f71_1 (F : Nat) (x1 : Int) (x2 : List Int) : Option (List Int) :=
 Option.bind (f71_1_p1 F x1 x2 F ([] : List Int) 1) fun x12 =>
 some x12

def f30 (F : Nat) (x1 : Int) (x2 : List (Int × (Int × Unit))) : Option ((List Int) × Int) :=
 Option.bind (f70 F x1 x2) fun
 | .c0 x3 =>
  if (x3 != 0) = true then
   some (([] : List Int), x3)
  else
   Option.bind (f71 F) fun _ => none
 | .c1 x4 x5 x6 =>
  if (x4 != 0) = true then
   some (([] : List Int), x4)
  else
   Option.bind (f71_1 F x5 x6) fun x7 =>
   some (x7, 0)

def f72_p5_1 (F : Nat) (x1 x2 : Nat) (x3 x4 x20 : Int) (x5 x18 : List Int) : Nat → (List Int) → Option (List Int)
 | 0, _ => none
 | k + 1, x24 =>
  req ((0 : Int) ≤ x20 ∧ (x20 : Int) < (((Int.toNat x4) : Nat) : Int)) <|
  Option.bind ((x24)[(0 + (Int.toNat x20))]?) fun x25 =>
  if (decide (x25 < x3)) = true then
   req ((0 : Int) ≤ x25 ∧ (x25 : Int) < ((x2 : Nat) : Int)) <|
   Option.bind ((x18)[(x1 + (Int.toNat x25))]?) fun x26 =>
   req ((0 : Int) ≤ x20 ∧ (x20 : Int) < ((8 : Nat) : Int)) <|
   Option.bind ((x5)[(0 + ((Int.toNat x20) * 1))]?) fun x27 =>
   if ((iAnd .u8 x26 x27) == 0) = true then
    some x24
   else
    req ((0 + (Int.toNat x20)) < List.length x24) <|
    f72_p5_1 F x1 x2 x3 x4 x20 x5 x18 k (List.set x24 (0 + (Int.toNat x20)) (w64 (x25 + 1)))
  else
   some x24
inductive f72_p1_R where
 | c0 (a0 : List Int)
 | c1 (a0 : List Int) (a1 : List Int)
def f72_p1 (F : Nat) (x1 x2 : Nat) (x3 x4 : Int) (x5 : List Int) : Nat → Int → (List Int) → (List Int) → Option f72_p1_R
 | 0, _, _, _ => none
 | k + 1, x20, x18, x19 =>
  if (decide (x20 < x4)) = true then
   Option.bind (f72_p5_1 F x1 x2 x3 x4 x20 x5 x18 F x19) fun x28 =>
   req ((0 : Int) ≤ x20 ∧ (x20 : Int) < (((Int.toNat x4) : Nat) : Int)) <|
   Option.bind ((x28)[(0 + (Int.toNat x20))]?) fun x29 =>
   if (decide (x29 < x3)) = true then
    req ((0 : Int) ≤ x29 ∧ (x29 : Int) < ((x2 : Nat) : Int)) <|
    Option.bind ((x18)[(x1 + (Int.toNat x29))]?) fun x30 =>
    req ((0 : Int) ≤ x20) <|
    req ((x1 + (Int.toNat x29)) < List.length x18) <|
    f72_p1 F x1 x2 x3 x4 x5 k (w64 (x20 + 1)) (List.set x18 (x1 + (Int.toNat x29)) (iOr .u8 x30 (iShl .u8 1 x20))) x28
   else
    req ((0 + (Int.toNat x20)) < List.length x28) <|
    if (x20 == 0) = true then
     some (.c0 x18)
    else
     req ((0 : Int) ≤ (w64 (x20 - 1)) ∧ ((w64 (x20 - 1)) : Int) < (((Int.toNat x4) : Nat) : Int)) <|
     Option.bind (((List.set x28 (0 + (Int.toNat x20)) 0))[(0 + (Int.toNat (w64 (x20 - 1))))]?) fun x31 =>
     req ((0 : Int) ≤ x31 ∧ (x31 : Int) < ((x2 : Nat) : Int)) <|
     Option.bind ((x18)[(x1 + (Int.toNat x31))]?) fun x32 =>
     req ((0 : Int) ≤ (w64 (x20 - 1))) <|
     req ((x1 + (Int.toNat x31)) < List.length x18) <|
     req ((0 + (Int.toNat (w64 (x20 - 1)))) < List.length (List.set x28 (0 + (Int.toNat x20)) 0)) <|
     f72_p1 F x1 x2 x3 x4 x5 k (w64 (x20 - 1)) (List.set x18 (x1 + (Int.toNat x31)) (iAndNot .u8 x32 (iShl .u8 1 (w64 (x20 - 1))))) (List.set (List.set x28 (0 + (Int.toNat x20)) 0) (0 + (Int.toNat (w64 (x20 - 1)))) (w64 (x31 + 1)))
  else
   some (.c1 x18 x19)
def f72 (F : Nat) (x1 x2 : Nat) (x3 x4 : Int) (x5 x6 : List Int) : Option ((List Int) × Bool × (List Int)) :=
 req ((0 : Int) ≤ x4 ∧ (x4 : Int) ≤ x4 ∧ (x4 : Int) ≤ 1099511627776) <|
 Option.bind (f72_p1 F x1 x2 x3 x4 x5 F 0 x6 (List.replicate (Int.toNat x4) (0 : Int))) fun
 | .c0 x33 =>
  some (([] : List Int), false, x33)
 | .c1 x34 x35 =>
  req ((0 + (Int.toNat x4)) ≤ List.length x35) <|
  some ((List.drop 0 (List.take (0 + (Int.toNat x4)) x35)), true, x34)

inductive f31_p2_R where
def f31_p2 (F : Nat) : Nat → Int → Option f31_p2_R
 | 0, _ => none
 | k + 1, x4 =>
  none
inductive f31_p2_1_R where
 | c0 (a0 : List Int)
 | c1
def f31_p2_1 (F : Nat) (x6 : Int) (x7 : List Int) : Nat → Int → Option f31_p2_1_R
 | 0, _ => none
 | k + 1, x8 =>
  if (decide (x8 < x6)) = true then
   req ((0 : Int) ≤ x8 ∧ (x8 : Int) ≤ x8 ∧ (x8 : Int) ≤ 1099511627776) <|
   Option.bind (f72 F 0 (Int.toNat x8) x8 x6 x7 (List.replicate (Int.toNat x8) (0 : Int))) fun (x9, x10, x11) =>
   if x10 = true then
    some (.c0 x9)
   else
    f31_p2_1 F x6 x7 k (w64 (x8 + 1))
  else
   some .c1
def f31_p7 (F : Nat) (x6 : Int) : Nat → Int → (List Int) → Option (List Int)
 | 0, _, _ => none
 | k + 1, x15, x14 =>
  if (decide (x15 < x6)) = true then
   req (List.length x14 + List.length ([x15] : List Int) ≤ 1099511627776) <|
   f31_p7 F x6 k (w64 (x15 + 1)) (x14 ++ ([x15] : List Int))
  else
   some x14
def f31 (F : Nat) (x1 : Int) (x2 : List (Int × (Int × Unit))) : Option ((List Int) × Int) :=
 Option.bind (f70 F x1 x2) fun
 | .c0 x3 =>
  if (x3 != 0) = true then
   some (([] : List Int), x3)
  else
   Option.bind (f31_p2 F F 1) fun _ => none
 | .c1 x5 x6 x7 =>
  if (x5 != 0) = true then
   some (([] : List Int), x5)
  else
   Option.bind (f31_p2_1 F x6 x7 F 1) fun
   | .c0 x12 =>
    some (x12, 0)
   | .c1 =>
    Option.bind (f31_p7 F x6 F 0 ([] : List Int)) fun x16 =>
    some ((List.drop 0 (List.take (0 + (List.length x16)) x16)), 0)

def f32_p0 (F : Nat) (x1 : List Int) : Option Unit :=
 if (decide (((List.length x1 : Nat) : Int) < 1)) = true then
  none
 else
  some ()
def f32_p2 (F : Nat) (x1 : List Int) : Nat → Int → Int → Option Int
 | 0, _, _ => none
 | k + 1, x3, x4 =>
  if (decide (x4 < ((List.length x1 : Nat) : Int))) = true then
   Option.bind (at? x1 x4) fun x5 =>
   f32_p2 F x1 k (if x5 > x3 then x5 else x3) (w64 (x4 + 1))
  else
   some x3
def f32 (F : Nat) (x1 : List Int) : Option Int :=
 Option.bind (f32_p0 F x1) fun _ =>
 Option.bind (at? x1 0) fun x2 =>
 Option.bind (f32_p2 F x1 F x2 1) fun x6 =>
 some x6

def f16 (F : Nat) (x1 : List Int) : Option (List Int) :=
 some x1

inductive f63_p2_R where
 | c0
 | c1
def f63_p2 (F : Nat) (x1 x2 : List Int) : Nat → Int → Option f63_p2_R
 | 0, _ => none
 | k + 1, x3 =>
  if (decide (x3 < ((List.length x1 : Nat) : Int))) = true then
   Option.bind (at? x1 x3) fun x4 =>
   Option.bind (at? x2 x3) fun x5 =>
   if (x4 != x5) = true then
    some .c0
   else
    f63_p2 F x1 x2 k (w64 (x3 + 1))
  else
   some .c1
def f63 (F : Nat) (x1 x2 : List Int) : Option Bool :=
 if (((List.length x1 : Nat) : Int) != ((List.length x2 : Nat) : Int)) = true then
  some false
 else
  Option.bind (f63_p2 F x1 x2 F 0) fun
  | .c0 =>
   some false
  | .c1 =>
   some true

def f97 (F : Nat) (x1 : Int) : Option Bool :=
 if (decide (x1 ≥ 1)) = true then
  some (decide (x1 ≤ 7))
 else
  some false

def f129 (F : Nat) (x1 : Int) : Option Int :=
 req ((0 : Int) ≤ (iShr .u16 x1 8) ∧ ((iShr .u16 x1 8) : Int) < ((256 : Nat) : Int)) <|
 req ((0 : Int) ≤ (iAnd .u16 x1 255) ∧ ((iAnd .u16 x1 255) : Int) < ((256 : Nat) : Int)) <|
 some (w64 ((IntKind.wrap .u8 ((strAt str1 (iShr .u16 x1 8)) + (strAt str1 (iAnd .u16 x1 255))))))

def f130 (F : Nat) (x1 : List Int) : Option (List Int) :=
 req ((0 : Int) ≤ 0 ∧ (0 : Int) ≤ ((List.length x1 : Nat) : Int) ∧ (((List.length x1 : Nat) : Int) : Int) ≤ ((List.length x1 : Nat) : Int) ∧ ((List.length x1 : Nat) : Int) = ((List.length x1 : Nat) : Int)) <|
 some (List.drop 0 (List.take (List.length x1) x1))

def f99_p2 (F : Nat) (x4 : List Int) (x5 x6 x1 : Int) (x2 : List Int) (x3 : Int) : Option Int :=
 if (decide (((List.length x4 : Nat) : Int) > 0)) = true then
  Option.bind (at? x4 (w64 (((List.length x4 : Nat) : Int) - 1))) fun x8 =>
  some (w64 (x8 + 1))
 else
  some 0
inductive f99_p4_R where
 | c0 (a0 : List Int)
 | c1
def f99_p4 (F : Nat) (rec : Int → (List Int) → Int → (List Int) → Int → Int → Option ((List Int) × Bool)) (x4 : List Int) (x5 x6 x1 : Int) (x2 : List Int) (x3 : Int) : Nat → Int → Option f99_p4_R
 | 0, _ => none
 | k + 1, x10 =>
  if (decide (x10 < ((List.length x2 : Nat) : Int))) = true then
   Option.bind (f130 F x4) fun x11 =>
   req (List.length x11 + List.length ([x10] : List Int) ≤ 1099511627776) <|
   Option.bind (at? x2 x10) fun x12 =>
   Option.bind (rec x1 x2 x3 (x11 ++ ([x10] : List Int)) (iOr .u16 x5 x12) (w64 (x6 - 1))) fun (x13, x14) =>
   if x14 = true then
    some (.c0 x13)
   else
    f99_p4 F rec x4 x5 x6 x1 x2 x3 k (w64 (x10 + 1))
  else
   some .c1
def f99_b (F : Nat) (rec : Int → (List Int) → Int → (List Int) → Int → Int → Option ((List Int) × Bool)) (x1 : Int) (x2 : List Int) (x3 : Int) (x4 : List Int) (x5 x6 : Int) : Option ((List Int) × Bool) :=
 if (x6 == 0) = true then
  some (x4, (x5 == x3))
 else
  Option.bind (f129 F (iAndNot .u16 x3 x5)) fun x7 =>
  if (decide (x7 > (w64 (x6 * (w64 (x1 + 1)))))) = true then
   some (([] : List Int), false)
  else
   Option.bind (f99_p2 F x4 x5 x6 x1 x2 x3) fun x9 =>
   Option.bind (f99_p4 F rec x4 x5 x6 x1 x2 x3 F x9) fun
   | .c0 x15 =>
    some (x15, true)
   | .c1 =>
    some (([] : List Int), false)
def f99 (F : Nat) : Nat → Int → (List Int) → Int → (List Int) → Int → Int → Option ((List Int) × Bool)
 | 0 => fun _ _ _ _ _ _ => none
 | k + 1 => f99_b F (f99 F k)

def f62_p8_2 (F : Nat) (x1 x14 x15 : Int) (x13 : List Int) (x16 : Int) : Nat → Int → Int → Option Int
 | 0, _, _ => none
 | k + 1, x17, x18 =>
  if (decide (x18 < x1)) = true then
   req ((0 : Int) ≤ x18) <|
   req ((0 : Int) ≤ (iXor .i64 x14 (iShl .i64 1 x18))) <|
   f62_p8_2 F x1 x14 x15 x13 x16 k (iOr .u16 x17 (iShl .u16 1 (iXor .i64 x14 (iShl .i64 1 x18)))) (w64 (x18 + 1))
  else
   some x17
def f62_p4 (F : Nat) (x1 : Int) : Nat → Int → Int → Int → (List Int) → Option (Int × Int × (List Int))
 | 0, _, _, _, _ => none
 | k + 1, x14, x15, x16, x13 =>
  if (decide (x14 < (iShl .i64 1 x1))) = true then
   req ((0 : Int) ≤ x14) <|
   Option.bind (f62_p8_2 F x1 x14 x15 x13 x16 F (iShl .u16 1 x14) 0) fun x19 =>
   req (List.length x13 + List.length ([x19] : List Int) ≤ 1099511627776) <|
   f62_p4 F x1 k (w64 (x14 + 1)) x15 x16 (x13 ++ ([x19] : List Int))
  else
   some (x15, x16, x13)
inductive f62_p12_R where
 | c0 (a0 : List Int)
 | c1
def f62_p12 (F : Nat) (x20 : Int) (x22 : List Int) (x21 : Int) : Nat → Int → Option f62_p12_R
 | 0, _ => none
 | k + 1, x26 =>
  if (decide (x26 ≤ ((List.length (List.drop 0 (List.take (0 + (List.length x22)) x22)) : Nat) : Int))) = true then
   Option.bind (f99 F F x20 (List.drop 0 (List.take (0 + (List.length x22)) x22)) x21 ([] : List Int) 0 x26) fun (x27, x28) =>
   if x28 = true then
    some (.c0 x27)
   else
    f62_p12 F x20 x22 x21 k (w64 (x26 + 1))
  else
   some .c1
def f62 (F : Nat) (x1 : Int) : Option ((List Int) × Int) :=
 Option.bind (f97 F x1) fun x2 =>
 if x2 = true then
  if (decide (x1 > 4)) = true then
   some (([] : List Int), 3)
  else
   req ((0 : Int) ≤ x1) <|
   req ((0 : Int) ≤ (iShl .u64 1 x1)) <|
   Option.bind (f62_p4 F x1 F 0 x1 (IntKind.wrap .u16 ((iShl .u16 1 (iShl .u64 1 x1)) - 1)) ([] : List Int)) fun (x20, x21, x22) =>
   Option.bind (f62_p12 F x20 x22 x21 F 1) fun
   | .c0 x29 =>
    some (x29, 0)
   | .c1 =>
    some (([] : List Int), 12)
 else
  some (([] : List Int), 1)

def f131 (F : Nat) (x1 : Int) (x2 : List Int) : Option (Int × Int) :=
 Option.bind (f65 F x1) fun x3 =>
 if x3 = true then
  Option.bind (f102 F x1 x2) fun (x4, x5) =>
  some (x4, x5)
 else
  some (0, 1)

def f128 (F : Nat) (x1 : Int) : Option Int :=
 if (x1 == 0) = true then
  some 64
 else
  Option.bind (at? tab64 (iShr .u64 (IntKind.wrap .u64 ((iAnd .u64 x1 (IntKind.wrap .u64 (0 - x1))) * 285870213051353865)) 58)) fun x2 =>
  some (w64 (x2))

def f98 (F : Nat) (x1 : Int) : Option Int :=
 Option.bind (f128 F x1) fun x2 =>
 some x2

def f142_p1 (F : Nat) : Nat → Int → (List Int) → Option (List Int)
 | 0, _, _ => none
 | k + 1, x5, x4 =>
  if (x5 != 0) = true then
   Option.bind (f98 F x5) fun x6 =>
   req (List.length x4 + List.length ([x6] : List Int) ≤ 1099511627776) <|
   f142_p1 F k (iAnd .u64 x5 (IntKind.wrap .u64 (x5 - 1))) (x4 ++ ([x6] : List Int))
  else
   some x4
def f142 (F : Nat) (x1 : Int) : Option (List Int) :=
 Option.bind (f142_p1 F F x1 ([] : List Int)) fun x7 =>
 some x7

def f143_1 (F : Nat) (x1 x2 : Nat) (x3 x4 : Int) (x5 : List Int) : Option (Nat × Nat × (List Int)) :=
 req ((0 : Int) ≤ x3 ∧ (x3 : Int) ≤ x4 ∧ (x4 : Int) ≤ ((x2 : Nat) : Int) ∧ (((x2 : Nat) : Int) : Int) ≤ ((x2 : Nat) : Int) ∧ 0 < x2) <|
 if (x3 == x4) = true then
  some (x1, x2, x5)
 else
  req ((0 : Int) ≤ 0 ∧ (0 : Int) ≤ x3 ∧ (x3 : Int) ≤ ((x2 : Nat) : Int) ∧ 0 < x2) <|
  req ((0 : Int) ≤ x4 ∧ (x4 : Int) ≤ ((x2 : Nat) : Int) ∧ (((x2 : Nat) : Int) : Int) ≤ ((x2 : Nat) : Int) ∧ 0 < x2) <|
  req (((x1 + (Int.toNat x4)) + (x2 - (Int.toNat x4))) ≤ List.length x5) <|
  req ((((x1 + 0) + (Int.toNat x3)) + List.length (List.drop (x1 + (Int.toNat x4)) (List.take ((x1 + (Int.toNat x4)) + (x2 - (Int.toNat x4))) x5))) ≤ List.length x5) <|
  req ((0 : Int) ≤ ((((Int.toNat x3) + List.length (List.drop (x1 + (Int.toNat x4)) (List.take ((x1 + (Int.toNat x4)) + (x2 - (Int.toNat x4))) x5))) : Nat) : Int) ∧ (((((Int.toNat x3) + List.length (List.drop (x1 + (Int.toNat x4)) (List.take ((x1 + (Int.toNat x4)) + (x2 - (Int.toNat x4))) x5))) : Nat) : Int) : Int) ≤ ((x2 : Nat) : Int) ∧ (((x1 + 0) : Nat) : Int) + ((x2 : Nat) : Int) ≤ ((List.length (List.take ((x1 + 0) + (Int.toNat x3)) x5 ++ (List.drop (x1 + (Int.toNat x4)) (List.take ((x1 + (Int.toNat x4)) + (x2 - (Int.toNat x4))) x5)) ++ List.drop (((x1 + 0) + (Int.toNat x3)) + List.length (List.drop (x1 + (Int.toNat x4)) (List.take ((x1 + (Int.toNat x4)) + (x2 - (Int.toNat x4))) x5))) x5) : Nat) : Int) ∧ 0 < List.length (List.take ((x1 + 0) + (Int.toNat x3)) x5 ++ (List.drop (x1 + (Int.toNat x4)) (List.take ((x1 + (Int.toNat x4)) + (x2 - (Int.toNat x4))) x5)) ++ List.drop (((x1 + 0) + (Int.toNat x3)) + List.length (List.drop (x1 + (Int.toNat x4)) (List.take ((x1 + (Int.toNat x4)) + (x2 - (Int.toNat x4))) x5))) x5)) <|
  req ((((x1 + 0) + (Int.toNat ((((Int.toNat x3) + List.length (List.drop (x1 + (Int.toNat x4)) (List.take ((x1 + (Int.toNat x4)) + (x2 - (Int.toNat x4))) x5))) : Nat) : Int))) + (x2 - (Int.toNat ((((Int.toNat x3) + List.length (List.drop (x1 + (Int.toNat x4)) (List.take ((x1 + (Int.toNat x4)) + (x2 - (Int.toNat x4))) x5))) : Nat) : Int)))) ≤ List.length (List.take ((x1 + 0) + (Int.toNat x3)) x5 ++ (List.drop (x1 + (Int.toNat x4)) (List.take ((x1 + (Int.toNat x4)) + (x2 - (Int.toNat x4))) x5)) ++ List.drop (((x1 + 0) + (Int.toNat x3)) + List.length (List.drop (x1 + (Int.toNat x4)) (List.take ((x1 + (Int.toNat x4)) + (x2 - (Int.toNat x4))) x5))) x5)) <|
  some ((x1 + 0), ((Int.toNat x3) + List.length (List.drop (x1 + (Int.toNat x4)) (List.take ((x1 + (Int.toNat x4)) + (x2 - (Int.toNat x4))) x5))), (List.take ((x1 + 0) + (Int.toNat ((((Int.toNat x3) + List.length (List.drop (x1 + (Int.toNat x4)) (List.take ((x1 + (Int.toNat x4)) + (x2 - (Int.toNat x4))) x5))) : Nat) : Int))) (List.take ((x1 + 0) + (Int.toNat x3)) x5 ++ (List.drop (x1 + (Int.toNat x4)) (List.take ((x1 + (Int.toNat x4)) + (x2 - (Int.toNat x4))) x5)) ++ List.drop (((x1 + 0) + (Int.toNat x3)) + List.length (List.drop (x1 + (Int.toNat x4)) (List.take ((x1 + (Int.toNat x4)) + (x2 - (Int.toNat x4))) x5))) x5) ++ List.replicate (x2 - (Int.toNat ((((Int.toNat x3) + List.length (List.drop (x1 + (Int.toNat x4)) (List.take ((x1 + (Int.toNat x4)) + (x2 - (Int.toNat x4))) x5))) : Nat) : Int))) (0 : Int) ++ List.drop (((x1 + 0) + (Int.toNat ((((Int.toNat x3) + List.length (List.drop (x1 + (Int.toNat x4)) (List.take ((x1 + (Int.toNat x4)) + (x2 - (Int.toNat x4))) x5))) : Nat) : Int))) + (x2 - (Int.toNat ((((Int.toNat x3) + List.length (List.drop (x1 + (Int.toNat x4)) (List.take ((x1 + (Int.toNat x4)) + (x2 - (Int.toNat x4))) x5))) : Nat) : Int)))) (List.take ((x1 + 0) + (Int.toNat x3)) x5 ++ (List.drop (x1 + (Int.toNat x4)) (List.take ((x1 + (Int.toNat x4)) + (x2 - (Int.toNat x4))) x5)) ++ List.drop (((x1 + 0) + (Int.toNat x3)) + List.length (List.drop (x1 + (Int.toNat x4)) (List.take ((x1 + (Int.toNat x4)) + (x2 - (Int.toNat x4))) x5))) x5)))

def f132_p4_1 (F : Nat) (x2 : Int) (x16 x17 : Nat) (x18 x20 : Int) (x15 : List Int) : Option (Nat × Nat × Int × (List Int)) :=
 if ((iAnd .u64 (iShr .u64 x2 x20) 1) == 0) = true then
  Option.bind (f143_1 F x16 x17 (w64 (x18 - 1)) (w64 (x18 + 1)) x15) fun (x21, x22, x23) =>
  some (x21, x22, (if (w64 (x18 - 1)) > 1 then (w64 (x18 - 1)) else 1), x23)
 else
  some (x16, x17, (w64 (x18 + 1)), x15)
def f132_p1 (F : Nat) (x2 : Int) : Nat → Nat → Nat → Int → (List Int) → Option (Nat × Nat × (List Int))
 | 0, _, _, _, _ => none
 | k + 1, x16, x17, x18, x15 =>
  if (decide (x18 < ((x17 : Nat) : Int))) = true then
   req ((0 : Int) ≤ x18 ∧ (x18 : Int) < ((x17 : Nat) : Int)) <|
   Option.bind ((x15)[(x16 + (Int.toNat x18))]?) fun x19 =>
   req ((0 : Int) ≤ x19) <|
   if ((iAnd .u64 (iShr .u64 x2 x19) 1) == 1) = true then
    req ((0 : Int) ≤ (w64 (x18 - 1)) ∧ ((w64 (x18 - 1)) : Int) < ((x17 : Nat) : Int)) <|
    Option.bind ((x15)[(x16 + (Int.toNat (w64 (x18 - 1))))]?) fun x20 =>
    req ((0 : Int) ≤ x20) <|
    Option.bind (f132_p4_1 F x2 x16 x17 x18 x20 x15) fun (x24, x25, x26, x27) =>
    f132_p1 F x2 k x24 x25 x26 x27
   else
    f132_p1 F x2 k x16 x17 (w64 (x18 + 1)) x15
  else
   some (x16, x17, x15)
def f132 (F : Nat) (x1 x2 : Int) : Option (List Int) :=
 req ((0 : Int) ≤ x1) <|
 Option.bind (f142 F (IntKind.wrap .u64 ((iShl .u64 1 x1) - 1))) fun x3 =>
 Option.bind (f132_p1 F x2 F 0 (List.length x3) 1 x3) fun (x28, x29, x30) =>
 req ((x28 + x29) ≤ List.length x30) <|
 some (List.drop x28 (List.take (x28 + x29) x30))

def f100 (F : Nat) (x1 : Int) (x2 : List Int) : Option ((List Int) × Int) :=
 Option.bind (f131 F x1 x2) fun (x3, x4) =>
 if (x4 != 0) = true then
  some (([] : List Int), x4)
 else
  Option.bind (f132 F x1 x3) fun x5 =>
  some (x5, 0)

def f91 (F : Nat) (x1 x2 x3 : Int) : Option Bool :=
 if (decide (x1 ≤ x2)) = true then
  some (decide (x2 ≤ x3))
 else
  some false

def f126_p2 (F : Nat) (x1 x2 : Int) : Nat → Int → Int → Option Int
 | 0, _, _ => none
 | k + 1, x3, x4 =>
  if (decide (x4 < x2)) = true then
   req (((w64 (x4 + 1)) : Int) ≠ 0) <|
   f126_p2 F x1 x2 k (w64 (Int.tdiv (w64 (x3 * (w64 (x1 - x4)))) (w64 (x4 + 1)))) (w64 (x4 + 1))
  else
   some x3
def f126 (F : Nat) (x1 x2 : Int) : Option Int :=
 if (decide (x2 < 0)) = true then
  some 0
 else
  Option.bind (f126_p2 F x1 x2 F 1 0) fun x5 =>
  some x5

def f96 (F : Nat) (x1 x2 x3 : Int) : Option Int :=
 if (decide (x1 < 0)) = true then
  some 0
 else
 if (decide (x2 < 0)) = true then
  some 0
 else
 if (decide (x2 > (w64 (x1 + x3)))) = true then
  some 0
 else
  Option.bind (f126 F (w64 (x1 + x2)) x2) fun x4 =>
  Option.bind (f126 F (w64 (x1 + x2)) (w64 ((w64 (x2 - x3)) - 1))) fun x5 =>
  some (w64 (x4 - x5))

def f58 (F : Nat) (x1 x2 x3 : Int) : Option (Int × Int) :=
 if (decide ((if x2 < x1 then x2 else x1) < 0)) = true then
  some (0, 1)
 else
 if (decide ((if x2 > x1 then x2 else x1) > 16)) = true then
  some (0, 1)
 else
 if (decide ((w64 (x1 + x2)) > 16)) = true then
  some (0, 1)
 else
  Option.bind (f91 F 0 x3 20) fun x4 =>
  if x4 = true then
   Option.bind (f96 F x1 x2 x3) fun x5 =>
   some (x5, 0)
  else
   some (0, 1)

def f21 (F : Nat) (x1 x2 x3 : Int) : Option (Int × Int) :=
 Option.bind (f58 F x1 x2 x3) fun (x4, x5) =>
 some (x4, x5)

def f173 (F : Nat) (x1 x2 x3 : Int) : Option Bool :=
 if (decide (x1 ≤ x2)) = true then
  some (decide (x2 ≤ x3))
 else
  some false

def f172 (F : Nat) (x1 : Int) : Option Bool :=
 Option.bind (f173 F 0 x1 99) fun x2 =>
 some (!x2)

inductive f92_p1_R where
 | c0 (a0 : Int)
 | c1
def f92_p1 (F : Nat) (x1 : List Int) : Nat → Int → Option f92_p1_R
 | 0, _ => none
 | k + 1, x2 =>
  if (decide (x2 < ((List.length x1 : Nat) : Int))) = true then
   Option.bind (at? x1 x2) fun x3 =>
   Option.bind (f172 F x3) fun x4 =>
   if x4 = true then
    some (.c0 x2)
   else
    f92_p1 F x1 k (w64 (x2 + 1))
  else
   some .c1
def f92 (F : Nat) (x1 : List Int) : Option Int :=
 Option.bind (f92_p1 F x1 F 0) fun
 | .c0 x5 =>
  some x5
 | .c1 =>
  some (-1)

def f168 (F : Nat) (x1 : List Int) : Option Bool :=
 Option.bind (f92 F x1) fun x2 =>
 some (decide (x2 ≥ 0))

def f167 (F : Nat) (x1 : List Int) (x2 : Int) : Option Int :=
 if (((List.length x1 : Nat) : Int) != x2) = true then
  some 5
 else
  Option.bind (f168 F x1) fun x3 =>
  if x3 = true then
   some 1
  else
   some 0

inductive f161_p4_R where
 | c0 (a0 : Int)
 | c1
def f161_p4 (F : Nat) (x1 : List (List Int)) : Nat → Int → Option f161_p4_R
 | 0, _ => none
 | k + 1, x3 =>
  if (decide (x3 < ((List.length x1 : Nat) : Int))) = true then
   Option.bind (at? x1 x3) fun x4 =>
   Option.bind (at? x1 0) fun x5 =>
   Option.bind (f167 F x4 ((List.length x5 : Nat) : Int)) fun x6 =>
   if (x6 != 0) = true then
    some (.c0 x6)
   else
    f161_p4 F x1 k (w64 (x3 + 1))
  else
   some .c1
def f161 (F : Nat) (x1 : List (List Int)) : Option Int :=
 if (((List.length x1 : Nat) : Int) == 0) = true then
  some 4
 else
 if (decide (((List.length x1 : Nat) : Int) > 5)) = true then
  some 3
 else
  Option.bind (at? x1 0) fun x2 =>
  if (decide (((List.length x2 : Nat) : Int) > 5)) = true then
   some 3
  else
   Option.bind (f161_p4 F x1 F 0) fun
   | .c0 x7 =>
    some x7
   | .c1 =>
    some 0

inductive f151_R where
 | c0 (a0 : Int)
 | c1 (a0 : Int) (a1 : List ((Int × (Int × (Int × Unit))) × (Int × (Int × Unit)))) (a2 : List (List Int)) (a3 : Int)
def f151 (F : Nat) (x1 : List (List Int)) : Option f151_R :=
 Option.bind (f161 F x1) fun x2 =>
 if (x2 != 0) = true then
  some (.c0 x2)
 else
  Option.bind (at? x1 0) fun x3 =>
  some (.c1 0 ([] : List ((Int × (Int × (Int × Unit))) × (Int × (Int × Unit)))) x1 ((List.length x3 : Nat) : Int))

inductive f154_R where
def f154 (F : Nat) : Option f154_R :=
 none

inductive f152_R where
def f152 (F : Nat) : Option f152_R :=
 Option.bind (f154 F) fun _ => none

def f154_1 (F : Nat) (x1 : List ((Int × (Int × (Int × Unit))) × (Int × (Int × Unit)))) (x2 : List (List Int)) (x3 : Int) : Option Int :=
 req ((0 : Int) ≤ x3) <|
 some (IntKind.wrap .u8 ((iShl .u8 1 x3) - 1))

def f162 (F : Nat) (x1 x2 : Int) : Option (Int × Bool) :=
 if (decide (x2 < 0)) = true then
  some (x1, true)
 else
  req ((0 : Int) ≤ x2) <|
  some ((iAndNot .u8 x1 (iShl .u8 1 x2)), ((iAnd .u8 (iShr .u8 x1 x2) 1) == 1))

def f155 (F : Nat) (x1 x2 : Int) (x3 : List ((Int × (Int × (Int × Unit))) × (Int × (Int × Unit)))) (x4 : List (List Int)) (x5 : Int) : Option Int :=
 if (decide (x2 < 0)) = true then
  some 0
 else
  Option.bind (at? x4 x1) fun x6 =>
  Option.bind (at? x6 x2) fun x7 =>
  some x7

def f153_p9_1 (F : Nat) (x17 x23 : Int) (x26 x19 : Int) (x25 : List ((Int × (Int × (Int × Unit))) × (Int × (Int × Unit)))) (x5 : List (List Int)) (x6 x1 : Int) (x2 x3 : Int) (x20 x24 : Int) : Option Int :=
 if ((w64 (x23 + x26)) == x19) = true then
  some (w64 (x20 + x24))
 else
  some x20
def f153_p8_1 (F : Nat) (x17 x23 : Int) (x26 x19 : Int) (x25 : List ((Int × (Int × (Int × Unit))) × (Int × (Int × Unit)))) (x5 : List (List Int)) (x6 x1 : Int) (x2 x3 : Int) (x20 x24 : Int) : Option (Int × Int) :=
 if (decide ((w64 (x23 + x26)) > x19)) = true then
  some ((w64 (x23 + x26)), x24)
 else
  Option.bind (f153_p9_1 F x17 x23 x26 x19 x25 x5 x6 x1 x2 x3 x20 x24) fun x27 =>
  some (x19, x27)
def f153_p9_2 (F : Nat) (x17 x30 : Int) (x33 x19 : Int) (x32 : List ((Int × (Int × (Int × Unit))) × (Int × (Int × Unit)))) (x5 : List (List Int)) (x6 x1 : Int) (x2 x3 : Int) (x20 x31 : Int) : Option Int :=
 if ((w64 (x30 + x33)) == x19) = true then
  some (w64 (x20 + x31))
 else
  some x20
def f153_p8_2 (F : Nat) (x17 x30 : Int) (x33 x19 : Int) (x32 : List ((Int × (Int × (Int × Unit))) × (Int × (Int × Unit)))) (x5 : List (List Int)) (x6 x1 : Int) (x2 x3 : Int) (x20 x31 : Int) : Option (Int × Int) :=
 if (decide ((w64 (x30 + x33)) > x19)) = true then
  some ((w64 (x30 + x33)), x31)
 else
  Option.bind (f153_p9_2 F x17 x30 x33 x19 x32 x5 x6 x1 x2 x3 x20 x31) fun x34 =>
  some (x19, x34)
def f153_p3 (F : Nat) (rec : Int → Int → Int → (List ((Int × (Int × (Int × Unit))) × (Int × (Int × Unit)))) → (List (List Int)) → Int → Option (Int × Int × (List ((Int × (Int × (Int × Unit))) × (Int × (Int × Unit)))))) (x5 : List (List Int)) (x6 x1 : Int) (x2 x3 : Int) : Nat → Int → (List ((Int × (Int × (Int × Unit))) × (Int × (Int × Unit)))) → Int → Int → Option ((List ((Int × (Int × (Int × Unit))) × (Int × (Int × Unit)))) × Int × Int)
 | 0, _, _, _, _ => none
 | k + 1, x17, x18, x19, x20 =>
  if (decide (x17 < x6)) = true then
   Option.bind (f162 F x3 x17) fun (x21, x22) =>
   if x22 = true then
    if (decide (x17 ≥ 0)) = true then
     if (x1 == x2) = true then
      f153_p3 F rec x5 x6 x1 x2 x3 k (w64 (x17 + 1)) x18 x19 x20
     else
      Option.bind (rec (w64 (x1 + 1)) x2 x21 x18 x5 x6) fun (x23, x24, x25) =>
      Option.bind (f155 F x1 x17 x25 x5 x6) fun x26 =>
      Option.bind (f153_p8_1 F x17 x23 x26 x19 x25 x5 x6 x1 x2 x3 x20 x24) fun (x28, x29) =>
      f153_p3 F rec x5 x6 x1 x2 x3 k (w64 (x17 + 1)) x25 x28 x29
    else
     Option.bind (rec (w64 (x1 + 1)) x2 x21 x18 x5 x6) fun (x30, x31, x32) =>
     Option.bind (f155 F x1 x17 x32 x5 x6) fun x33 =>
     Option.bind (f153_p8_2 F x17 x30 x33 x19 x32 x5 x6 x1 x2 x3 x20 x31) fun (x35, x36) =>
     f153_p3 F rec x5 x6 x1 x2 x3 k (w64 (x17 + 1)) x32 x35 x36
   else
    f153_p3 F rec x5 x6 x1 x2 x3 k (w64 (x17 + 1)) x18 x19 x20
  else
   some (x18, x19, x20)
def f153_b (F : Nat) (rec : Int → Int → Int → (List ((Int × (Int × (Int × Unit))) × (Int × (Int × Unit)))) → (List (List Int)) → Int → Option (Int × Int × (List ((Int × (Int × (Int × Unit))) × (Int × (Int × Unit)))))) (x1 x2 x3 : Int) (x4 : List ((Int × (Int × (Int × Unit))) × (Int × (Int × Unit)))) (x5 : List (List Int)) (x6 : Int) : Option (Int × Int × (List ((Int × (Int × (Int × Unit))) × (Int × (Int × Unit))))) :=
 if (x1 == ((List.length x5 : Nat) : Int)) = true then
  some (0, 1, x4)
 else
 if (Option.isSome (mget x4 (x1, (x2, (x3, ()))))) = true then
  some ((Option.getD (mget x4 (x1, (x2, (x3, ())))) (0, (0, ()))).1, (Option.getD (mget x4 (x1, (x2, (x3, ())))) (0, (0, ()))).2.1, x4)
 else
  Option.bind (f153_p3 F rec x5 x6 x1 x2 x3 F (-1) x4 (-1) 0) fun (x37, x38, x39) =>
  some (x38, x39, (mset x37 (x1, (x2, (x3, ()))) (x38, (x39, ()))))
def f153 (F : Nat) : Nat → Int → Int → Int → (List ((Int × (Int × (Int × Unit))) × (Int × (Int × Unit)))) → (List (List Int)) → Int → Option (Int × Int × (List ((Int × (Int × (Int × Unit))) × (Int × (Int × Unit)))))
 | 0 => fun _ _ _ _ _ _ => none
 | k + 1 => f153_b F (f153 F k)

def f152_1_p5_2 (F : Nat) (x64 : Int) (x2 : List (List Int)) (x3 : Int) : Nat → Int → Int → (List ((Int × (Int × (Int × Unit))) × (Int × (Int × Unit)))) → (List Int) → Option (Int × (List ((Int × (Int × (Int × Unit))) × (Int × (Int × Unit)))) × (List Int))
 | 0, _, _, _, _ => none
 | k + 1, x79, x80, x81, x78 =>
  if (decide (x80 < x3)) = true then
   Option.bind (f162 F x79 x80) fun (x82, x83) =>
   if x83 = true then
    Option.bind (f153 F F (w64 (x64 + 1)) (-1) x82 x81 x2 x3) fun (x84, x85, x86) =>
    Option.bind (f155 F x64 x80 x86 x2 x3) fun x87 =>
    Option.bind (f153 F F x64 (-1) x79 x86 x2 x3) fun (x88, x89, x90) =>
    if ((w64 (x84 + x87)) == x88) = true then
     req (List.length x78 + List.length ([x80] : List Int) ≤ 1099511627776) <|
     some (x82, x90, (x78 ++ ([x80] : List Int)))
    else
     f152_1_p5_2 F x64 x2 x3 k x79 (w64 (x80 + 1)) x90 x78
   else
    f152_1_p5_2 F x64 x2 x3 k x79 (w64 (x80 + 1)) x81 x78
  else
   some (x79, x81, x78)
def f152_1_p1 (F : Nat) (x2 : List (List Int)) (x3 : Int) : Nat → Int → Int → (List ((Int × (Int × (Int × Unit))) × (Int × (Int × Unit)))) → (List Int) → Option ((List ((Int × (Int × (Int × Unit))) × (Int × (Int × Unit)))) × (List Int))
 | 0, _, _, _, _ => none
 | k + 1, x63, x64, x65, x62 =>
  if (decide (x64 < ((List.length x2 : Nat) : Int))) = true then
   Option.bind (f152_1_p5_2 F x64 x2 x3 F x63 (-1) x65 x62) fun (x91, x92, x93) =>
   f152_1_p1 F x2 x3 k x91 (w64 (x64 + 1)) x92 x93
  else
   some (x65, x62)
def f152_1 (F : Nat) (x1 : List ((Int × (Int × (Int × Unit))) × (Int × (Int × Unit)))) (x2 : List (List Int)) (x3 : Int) : Option ((List Int) × (List ((Int × (Int × (Int × Unit))) × (Int × (Int × Unit))))) :=
 Option.bind (f154_1 F x1 x2 x3) fun x4 =>
 Option.bind (f152_1_p1 F x2 x3 F x4 0 x1 ([] : List Int)) fun (x94, x95) =>
 some ((List.drop 0 (List.take (0 + (List.length x95)) x95)), x94)

def f145 (F : Nat) (x1 x2 : Int) (x3 : List ((Int × (Int × (Int × Unit))) × (Int × (Int × Unit)))) (x4 : List (List Int)) (x5 : Int) : Option (Int × (List ((Int × (Int × (Int × Unit))) × (Int × (Int × Unit))))) :=
 Option.bind (f154_1 F x3 x4 x5) fun x6 =>
 Option.bind (f153 F F 0 (-1) x6 x3 x4 x5) fun (x7, x8, x9) =>
 Option.bind (f155 F x1 x2 x9 x4 x5) fun x10 =>
 Option.bind (f154_1 F x9 x4 x5) fun x11 =>
 Option.bind (f153 F F 0 x1 x11 x9 x4 x5) fun (x12, x13, x14) =>
 some ((w64 (x12 - (w64 (x7 - x10)))), x14)

def f144_p2 (F : Nat) (x7 : List Int) (x5 : List (List Int)) (x6 : Int) : Nat → Int → (List ((Int × (Int × (Int × Unit))) × (Int × (Int × Unit)))) → (List Int) → Option (List Int)
 | 0, _, _, _ => none
 | k + 1, x19, x20, x18 =>
  if (decide (x19 < ((List.length x7 : Nat) : Int))) = true then
   Option.bind (at? x7 x19) fun x21 =>
   Option.bind (f145 F x19 x21 x20 x5 x6) fun (x22, x23) =>
   req (List.length x18 + List.length ([x22] : List Int) ≤ 1099511627776) <|
   f144_p2 F x7 x5 x6 k (w64 (x19 + 1)) x23 (x18 ++ ([x22] : List Int))
  else
   some x18
def f144 (F : Nat) (x1 : List (List Int)) : Option ((List Int) × Int) :=
 Option.bind (f151 F x1) fun
 | .c0 x2 =>
  if (x2 != 0) = true then
   some (([] : List Int), x2)
  else
   Option.bind (f152 F) fun _ => none
 | .c1 x3 x4 x5 x6 =>
  if (x3 != 0) = true then
   some (([] : List Int), x3)
  else
   Option.bind (f152_1 F x4 x5 x6) fun (x7, x8) =>
   Option.bind (f144_p2 F x7 x5 x6 F 0 x8 ([] : List Int)) fun x24 =>
   some ((List.drop 0 (List.take (0 + (List.length x24)) x24)), 0)

def f133 (F : Nat) (x1 : List (List Int)) : Option ((List Int) × Int) :=
 Option.bind (f144 F x1) fun (x2, x3) =>
 some (x2, x3)

def f77 (F : Nat) (x1 x2 x3 : Int) : Option Bool :=
 if (decide (x1 ≤ x2)) = true then
  some (decide (x2 ≤ x3))
 else
  some false

def f113_p0 (F : Nat) (x1 : Int) (x2 : Bool) : Option Int :=
 if x2 = true then
  some (w64 (x1 + 1))
 else
  some x1
def f113 (F : Nat) (x1 : Int) (x2 : Bool) : Option Int :=
 Option.bind (f113_p0 F x1 x2) fun x3 =>
 some x3

def f76 (F : Nat) (x1 x2 : Int) (x3 : Bool) (x4 x5 : List Int) : Option Int :=
 req ((0 : Int) ≤ x1 ∧ (x1 : Int) < ((9 : Nat) : Int)) <|
 Option.bind ((x5)[(0 + ((Int.toNat x1) * 1))]?) fun x6 =>
 Option.bind (f113 F x1 x3) fun x7 =>
 some (w64 (x6 + x7))

def f108_p4 (F : Nat) (x1 : Int) (x2 : Bool) (x3 : List Int) : Nat → Int → Int → Bool → (List Int) → (List Int) → Option (Int × Bool × (List Int) × (List Int))
 | 0, _, _, _, _, _ => none
 | k + 1, x6, x7, x8, x9, x10 =>
  if (decide (x6 < 9)) = true then
   req ((0 : Int) ≤ x6 ∧ (x6 : Int) < ((9 : Nat) : Int)) <|
   req ((0 + ((Int.toNat x6) * 1)) < 9) <|
   f108_p4 F x1 x2 x3 k (w64 (x6 + 1)) x7 x8 x9 (List.set x10 (0 + ((Int.toNat x6) * 1)) (-1))
  else
   some (x7, x8, x9, x10)
def f108_p12_1 (F : Nat) (x21 x28 : Int) (x3 : List Int) (x31 x1 : Int) (x2 : Bool) (x22 : Int) (x23 : Bool) (x24 x25 x26 : List Int) (x30 : Int) (x27 : List Int) : Option (List Int) :=
 if (x31 == 1) = true then
  req ((0 : Int) ≤ x28 ∧ (x28 : Int) < ((9 : Nat) : Int)) <|
  req ((0 + ((Int.toNat x28) * 1)) < 9) <|
  some (List.set x25 (0 + ((Int.toNat x28) * 1)) x21)
 else
  some x25
inductive f108_p8_R where
 | c0
 | c1 (a0 : Int) (a1 : Bool) (a2 : List Int) (a3 : List Int) (a4 : List Int) (a5 : List Int)
def f108_p8 (F : Nat) (x3 : List Int) (x1 : Int) (x2 : Bool) : Nat → Int → Int → Bool → (List Int) → (List Int) → (List Int) → (List Int) → Option f108_p8_R
 | 0, _, _, _, _, _, _, _ => none
 | k + 1, x21, x22, x23, x24, x25, x26, x27 =>
  if (decide (x21 < ((List.length x3 : Nat) : Int))) = true then
   Option.bind (at? x3 x21) fun x28 =>
   Option.bind (f77 F 0 x28 x1) fun x29 =>
   if x29 = true then
    req ((0 : Int) ≤ x28 ∧ (x28 : Int) < ((9 : Nat) : Int)) <|
    Option.bind ((x26)[(0 + ((Int.toNat x28) * 1))]?) fun x30 =>
    req ((0 + ((Int.toNat x28) * 1)) < 9) <|
    Option.bind (((List.set x26 (0 + ((Int.toNat x28) * 1)) (w64 (x30 + 1))))[(0 + ((Int.toNat x28) * 1))]?) fun x31 =>
    Option.bind (f108_p12_1 F x21 x28 x3 x31 x1 x2 x22 x23 x24 x25 x26 x30 x27) fun x32 =>
    req ((0 : Int) ≤ x21 ∧ (x21 : Int) < ((16 : Nat) : Int)) <|
    req ((0 + ((Int.toNat x21) * 1)) < 16) <|
    f108_p8 F x3 x1 x2 k (w64 (x21 + 1)) x22 x23 (List.set x24 (0 + ((Int.toNat x21) * 1)) x28) x32 (List.set x26 (0 + ((Int.toNat x28) * 1)) (w64 (x30 + 1))) (List.set x27 (0 + ((Int.toNat x28) * 1)) x21)
   else
    some .c0
  else
   some (.c1 x22 x23 x24 x25 x26 x27)
inductive f108_p14_R where
 | c0 (a0 : Int)
 | c1
def f108_p14 (F : Nat) (x1 : Int) (x2 : Bool) (x3 : List Int) (x33 : Int) (x34 : Bool) (x35 x36 : List Int) (x37 x38 : List Int) : Nat → Int → Option f108_p14_R
 | 0, _ => none
 | k + 1, x39 =>
  if (decide (x39 ≤ x1)) = true then
   req ((0 : Int) ≤ x39 ∧ (x39 : Int) < ((9 : Nat) : Int)) <|
   Option.bind ((x37)[(0 + ((Int.toNat x39) * 1))]?) fun x40 =>
   if (decide (x40 > 2)) = true then
    some (.c0 3)
   else
   if (x40 == 1) = true then
    some (.c0 21)
   else
   if (x40 == 2) = true then
    Option.bind ((x38)[(0 + ((Int.toNat x39) * 1))]?) fun x41 =>
    Option.bind (f76 F x39 x33 x34 x35 x36) fun x42 =>
    if (x41 != x42) = true then
     some (.c0 13)
    else
     f108_p14 F x1 x2 x3 x33 x34 x35 x36 x37 x38 k (w64 (x39 + 1))
   else
    f108_p14 F x1 x2 x3 x33 x34 x35 x36 x37 x38 k (w64 (x39 + 1))
  else
   some .c1
inductive f108_R where
 | c0 (a0 : Int)
 | c1 (a0 : Int) (a1 : Int) (a2 : Bool) (a3 : List Int) (a4 : List Int)
def f108 (F : Nat) (x1 : Int) (x2 : Bool) (x3 : List Int) : Option f108_R :=
 Option.bind (f77 F 1 x1 8) fun x4 =>
 if x4 = true then
  if (((List.length x3 : Nat) : Int) != (w64 (2 * x1))) = true then
   some (.c0 5)
  else
   Option.bind (f108_p4 F x1 x2 x3 F 0 x1 x2 (List.replicate 16 0) (List.replicate 9 0)) fun (x11, x12, x13, x14) =>
   Option.bind (f108_p8 F x3 x1 x2 F 0 x11 x12 x13 x14 (List.replicate 9 0) (List.replicate 9 0)) fun
   | .c0 =>
    some (.c0 2)
   | .c1 x33 x34 x35 x36 x37 x38 =>
    Option.bind (f108_p14 F x1 x2 x3 x33 x34 x35 x36 x37 x38 F 1) fun
    | .c0 x43 =>
     some (.c0 x43)
    | .c1 =>
     some (.c1 0 x33 x34 x35 x36)
 else
  some (.c0 1)

inductive f75_R where
 | c0 (a0 : Int)
 | c1 (a0 : Int) (a1 : Int) (a2 : Bool) (a3 : List Int) (a4 : List Int)
def f75 (F : Nat) (x1 : Int) (x2 : Bool) (x3 : List Int) (x4 : Int) : Option f75_R :=
 Option.bind (f108 F x1 x2 x3) fun
 | .c0 x5 =>
  if (x5 != 0) = true then
   some (.c0 x5)
  else
   none
 | .c1 x6 x7 x8 x9 x10 =>
  if (x6 != 0) = true then
   some (.c0 x6)
  else
   Option.bind (f77 F 1 x4 x7) fun x11 =>
   if x11 = true then
    req ((0 : Int) ≤ x4 ∧ (x4 : Int) < ((9 : Nat) : Int)) <|
    Option.bind ((x10)[(0 + ((Int.toNat x4) * 1))]?) fun x12 =>
    if (decide (x12 < 0)) = true then
     some (.c0 12)
    else
     some (.c1 0 x7 x8 x9 x10)
   else
    some (.c0 2)

def f37_p6_1 (F : Nat) (x4 x11 x12 : Int) (x18 : List Int) (x19 : Int) (x22 x23 : Bool) (x7 : Int) (x8 : Bool) (x9 x10 : List Int) : Option (List Int) :=
 if (x22 == x23) = true then
  some x18
 else
  req (List.length x18 + List.length ([x19] : List Int) ≤ 1099511627776) <|
  some (x18 ++ ([x19] : List Int))
def f37_p2 (F : Nat) (x4 x11 : Int) (x12 x7 : Int) (x8 : Bool) (x9 x10 : List Int) : Nat → Int → (List Int) → Option (List Int)
 | 0, _, _ => none
 | k + 1, x19, x18 =>
  if (decide (x19 ≤ x7)) = true then
   req ((0 : Int) ≤ x19 ∧ (x19 : Int) < ((9 : Nat) : Int)) <|
   Option.bind ((x10)[(0 + ((Int.toNat x19) * 1))]?) fun x20 =>
   if (decide (x20 < 0)) = true then
    f37_p2 F x4 x11 x12 x7 x8 x9 x10 k (w64 (x19 + 1)) x18
   else
   if (x19 == x4) = true then
    f37_p2 F x4 x11 x12 x7 x8 x9 x10 k (w64 (x19 + 1)) x18
   else
    Option.bind (f76 F x19 x7 x8 x9 x10) fun x21 =>
    Option.bind (f77 F x11 x20 x12) fun x22 =>
    Option.bind (f77 F x11 x21 x12) fun x23 =>
    Option.bind (f37_p6_1 F x4 x11 x12 x18 x19 x22 x23 x7 x8 x9 x10) fun x24 =>
    f37_p2 F x4 x11 x12 x7 x8 x9 x10 k (w64 (x19 + 1)) x24
  else
   some x18
def f37 (F : Nat) (x1 : Int) (x2 : Bool) (x3 : List Int) (x4 : Int) : Option ((List Int) × Int) :=
 Option.bind (f75 F x1 x2 x3 x4) fun
 | .c0 x5 =>
  if (x5 != 0) = true then
   some (([] : List Int), x5)
  else
   none
 | .c1 x6 x7 x8 x9 x10 =>
  if (x6 != 0) = true then
   some (([] : List Int), x6)
  else
   req ((0 : Int) ≤ x4 ∧ (x4 : Int) < ((9 : Nat) : Int)) <|
   Option.bind ((x10)[(0 + ((Int.toNat x4) * 1))]?) fun x11 =>
   Option.bind (f76 F x4 x7 x8 x9 x10) fun x12 =>
   Option.bind (f37_p2 F x4 x11 x12 x7 x8 x9 x10 F 1 ([] : List Int)) fun x25 =>
   some ((List.drop 0 (List.take (0 + (List.length x25)) x25)), 0)

def f57 (F : Nat) (x1 x2 x3 : Int) : Option Bool :=
 if (decide (x1 ≥ x2)) = true then
  some (decide (x1 ≤ x3))
 else
  some false

inductive f124_p4_R where
 | c0 (a0 : Int)
 | c1
def f124_p4 (F : Nat) (x1 : List Int) : Nat → Int → Int → Option f124_p4_R
 | 0, _, _ => none
 | k + 1, x2, x3 =>
  if (decide (x3 < ((List.length x1 : Nat) : Int))) = true then
   Option.bind (at? x1 x3) fun x4 =>
   Option.bind (f57 F x4 1 30) fun x5 =>
   if x5 = true then
    if (decide (x4 ≤ x2)) = true then
     some (.c0 7)
    else
     f124_p4 F x1 k x4 (w64 (x3 + 1))
   else
    some (.c0 1)
  else
   some .c1
def f124 (F : Nat) (x1 : List Int) : Option Int :=
 if (((List.length x1 : Nat) : Int) == 0) = true then
  some 4
 else
 if (decide (((List.length x1 : Nat) : Int) > 5)) = true then
  some 3
 else
  Option.bind (f124_p4 F x1 F 0 0) fun
  | .c0 x6 =>
   some x6
  | .c1 =>
   some 0

def f125_p0 (F : Nat) (x1 : List Int) : Option Unit :=
 if (decide (((List.length x1 : Nat) : Int) < 1)) = true then
  none
 else
  some ()
def f125_p2 (F : Nat) (x1 : List Int) : Nat → Int → Int → Option Int
 | 0, _, _ => none
 | k + 1, x3, x4 =>
  if (decide (x4 < ((List.length x1 : Nat) : Int))) = true then
   Option.bind (at? x1 x4) fun x5 =>
   f125_p2 F x1 k (if x5 < x3 then x5 else x3) (w64 (x4 + 1))
  else
   some x3
def f125 (F : Nat) (x1 : List Int) : Option Int :=
 Option.bind (f125_p0 F x1) fun _ =>
 Option.bind (at? x1 0) fun x2 =>
 Option.bind (f125_p2 F x1 F x2 1) fun x6 =>
 some x6

def f95 (F : Nat) (x1 x2 : List Int) : Option ((List Int) × (List Int) × Int) :=
 Option.bind (f124 F x1) fun x3 =>
 if (x3 != 0) = true then
  some (([] : List Int), ([] : List Int), x3)
 else
 if (((List.length x2 : Nat) : Int) != ((List.length x1 : Nat) : Int)) = true then
  some (([] : List Int), ([] : List Int), 5)
 else
  Option.bind (f125 F x2) fun x4 =>
  if (decide (x4 < 0)) = true then
   some (([] : List Int), ([] : List Int), 1)
  else
   Option.bind (f32 F x2) fun x5 =>
   if (decide (x5 > 40)) = true then
    some (([] : List Int), ([] : List Int), 1)
   else
    some (x1, x2, 0)

def f55_p0 (F : Nat) (x6 : Int) (x7 : Bool) (x4 x5 : List Int) : Option Int :=
 if x7 = true then
  some x6
 else
  some 1
def f55 (F : Nat) (x1 x2 : List Int) (x3 : Int) : Option ((List Int) × (List Int) × Int) :=
 Option.bind (f95 F x1 x2) fun (x4, x5, x6) =>
 if (x6 == 0) = true then
  Option.bind (f57 F x3 0 1000) fun x7 =>
  Option.bind (f55_p0 F x6 x7 x4 x5) fun x8 =>
  some (x4, x5, x8)
 else
  some (x4, x5, x6)

def f141_1 (F : Nat) (x1 : Int) (x2 : List Int) (x3 x4 x5 : Int) : Option Int :=
 Option.bind (at? x2 (w64 (x4 + (w64 (x1 * x3))))) fun x6 =>
 some (w64 ((w64 (x6 + x5)) - x1))

def f123_p1 (F : Nat) (x3 : Int) (x1 x2 : List Int) : Nat → Int → (List Int) → Option (List Int)
 | 0, _, _ => none
 | k + 1, x6, x5 =>
  if (decide (x6 < (((Int.toNat (w64 (x3 + 1))) : Nat) : Int))) = true then
   req ((0 : Int) ≤ x6 ∧ (x6 : Int) < (((Int.toNat (w64 (x3 + 1))) : Nat) : Int)) <|
   req ((0 + (Int.toNat x6)) < List.length x5) <|
   f123_p1 F x3 x1 x2 k (w64 (x6 + 1)) (List.set x5 (0 + (Int.toNat x6)) 1001)
  else
   some x5
def f123_p17_17 (F : Nat) (x3 : Int) (x1 : List Int) (x134 x137 : Int) (x136 x167 : Int) (x2 x135 : List Int) (x133 : List (List Int)) (x179 x180 : List Int) (x182 : Int) : Nat → (List Int) → Option (List Int)
 | 0, _ => none
 | k + 1, x183 =>
  if (decide ((((List.length x183) : Nat) : Int) > 0)) = true then
   req ((0 : Int) ≤ (w64 ((((List.length x183) : Nat) : Int) - 1)) ∧ ((w64 ((((List.length x183) : Nat) : Int) - 1)) : Int) < (((List.length x183) : Nat) : Int)) <|
   Option.bind ((x183)[(0 + (Int.toNat (w64 ((((List.length x183) : Nat) : Int) - 1))))]?) fun x184 =>
   Option.bind (f141_1 F x184 x135 x136 x167 x182) fun x185 =>
   Option.bind (f141_1 F x182 x135 x136 x167 x182) fun x186 =>
   if (decide (x185 ≥ x186)) = true then
    req ((0 : Int) ≤ 0 ∧ (0 : Int) ≤ (w64 ((((List.length x183) : Nat) : Int) - 1)) ∧ ((w64 ((((List.length x183) : Nat) : Int) - 1)) : Int) ≤ (((List.length x183) : Nat) : Int) ∧ 0 < (List.length x183)) <|
    req ((0 : Int) < (w64 ((((List.length x183) : Nat) : Int) - 1)) ∨ (0 : Int) = 0) <|
    f123_p17_17 F x3 x1 x134 x137 x136 x167 x2 x135 x133 x179 x180 x182 k (List.drop 0 (List.take (Int.toNat (w64 ((((List.length x183) : Nat) : Int) - 1))) x183))
   else
    some x183
  else
   some x183
def f123_p20_17 (F : Nat) (x3 : Int) (x1 : List Int) (x134 x137 : Int) (x187 : List Int) (x182 x136 : Int) (x167 x188 : Int) (x2 x135 : List Int) (x133 : List (List Int)) (x179 x180 : List Int) : Option (List Int) :=
 if (decide (x188 < (w64 (x182 - x137)))) = true then
  req ((0 : Int) ≤ 1 ∧ (1 : Int) ≤ (((List.length (x187 ++ ([x182] : List Int))) : Nat) : Int) ∧ ((((List.length (x187 ++ ([x182] : List Int))) : Nat) : Int) : Int) ≤ (((List.length (x187 ++ ([x182] : List Int))) : Nat) : Int) ∧ 0 < (List.length (x187 ++ ([x182] : List Int)))) <|
  req ((1 : Int) < (((List.length (x187 ++ ([x182] : List Int))) : Nat) : Int) ∨ (1 : Int) = 0) <|
  some (List.drop 1 (List.take (List.length (x187 ++ ([x182] : List Int))) (x187 ++ ([x182] : List Int))))
 else
  some (x187 ++ ([x182] : List Int))
def f123_p13_5 (F : Nat) (x3 : Int) (x1 : List Int) (x134 x137 : Int) (x136 x167 : Int) (x2 x135 : List Int) (x133 : List (List Int)) : Nat → (List Int) → (List Int) → Int → (List Int) → Option ((List Int) × (List Int))
 | 0, _, _, _, _ => none
 | k + 1, x179, x180, x182, x181 =>
  if (decide ((w64 (x167 + (w64 (x182 * x136)))) ≤ x3)) = true then
   Option.bind (f123_p17_17 F x3 x1 x134 x137 x136 x167 x2 x135 x133 x179 x180 x182 F x181) fun x187 =>
   req (List.length x187 + List.length ([x182] : List Int) ≤ 1099511627776) <|
   req ((0 : Int) ≤ 0 ∧ (0 : Int) < (((List.length (x187 ++ ([x182] : List Int))) : Nat) : Int)) <|
   Option.bind (((x187 ++ ([x182] : List Int)))[0]?) fun x188 =>
   Option.bind (f123_p20_17 F x3 x1 x134 x137 x187 x182 x136 x167 x188 x2 x135 x133 x179 x180) fun x189 =>
   req ((0 : Int) ≤ 0 ∧ (0 : Int) < (((List.length x189) : Nat) : Int)) <|
   Option.bind ((x189)[0]?) fun x190 =>
   Option.bind (f141_1 F x190 x135 x136 x167 x182) fun x191 =>
   req ((0 : Int) ≤ (w64 (x167 + (w64 (x182 * x136)))) ∧ ((w64 (x167 + (w64 (x182 * x136)))) : Int) < (((Int.toNat (w64 (x3 + 1))) : Nat) : Int)) <|
   req ((0 + (Int.toNat (w64 (x167 + (w64 (x182 * x136)))))) < List.length x179) <|
   req ((0 + (Int.toNat (w64 (x167 + (w64 (x182 * x136)))))) < List.length x180) <|
   f123_p13_5 F x3 x1 x134 x137 x136 x167 x2 x135 x133 k (List.set x179 (0 + (Int.toNat (w64 (x167 + (w64 (x182 * x136)))))) (if x191 < 1001 then x191 else 1001)) (List.set x180 (0 + (Int.toNat (w64 (x167 + (w64 (x182 * x136)))))) (w64 (x182 - x190))) (w64 (x182 + 1)) x189
  else
   some (x179, x180)
def f123_p9_2 (F : Nat) (x3 : Int) (x1 : List Int) (x134 x137 x136 : Int) (x2 x135 : List Int) (x133 : List (List Int)) : Nat → Int → (List Int) → (List Int) → Option ((List Int) × (List Int))
 | 0, _, _, _ => none
 | k + 1, x167, x165, x166 =>
  if (decide (x167 < (if (w64 (x3 + 1)) < x136 then (w64 (x3 + 1)) else x136))) = true then
   Option.bind (f123_p13_5 F x3 x1 x134 x137 x136 x167 x2 x135 x133 F x165 x166 0 ([] : List Int)) fun (x192, x193) =>
   f123_p9_2 F x3 x1 x134 x137 x136 x2 x135 x133 k (w64 (x167 + 1)) x192 x193
  else
   some (x165, x166)
def f123_p5 (F : Nat) (x3 : Int) (x1 x2 : List Int) : Nat → Int → (List Int) → (List (List Int)) → Option ((List Int) × (List (List Int)))
 | 0, _, _, _ => none
 | k + 1, x134, x135, x133 =>
  if (decide (x134 ≥ 0)) = true then
   Option.bind (at? x1 x134) fun x136 =>
   Option.bind (at? x2 x134) fun x137 =>
   req ((0 : Int) ≤ (w64 (x3 + 1)) ∧ ((w64 (x3 + 1)) : Int) ≤ (w64 (x3 + 1)) ∧ ((w64 (x3 + 1)) : Int) ≤ 1099511627776) <|
   Option.bind (f123_p9_2 F x3 x1 x134 x137 x136 x2 x135 x133 F 0 (List.replicate (Int.toNat (w64 (x3 + 1))) (0 : Int)) (List.replicate (Int.toNat (w64 (x3 + 1))) (0 : Int))) fun (x194, x195) =>
   req ((0 + (Int.toNat (w64 (x3 + 1)))) ≤ List.length x194) <|
   req ((0 + (Int.toNat (w64 (x3 + 1)))) ≤ List.length x195) <|
   req ((0 : Int) ≤ x134 ∧ (x134 : Int) < (((Int.toNat ((List.length x1 : Nat) : Int)) : Nat) : Int)) <|
   req ((0 + (Int.toNat x134)) < List.length x133) <|
   f123_p5 F x3 x1 x2 k (w64 (x134 - 1)) (List.drop 0 (List.take (0 + (Int.toNat (w64 (x3 + 1)))) x194)) (List.set x133 (0 + (Int.toNat x134)) (List.drop 0 (List.take (0 + (Int.toNat (w64 (x3 + 1)))) x195)))
  else
   some (x135, x133)
def f123_p23 (F : Nat) (x1 x2 : List Int) (x197 : List (List Int)) : Nat → Int → Int → (List Int) → Option (List Int)
 | 0, _, _, _ => none
 | k + 1, x205, x206, x204 =>
  if (decide (x206 < (((Int.toNat ((List.length x1 : Nat) : Int)) : Nat) : Int))) = true then
   req ((0 : Int) ≤ x206 ∧ (x206 : Int) < (((Int.toNat ((List.length x1 : Nat) : Int)) : Nat) : Int)) <|
   Option.bind ((x197)[(0 + (Int.toNat x206))]?) fun x207 =>
   Option.bind (at? x207 x205) fun x208 =>
   req (List.length x204 + List.length ([x208] : List Int) ≤ 1099511627776) <|
   Option.bind (at? x1 x206) fun x209 =>
   f123_p23 F x1 x2 x197 k (w64 (x205 - (w64 (x208 * x209)))) (w64 (x206 + 1)) (x204 ++ ([x208] : List Int))
  else
   some x204
def f123 (F : Nat) (x1 x2 : List Int) (x3 : Int) : Option ((List Int) × Int) :=
 req ((0 : Int) ≤ (w64 (x3 + 1)) ∧ ((w64 (x3 + 1)) : Int) ≤ (w64 (x3 + 1)) ∧ ((w64 (x3 + 1)) : Int) ≤ 1099511627776) <|
 Option.bind (f123_p1 F x3 x1 x2 F 0 (List.replicate (Int.toNat (w64 (x3 + 1))) (0 : Int))) fun x7 =>
 req ((0 : Int) ≤ 0 ∧ (0 : Int) < (((Int.toNat (w64 (x3 + 1))) : Nat) : Int)) <|
 req (0 < List.length x7) <|
 req ((0 : Int) ≤ ((List.length x1 : Nat) : Int) ∧ (((List.length x1 : Nat) : Int) : Int) ≤ ((List.length x1 : Nat) : Int) ∧ (((List.length x1 : Nat) : Int) : Int) ≤ 1099511627776) <|
 req ((0 + (Int.toNat (w64 (x3 + 1)))) ≤ List.length (List.set x7 0 0)) <|
 Option.bind (f123_p5 F x3 x1 x2 F (w64 (((List.length x1 : Nat) : Int) - 1)) (List.drop 0 (List.take (0 + (Int.toNat (w64 (x3 + 1)))) (List.set x7 0 0))) (List.replicate (Int.toNat ((List.length x1 : Nat) : Int)) ([] : (List Int)))) fun (x196, x197) =>
 Option.bind (at? x196 x3) fun x198 =>
 if (x198 == 1001) = true then
  some (([] : List Int), 12)
 else
  Option.bind (f123_p23 F x1 x2 x197 F x3 0 ([] : List Int)) fun x210 =>
  some ((List.drop 0 (List.take (0 + (List.length x210)) x210)), 0)

def f94 (F : Nat) (x1 x2 : List Int) (x3 : Int) : Option ((List Int) × Int) :=
 Option.bind (f55 F x1 x2 x3) fun (x4, x5, x6) =>
 if (x6 != 0) = true then
  some (([] : List Int), x6)
 else
  Option.bind (f123 F x4 x5 x3) fun (x7, x8) =>
  some (x7, x8)

def f170 (F : Nat) (x1 x2 x3 : Int) : Option Bool :=
 if (decide (x1 ≤ x2)) = true then
  some (decide (x2 ≤ x3))
 else
  some false

def f169 (F : Nat) (x1 x2 : Int) : Option Bool :=
 Option.bind (f170 F 0 x1 (w64 (x2 - 1))) fun x3 =>
 some (!x3)

inductive f92_1_p1_R where
 | c0 (a0 : Int)
 | c1
def f92_1_p1 (F : Nat) (x1 : List Int) (x2 : Int) : Nat → Int → Option f92_1_p1_R
 | 0, _ => none
 | k + 1, x3 =>
  if (decide (x3 < ((List.length x1 : Nat) : Int))) = true then
   Option.bind (at? x1 x3) fun x4 =>
   Option.bind (f169 F x4 x2) fun x5 =>
   if x5 = true then
    some (.c0 x3)
   else
    f92_1_p1 F x1 x2 k (w64 (x3 + 1))
  else
   some .c1
def f92_1 (F : Nat) (x1 : List Int) (x2 : Int) : Option Int :=
 Option.bind (f92_1_p1 F x1 x2 F 0) fun
 | .c0 x6 =>
  some x6
 | .c1 =>
  some (-1)

def f168_1 (F : Nat) (x1 : List Int) (x2 : Int) : Option Bool :=
 Option.bind (f92_1 F x1 x2) fun x3 =>
 some (decide (x3 ≥ 0))

def f163_p5 (F : Nat) (x1 : List Int) : Nat → Int → Int → Option Int
 | 0, _, _ => none
 | k + 1, x5, x6 =>
  if (decide (x5 < ((List.length x1 : Nat) : Int))) = true then
   Option.bind (at? x1 x5) fun x7 =>
   f163_p5 F x1 k (w64 (x5 + 1)) (w64 (x6 - x7))
  else
   some x6
def f163 (F : Nat) (x1 : List Int) : Option Int :=
 if (((List.length x1 : Nat) : Int) == 0) = true then
  some 4
 else
 if (decide (((List.length x1 : Nat) : Int) > 7)) = true then
  some 3
 else
  Option.bind (f168_1 F x1 ((List.length x1 : Nat) : Int)) fun x2 =>
  if x2 = true then
   some 1
  else
   Option.bind (f163_p5 F x1 F 0 ((List.length x1 : Nat) : Int)) fun x8 =>
   if ((w64 (((List.length x1 : Nat) : Int) - x8)) != (w64 (Int.tdiv (w64 (((List.length x1 : Nat) : Int) * (w64 (((List.length x1 : Nat) : Int) - 1)))) 2))) = true then
    some 17
   else
    some 0

def f165_p1 (F : Nat) : Nat → Int → (List Int) → Option (List Int)
 | 0, _, _ => none
 | k + 1, x5, x4 =>
  if (x5 != 0) = true then
   Option.bind (f84 F x5) fun x6 =>
   req (List.length x4 + List.length ([x6] : List Int) ≤ 1099511627776) <|
   f165_p1 F k (iAnd .u8 x5 (IntKind.wrap .u8 (x5 - 1))) (x4 ++ ([x6] : List Int))
  else
   some x4
def f165 (F : Nat) (x1 : Int) : Option (List Int) :=
 Option.bind (f165_p1 F F x1 ([] : List Int)) fun x7 =>
 some (List.drop 0 (List.take (0 + (List.length x7)) x7))

def f164_p1 (F : Nat) (x1 x3 : List Int) : Nat → Int → Int → Option Int
 | 0, _, _ => none
 | k + 1, x4, x5 =>
  if (decide (x5 < ((List.length x3 : Nat) : Int))) = true then
   Option.bind (at? x3 x5) fun x6 =>
   Option.bind (at? x1 x6) fun x7 =>
   f164_p1 F x1 x3 k (w64 (x4 - x7)) (w64 (x5 + 1))
  else
   some x4
def f164 (F : Nat) (x1 : List Int) (x2 : Int) : Option Int :=
 Option.bind (f165 F x2) fun x3 =>
 Option.bind (f164_p1 F x1 x3 F (w64 (Int.tdiv (w64 (((List.length x3 : Nat) : Int) * (w64 (((List.length x3 : Nat) : Int) - 1)))) 2)) 0) fun x8 =>
 some x8

inductive f107_1_p1_R where
 | c0 (a0 : Int)
 | c1
def f107_1_p1 (F : Nat) (x1 : List Int) (x2 : Option (List Int)) : Nat → Int → Option f107_1_p1_R
 | 0, _ => none
 | k + 1, x3 =>
  if (decide (x3 < ((List.length x1 : Nat) : Int))) = true then
   Option.bind (at? x1 x3) fun x4 =>
   if (decide (x3 ≥ ((List.length ((x2).getD []) : Nat) : Int))) = true then
    some (.c0 1)
   else
    Option.bind (at? ((x2).getD []) x3) fun x5 =>
    Option.bind (f136 F x4 x5) fun x6 =>
    if (x6 != 0) = true then
     some (.c0 x6)
    else
     f107_1_p1 F x1 x2 k (w64 (x3 + 1))
  else
   some .c1
def f107_1 (F : Nat) (x1 : List Int) (x2 : Option (List Int)) : Option Int :=
 Option.bind (f107_1_p1 F x1 x2 F 0) fun
 | .c0 x7 =>
  some x7
 | .c1 =>
  if (decide (((List.length x1 : Nat) : Int) < ((List.length ((x2).getD []) : Nat) : Int))) = true then
   some (-1)
  else
   some 0

def f156_p6 (F : Nat) (x1 : List Int) (x3 : Option (List Int)) (x4 : Int) (x6 : List Int) (x7 : Int) : Option (Option (List Int)) :=
 if (decide (x7 < 0)) = true then
  req (x6 ≠ []) <|
  some (some x6)
 else
  some x3
def f156_p2 (F : Nat) (x1 : List Int) : Nat → (Option (List Int)) → Int → Option (Option (List Int))
 | 0, _, _ => none
 | k + 1, x3, x4 =>
  req ((0 : Int) ≤ ((List.length x1 : Nat) : Int)) <|
  if (decide (x4 < (iShl .u8 1 ((List.length x1 : Nat) : Int)))) = true then
   Option.bind (f164 F x1 x4) fun x5 =>
   if (decide (x5 ≤ 0)) = true then
    f156_p2 F x1 k x3 (IntKind.wrap .u8 (x4 + 1))
   else
    Option.bind (f165 F x4) fun x6 =>
    if (Option.isNone x3) = true then
     req (x6 ≠ []) <|
     f156_p2 F x1 k (some x6) (IntKind.wrap .u8 (x4 + 1))
    else
    if (decide (((List.length x6 : Nat) : Int) < ((List.length ((x3).getD []) : Nat) : Int))) = true then
     req (x6 ≠ []) <|
     f156_p2 F x1 k (some x6) (IntKind.wrap .u8 (x4 + 1))
    else
    if (((List.length x6 : Nat) : Int) == ((List.length ((x3).getD []) : Nat) : Int)) = true then
     Option.bind (f107_1 F x6 x3) fun x7 =>
     Option.bind (f156_p6 F x1 x3 x4 x6 x7) fun x8 =>
     f156_p2 F x1 k x8 (IntKind.wrap .u8 (x4 + 1))
    else
     f156_p2 F x1 k x3 (IntKind.wrap .u8 (x4 + 1))
  else
   some x3
def f156 (F : Nat) (x1 : List Int) : Option ((List Int) × Int) :=
 Option.bind (f163 F x1) fun x2 =>
 if (x2 != 0) = true then
  some (([] : List Int), x2)
 else
  Option.bind (f156_p2 F x1 F (none : Option (List Int)) 1) fun x9 =>
  if (Option.isNone x9) = true then
   some (([] : List Int), 13)
  else
   some (((x9).getD []), 0)

def f146 (F : Nat) : Option Bool :=
 Option.bind (f16 F ([2, 5] : List Int)) fun x1 =>
 Option.bind (f16 F ([3, 2] : List Int)) fun x2 =>
 Option.bind (f94 F x1 x2 11) fun (x3, x4) =>
 Option.bind (f16 F ([0, 0, 3, 3] : List Int)) fun x5 =>
 Option.bind (f156 F x5) fun (x6, x7) =>
 if (x4 == 0) = true then
  if (x7 == 0) = true then
   Option.bind (f16 F ([3, 1] : List Int)) fun x8 =>
   Option.bind (f63 F x3 x8) fun x9 =>
   if x9 = true then
    Option.bind (f16 F ([0, 1] : List Int)) fun x10 =>
    Option.bind (f63 F x6 x10) fun x11 =>
    some x11
   else
    some false
  else
   some false
 else
  some false

def f134 (F : Nat) : Option Bool :=
 Option.bind (f16 F ([2, 3, 1, 2, 1, 3] : List Int)) fun x1 =>
 Option.bind (f37 F 3 true x1 2) fun (x2, x3) =>
 if (x3 == 0) = true then
  Option.bind (f16 F ([1, 3] : List Int)) fun x4 =>
  Option.bind (f63 F x2 x4) fun x5 =>
  if x5 = true then
   Option.bind (f146 F) fun x6 =>
   some x6
  else
   some false
 else
  some false

def f101 (F : Nat) : Option Bool :=
 Option.bind (f133 F ([([9, 5] : List Int), ([8, 3] : List Int), ([4, 4] : List Int)] : List (List Int))) fun (x1, x2) =>
 if (x2 == 0) = true then
  Option.bind (f16 F ([8, 0, 4] : List Int)) fun x3 =>
  Option.bind (f63 F x1 x3) fun x4 =>
  if x4 = true then
   Option.bind (f134 F) fun x5 =>
   some x5
  else
   some false
 else
  some false

def f64 (F : Nat) : Option Bool :=
 Option.bind (f100 F 3 ([1] : List Int)) fun (x1, x2) =>
 Option.bind (f21 F 3 3 0) fun (x3, x4) =>
 if (x2 == 0) = true then
  if (x4 == 0) = true then
   Option.bind (f16 F ([2] : List Int)) fun x5 =>
   Option.bind (f63 F x1 x5) fun x6 =>
   if x6 = true then
    if (x3 == 5) = true then
     Option.bind (f101 F) fun x7 =>
     some x7
    else
     some false
   else
    some false
  else
   some false
 else
  some false

def f27 (F : Nat) : Option Bool :=
 Option.bind (f62 F 4) fun (x1, x2) =>
 if (x2 == 0) = true then
  Option.bind (f16 F ([0, 1, 14, 15] : List Int)) fun x3 =>
  Option.bind (f63 F x1 x3) fun x4 =>
  if x4 = true then
   Option.bind (f64 F) fun x5 =>
   some x5
  else
   some false
 else
  some false

def f33 (F : Nat) : Option Bool :=
 Option.bind (f31 F 5 ([(0, (1, ())), (1, (2, ())), (2, (3, ())), (3, (4, ())), (0, (4, ()))] : List (Int × (Int × Unit)))) fun (x1, x2) =>
 if (x2 == 0) = true then
  Option.bind (f16 F ([0, 1, 0, 1, 2] : List Int)) fun x3 =>
  Option.bind (f63 F x1 x3) fun x4 =>
  if x4 = true then
   Option.bind (f27 F) fun x5 =>
   some x5
  else
   some false
 else
  some false

def f109 (F : Nat) (x1 : Int) (x2 : Bool) (x3 x4 : List Int) : Option Int :=
 some (w64 (2 * x1))

def f110 (F : Nat) (x1 x2 x3 : Int) (x4 : Bool) (x5 x6 : List Int) : Option Int :=
 Option.bind (f113 F x1 x4) fun x7 =>
 req ((0 : Int) ≤ x1 ∧ (x1 : Int) < ((9 : Nat) : Int)) <|
 Option.bind ((x6)[(0 + ((Int.toNat x1) * 1))]?) fun x8 =>
 if (decide (x8 ≥ 0)) = true then
  some 6
 else
  Option.bind (f109 F x3 x4 x5 x6) fun x9 =>
  if (decide ((w64 (x2 + x7)) ≥ x9)) = true then
   some 15
  else
   req ((0 : Int) ≤ x2 ∧ (x2 : Int) < ((16 : Nat) : Int)) <|
   Option.bind ((x5)[(0 + ((Int.toNat x2) * 1))]?) fun x10 =>
   if (decide (x10 > 0)) = true then
    some 16
   else
    req ((0 : Int) ≤ (w64 (x2 + x7)) ∧ ((w64 (x2 + x7)) : Int) < ((16 : Nat) : Int)) <|
    Option.bind ((x5)[(0 + ((Int.toNat (w64 (x2 + x7))) * 1))]?) fun x11 =>
    if (decide (x11 > 0)) = true then
     some 16
    else
     some 0

def f73_p8_1 (F : Nat) (x4 : Int) (x16 : List Int) (x17 x13 : Int) (x18 x7 : Int) (x8 : Bool) (x9 x10 : List Int) : Option (List Int) :=
 if (x18 == 0) = true then
  req (List.length x16 + List.length ([x17] : List Int) ≤ 1099511627776) <|
  some (x16 ++ ([x17] : List Int))
 else
  some x16
def f73_p5 (F : Nat) (x4 x13 x7 : Int) (x8 : Bool) (x9 x10 : List Int) : Nat → Int → (List Int) → Option (List Int)
 | 0, _, _ => none
 | k + 1, x17, x16 =>
  if (decide (x17 < x13)) = true then
   Option.bind (f110 F x4 x17 x7 x8 x9 x10) fun x18 =>
   Option.bind (f73_p8_1 F x4 x16 x17 x13 x18 x7 x8 x9 x10) fun x19 =>
   f73_p5 F x4 x13 x7 x8 x9 x10 k (w64 (x17 + 1)) x19
  else
   some x16
def f73 (F : Nat) (x1 : Int) (x2 : Bool) (x3 : List Int) (x4 : Int) : Option ((List Int) × Int) :=
 Option.bind (f108 F x1 x2 x3) fun
 | .c0 x5 =>
  if (x5 != 0) = true then
   some (([] : List Int), x5)
  else
   none
 | .c1 x6 x7 x8 x9 x10 =>
  if (x6 != 0) = true then
   some (([] : List Int), x6)
  else
   Option.bind (f77 F 1 x4 x7) fun x11 =>
   if x11 = true then
    req ((0 : Int) ≤ x4 ∧ (x4 : Int) < ((9 : Nat) : Int)) <|
    Option.bind ((x10)[(0 + ((Int.toNat x4) * 1))]?) fun x12 =>
    if (decide (x12 ≥ 0)) = true then
     some (([] : List Int), 6)
    else
     Option.bind (f109 F x7 x8 x9 x10) fun x13 =>
     Option.bind (f73_p5 F x4 x13 x7 x8 x9 x10 F 0 ([] : List Int)) fun x20 =>
     some ((List.drop 0 (List.take (0 + (List.length x20)) x20)), 0)
   else
    some (([] : List Int), 2)

def f111 (F : Nat) (x1 x2 x3 : Int) (x4 : Bool) (x5 x6 : List Int) : Option (Int × Bool × (List Int) × (List Int)) :=
 Option.bind (f113 F x1 x4) fun x7 =>
 req ((0 : Int) ≤ x1 ∧ (x1 : Int) < ((9 : Nat) : Int)) <|
 Option.bind ((x6)[(0 + ((Int.toNat x1) * 1))]?) fun x8 =>
 if (decide (x8 < 0)) = true then
  req ((0 : Int) ≤ x2 ∧ (x2 : Int) < ((16 : Nat) : Int)) <|
  req ((0 + ((Int.toNat x2) * 1)) < 16) <|
  req ((0 : Int) ≤ (w64 (x2 + x7)) ∧ ((w64 (x2 + x7)) : Int) < ((16 : Nat) : Int)) <|
  req ((0 + ((Int.toNat (w64 (x2 + x7))) * 1)) < 16) <|
  req ((0 + ((Int.toNat x1) * 1)) < 9) <|
  some (x3, x4, (List.set (List.set x5 (0 + ((Int.toNat x2) * 1)) x1) (0 + ((Int.toNat (w64 (x2 + x7))) * 1)) x1), (List.set x6 (0 + ((Int.toNat x1) * 1)) x2))
 else
  req ((0 : Int) ≤ x2 ∧ (x2 : Int) < ((16 : Nat) : Int)) <|
  req ((0 + ((Int.toNat x2) * 1)) < 16) <|
  req ((0 : Int) ≤ (w64 (x2 + x7)) ∧ ((w64 (x2 + x7)) : Int) < ((16 : Nat) : Int)) <|
  req ((0 + ((Int.toNat (w64 (x2 + x7))) * 1)) < 16) <|
  req ((0 + ((Int.toNat x1) * 1)) < 9) <|
  some (x3, x4, (List.set (List.set x5 (0 + ((Int.toNat x2) * 1)) 0) (0 + ((Int.toNat (w64 (x2 + x7))) * 1)) 0), (List.set x6 (0 + ((Int.toNat x1) * 1)) (-1)))

def f59 (F : Nat) (x1 : List Int) : Option (List Int) :=
 req (x1 ≠ []) <|
 req (List.length ([] : List Int) + List.length x1 ≤ 1099511627776) <|
 some (([] : List Int) ++ x1)

def f112 (F : Nat) (x1 : List Int) (x2 : Int) (x3 : Bool) (x4 x5 : List Int) : Option (Int × Bool × (List Int)) :=
 Option.bind (f109 F x2 x3 x4 x5) fun x6 =>
 req ((0 : Int) ≤ 0 ∧ (0 : Int) ≤ x6 ∧ (x6 : Int) ≤ ((16 : Nat) : Int)) <|
 Option.bind (f59 F (List.drop 0 (List.take (0 + (Int.toNat x6)) x1))) fun x7 =>
 req ((0 + (Int.toNat x6)) ≤ List.length x1) <|
 some (x2, x3, (List.drop 0 (List.take (0 + (List.length x7)) x7)))

def f74 (F : Nat) (x1 : Int) (x2 : Bool) (x3 : List Int) (x4 x5 : Int) : Option (Int × Bool × (List Int) × Int) :=
 Option.bind (f108 F x1 x2 x3) fun
 | .c0 x6 =>
  if (x6 != 0) = true then
   some (0, false, ([] : List Int), x6)
  else
   none
 | .c1 x7 x8 x9 x10 x11 =>
  if (x7 != 0) = true then
   some (0, false, ([] : List Int), x7)
  else
   Option.bind (f77 F 1 x4 x8) fun x12 =>
   if x12 = true then
    Option.bind (f109 F x8 x9 x10 x11) fun x13 =>
    Option.bind (f77 F 0 x5 (w64 (x13 - 1))) fun x14 =>
    if x14 = true then
     Option.bind (f110 F x4 x5 x8 x9 x10 x11) fun x15 =>
     if (x15 != 0) = true then
      some (0, false, ([] : List Int), x15)
     else
      Option.bind (f111 F x4 x5 x8 x9 x10 x11) fun (x16, x17, x18, x19) =>
      Option.bind (f112 F x18 x16 x17 x18 x19) fun (x20, x21, x22) =>
      some (x20, x21, x22, 0)
    else
     some (0, false, ([] : List Int), 2)
   else
    some (0, false, ([] : List Int), 2)

inductive f34_p1_R where
 | c0 (a0 : Int) (a1 : Bool) (a2 : List Int)
 | c1 (a0 : Int) (a1 : Bool) (a2 : Int) (a3 : Bool) (a4 : List Int)
def f34_p1 (F : Nat) (x1 : Int) (x2 : Bool) (x3 : List Int) : Nat → Int → Int → Bool → Int → Bool → (List Int) → Option f34_p1_R
 | 0, _, _, _, _, _, _ => none
 | k + 1, x23, x24, x25, x26, x27, x28 =>
  if (decide (x23 ≤ x1)) = true then
   Option.bind (f73 F x26 x27 x28 x23) fun (x29, x30) =>
   if (x30 != 0) = true then
    some (.c0 x26 x27 x28)
   else
   if (((List.length x29 : Nat) : Int) == 0) = true then
    f34_p1 F x1 x2 x3 k (w64 (x23 + 1)) x24 x25 x26 x27 x28
   else
    req ((0 : Int) ≤ (w64 (x23 - 1)) ∧ ((w64 (x23 - 1)) : Int) < ((8 : Nat) : Int)) <|
    Option.bind ((x3)[(0 + ((Int.toNat (w64 (x23 - 1))) * 1))]?) fun x31 =>
    if ((Int.tmod x31 3) == 0) = true then
     f34_p1 F x1 x2 x3 k (w64 (x23 + 1)) x24 x25 x26 x27 x28
    else
     req ((((List.length x29 : Nat) : Int) : Int) ≠ 0) <|
     Option.bind (at? x29 (Int.tmod (w64 (x31)) ((List.length x29 : Nat) : Int))) fun x32 =>
     Option.bind (f74 F x26 x27 x28 x23 x32) fun (x33, x34, x35, x36) =>
     if (x36 != 0) = true then
      some (.c0 x26 x27 x28)
     else
     if (x33 != x1) = true then
      some (.c0 x26 x27 x28)
     else
     if (x34 == x2) = true then
      if (((List.length x35 : Nat) : Int) != (w64 (2 * x1))) = true then
       some (.c0 x26 x27 x28)
      else
       f34_p1 F x1 x2 x3 k (w64 (x23 + 1)) x24 x25 x33 x34 x35
     else
      some (.c0 x26 x27 x28)
  else
   some (.c1 x24 x25 x26 x27 x28)
def f34 (F : Nat) (x1 : Int) (x2 : Bool) (x3 : List Int) : Option (Int × Bool × (List Int) × Bool) :=
 req ((0 : Int) ≤ (w64 (2 * x1)) ∧ ((w64 (2 * x1)) : Int) ≤ (w64 (2 * x1)) ∧ ((w64 (2 * x1)) : Int) ≤ 1099511627776) <|
 req ((0 + (Int.toNat (w64 (2 * x1)))) ≤ List.length (List.replicate (Int.toNat (w64 (2 * x1))) (0 : Int))) <|
 Option.bind (f34_p1 F x1 x2 x3 F 1 0 false x1 x2 (List.drop 0 (List.take (0 + (Int.toNat (w64 (2 * x1)))) (List.replicate (Int.toNat (w64 (2 * x1))) (0 : Int))))) fun
 | .c0 x37 x38 x39 =>
  some (x37, x38, x39, false)
 | .c1 x40 x41 x42 x43 x44 =>
  some (x42, x43, x44, true)

def f59_1 (F : Nat) (x1 x2 : Nat) (x3 : Int) (x4 : Bool) (x5 x6 : List Int) : Option (List Int) :=
 req ((x1 + x2) ≤ List.length x5) <|
 req (List.length ([] : List Int) + List.length (List.drop x1 (List.take (x1 + x2) x5)) ≤ 1099511627776) <|
 some (List.drop 0 (List.take (0 + (List.length (([] : List Int) ++ (List.drop x1 (List.take (x1 + x2) x5))))) (([] : List Int) ++ (List.drop x1 (List.take (x1 + x2) x5)))))

def f35 (F : Nat) (x1 : Int) (x2 : Bool) (x3 : List Int) (x4 : Int) : Option ((List Int) × Int) :=
 Option.bind (f75 F x1 x2 x3 x4) fun
 | .c0 x5 =>
  if (x5 != 0) = true then
   some (([] : List Int), x5)
  else
   none
 | .c1 x6 x7 x8 x9 x10 =>
  if (x6 != 0) = true then
   some (([] : List Int), x6)
  else
   req ((0 : Int) ≤ x4 ∧ (x4 : Int) < ((9 : Nat) : Int)) <|
   Option.bind ((x10)[(0 + ((Int.toNat x4) * 1))]?) fun x11 =>
   Option.bind (f76 F x4 x7 x8 x9 x10) fun x12 =>
   req ((0 : Int) ≤ (w64 (x11 + 1)) ∧ ((w64 (x11 + 1)) : Int) ≤ x12 ∧ (x12 : Int) ≤ ((16 : Nat) : Int)) <|
   Option.bind (f59_1 F (Int.toNat (w64 (x11 + 1))) ((Int.toNat x12) - (Int.toNat (w64 (x11 + 1)))) x7 x8 x9 x10) fun x13 =>
   some (x13, 0)

inductive f78_p1_R where
 | c0 (a0 : Int)
 | c1
def f78_p1 (F : Nat) (x1 : List (Int × (Int × Unit))) (x2 : List Int) : Nat → Int → Option f78_p1_R
 | 0, _ => none
 | k + 1, x3 =>
  if (decide (x3 < ((List.length x1 : Nat) : Int))) = true then
   Option.bind (at? x1 x3) fun x4 =>
   if (eqL x2 ([x4.1, x4.2.1] : List Int)) = true then
    some (.c0 x3)
   else
    f78_p1 F x1 x2 k (w64 (x3 + 1))
  else
   some .c1
def f78 (F : Nat) (x1 : List (Int × (Int × Unit))) (x2 : List Int) : Option Int :=
 Option.bind (f78_p1 F x1 x2 F 0) fun
 | .c0 x5 =>
  some x5
 | .c1 =>
  some (-1)

def f38 (F : Nat) (x1 : List (Int × (Int × Unit))) (x2 : List Int) : Option Bool :=
 Option.bind (f78 F x1 x2) fun x3 =>
 some (decide (x3 ≥ 0))

inductive f7_p2_R where
 | c0
 | c1 (a0 : List Int) (a1 : List Int) (a2 : List Int)
def f7_p2 (F : Nat) (x1 x4 : Int) (x5 : Bool) (x6 : List Int) : Nat → Int → (List Int) → (List Int) → (List Int) → Option f7_p2_R
 | 0, _, _, _, _ => none
 | k + 1, x19, x20, x21, x18 =>
  if (decide (x19 ≤ (w64 (1 + (Int.tmod (w64 (x1)) 8))))) = true then
   Option.bind (f35 F x4 x5 x6 x19) fun (x22, x23) =>
   if (x23 == 12) = true then
    f7_p2 F x1 x4 x5 x6 k (w64 (x19 + 1)) x20 x21 x18
   else
    Option.bind (f36 F x6 x19) fun x24 =>
    if (x23 != 0) = true then
     some .c0
    else
    if (decide (x24 < 0)) = true then
     some .c0
    else
    if (decide (((List.length x22 : Nat) : Int) > (w64 (2 * (w64 (1 + (Int.tmod (w64 (x1)) 8))))))) = true then
     some .c0
    else
     req (List.length x18 + List.length ([x19] : List Int) ≤ 1099511627776) <|
     req ((0 : Int) ≤ x19 ∧ (x19 : Int) < ((9 : Nat) : Int)) <|
     req ((0 + ((Int.toNat x19) * 1)) < 9) <|
     f7_p2 F x1 x4 x5 x6 k (w64 (x19 + 1)) (List.set x20 (0 + ((Int.toNat x19) * 1)) x24) (List.set x21 (0 + ((Int.toNat x19) * 1)) (w64 ((w64 (x24 + 1)) + ((List.length x22 : Nat) : Int)))) (x18 ++ ([x19] : List Int))
  else
   some (.c1 x20 x21 x18)
def f7_p16_7 (F : Nat) (x1 : Int) (x27 : List Int) (x83 x85 : Int) (x94 x99 : Int) (x100 x4 : Int) (x5 : Bool) (x6 x25 x26 : List Int) (x95 : Int) (x93 : List (Int × (Int × Unit))) : Option (List (Int × (Int × Unit))) :=
 if (decide (x99 < x100)) = true then
  req (List.length x93 + List.length ([(x94, (x83, ()))] : List (Int × (Int × Unit))) ≤ 1099511627776) <|
  some (x93 ++ ([(x94, (x83, ()))] : List (Int × (Int × Unit))))
 else
  some x93
def f7_p13_2 (F : Nat) (x1 : Int) (x27 : List Int) (x83 x85 x4 : Int) (x5 : Bool) (x6 x25 x26 : List Int) : Nat → Int → Int → (List (Int × (Int × Unit))) → Option (Int × (List (Int × (Int × Unit))))
 | 0, _, _, _ => none
 | k + 1, x94, x95, x93 =>
  if (decide (x94 < (((Int.toNat x83) : Nat) : Int))) = true then
   req ((0 : Int) ≤ x94 ∧ (x94 : Int) < (((Int.toNat x83) : Nat) : Int)) <|
   Option.bind ((x27)[(0 + (Int.toNat x94))]?) fun x96 =>
   req ((0 : Int) ≤ x96 ∧ (x96 : Int) < ((9 : Nat) : Int)) <|
   Option.bind ((x25)[(0 + ((Int.toNat x96) * 1))]?) fun x97 =>
   req ((0 : Int) ≤ x85 ∧ (x85 : Int) < ((9 : Nat) : Int)) <|
   Option.bind ((x26)[(0 + ((Int.toNat x85) * 1))]?) fun x98 =>
   if (decide (x97 < x98)) = true then
    Option.bind ((x25)[(0 + ((Int.toNat x85) * 1))]?) fun x99 =>
    Option.bind ((x26)[(0 + ((Int.toNat x96) * 1))]?) fun x100 =>
    Option.bind (f7_p16_7 F x1 x27 x83 x85 x94 x99 x100 x4 x5 x6 x25 x26 x95 x93) fun x101 =>
    f7_p13_2 F x1 x27 x83 x85 x4 x5 x6 x25 x26 k (w64 (x94 + 1)) x95 x101
   else
    f7_p13_2 F x1 x27 x83 x85 x4 x5 x6 x25 x26 k (w64 (x94 + 1)) x95 x93
  else
   some (x95, x93)
def f7_p9 (F : Nat) (x1 : Int) (x27 : List Int) (x4 : Int) (x5 : Bool) (x6 x25 x26 : List Int) : Nat → Int → Int → (List (Int × (Int × Unit))) → Option (Int × (List (Int × (Int × Unit))))
 | 0, _, _, _ => none
 | k + 1, x83, x84, x82 =>
  if (decide (x83 < (((List.length x27) : Nat) : Int))) = true then
   req ((0 : Int) ≤ x83 ∧ (x83 : Int) < (((List.length x27) : Nat) : Int)) <|
   Option.bind ((x27)[(0 + (Int.toNat x83))]?) fun x85 =>
   req ((0 : Int) ≤ 0 ∧ (0 : Int) ≤ x83 ∧ (x83 : Int) ≤ (((List.length x27) : Nat) : Int) ∧ 0 < (List.length x27)) <|
   Option.bind (f7_p13_2 F x1 x27 x83 x85 x4 x5 x6 x25 x26 F 0 x84 x82) fun (x102, x103) =>
   f7_p9 F x1 x27 x4 x5 x6 x25 x26 k (w64 (x83 + 1)) x102 x103
  else
   some (x84, x82)
def f7_p25 (F : Nat) (x27 : List Int) (x106 x107 : Int) (x108 x1 : Int) (x109 x112 x4 : Int) (x5 : Bool) (x6 x25 x26 : List Int) (x104 : Int) (x105 : List (Int × (Int × Unit))) : Option Int :=
 if (decide (x107 < x112)) = true then
  some (w64 (x108 + 1))
 else
  some x108
def f7_p22 (F : Nat) (x27 : List Int) (x106 x107 : Int) (x1 x4 : Int) (x5 : Bool) (x6 x25 x26 : List Int) (x104 : Int) (x105 : List (Int × (Int × Unit))) : Nat → Int → Int → Option Int
 | 0, _, _ => none
 | k + 1, x108, x109 =>
  if (decide (x109 < (((List.length x27) : Nat) : Int))) = true then
   req ((0 : Int) ≤ x109 ∧ (x109 : Int) < (((List.length x27) : Nat) : Int)) <|
   Option.bind ((x27)[(0 + (Int.toNat x109))]?) fun x110 =>
   req ((0 : Int) ≤ x110 ∧ (x110 : Int) < ((9 : Nat) : Int)) <|
   Option.bind ((x25)[(0 + ((Int.toNat x110) * 1))]?) fun x111 =>
   if (decide (x111 ≤ x107)) = true then
    Option.bind ((x26)[(0 + ((Int.toNat x110) * 1))]?) fun x112 =>
    Option.bind (f7_p25 F x27 x106 x107 x108 x1 x109 x112 x4 x5 x6 x25 x26 x104 x105) fun x113 =>
    f7_p22 F x27 x106 x107 x1 x4 x5 x6 x25 x26 x104 x105 k x113 (w64 (x109 + 1))
   else
    f7_p22 F x27 x106 x107 x1 x4 x5 x6 x25 x26 x104 x105 k x108 (w64 (x109 + 1))
  else
   some x108
def f7_p18 (F : Nat) (x27 : List Int) (x1 x4 : Int) (x5 : Bool) (x6 x25 x26 : List Int) (x104 : Int) (x105 : List (Int × (Int × Unit))) : Nat → Int → Int → Option Int
 | 0, _, _ => none
 | k + 1, x106, x107 =>
  if (decide (x107 < (w64 (2 * (w64 (1 + (Int.tmod (w64 (x1)) 8))))))) = true then
   Option.bind (f7_p22 F x27 x106 x107 x1 x4 x5 x6 x25 x26 x104 x105 F 0 0) fun x114 =>
   f7_p18 F x27 x1 x4 x5 x6 x25 x26 x104 x105 k (if x114 > x106 then x114 else x106) (w64 (x107 + 1))
  else
   some x106
inductive f7_p33_R where
 | c0
 | c1
def f7_p33 (F : Nat) (x27 : List Int) (x121 : Int) (x123 : List Int) (x4 : Int) (x5 : Bool) (x6 : List Int) (x104 : Int) (x105 : List (Int × (Int × Unit))) : Nat → Int → Option f7_p33_R
 | 0, _ => none
 | k + 1, x125 =>
  if (decide (x125 < ((List.length x123 : Nat) : Int))) = true then
   Option.bind (at? x123 x125) fun x126 =>
   Option.bind (f36 F (List.drop 0 (List.take (0 + (List.length x27)) x27)) x126) fun x127 =>
   if (decide (x127 < 0)) = true then
    some .c0
   else
   if (x121 == x127) = true then
    some .c0
   else
    Option.bind (f38 F (List.drop 0 (List.take (0 + (List.length x105)) x105)) [(if x127 < x121 then x127 else x121), (if x127 > x121 then x127 else x121)]) fun x128 =>
    if x128 = true then
     f7_p33 F x27 x121 x123 x4 x5 x6 x104 x105 k (w64 (x125 + 1))
    else
     some .c0
  else
   some .c1
inductive f7_p28_R where
 | c0
 | c1
def f7_p28 (F : Nat) (x27 : List Int) (x4 : Int) (x5 : Bool) (x6 : List Int) (x104 : Int) (x105 : List (Int × (Int × Unit))) : Nat → Int → Option f7_p28_R
 | 0, _ => none
 | k + 1, x121 =>
  if (decide (x121 < (((List.length x27) : Nat) : Int))) = true then
   req ((0 : Int) ≤ x121 ∧ (x121 : Int) < (((List.length x27) : Nat) : Int)) <|
   Option.bind ((x27)[(0 + (Int.toNat x121))]?) fun x122 =>
   Option.bind (f37 F x4 x5 x6 x122) fun (x123, x124) =>
   if (x124 != 0) = true then
    some .c0
   else
    Option.bind (f7_p33 F x27 x121 x123 x4 x5 x6 x104 x105 F 0) fun
    | .c0 =>
     some .c0
    | .c1 =>
     f7_p28 F x27 x4 x5 x6 x104 x105 k (w64 (x121 + 1))
  else
   some .c1
def f7 (F : Nat) (x1 : Int) (x2 : Bool) (x3 : List Int) : Option Bool :=
 Option.bind (f34 F (w64 (1 + (Int.tmod (w64 (x1)) 8))) x2 x3) fun (x4, x5, x6, x7) =>
 if x7 = true then
  Option.bind (f7_p2 F x1 x4 x5 x6 F 1 (List.replicate 9 0) (List.replicate 9 0) ([] : List Int)) fun
  | .c0 =>
   none
  | .c1 x25 x26 x27 =>
   if ((((List.length x27) : Nat) : Int) == 0) = true then
    Option.bind (f33 F) fun x28 =>
    some x28
   else
    Option.bind (f7_p9 F x1 x27 x4 x5 x6 x25 x26 F 0 (((List.length x27) : Nat) : Int) ([] : List (Int × (Int × Unit)))) fun (x104, x105) =>
    Option.bind (f7_p18 F x27 x1 x4 x5 x6 x25 x26 x104 x105 F 0 0) fun x115 =>
    Option.bind (f30 F x104 (List.drop 0 (List.take (0 + (List.length x105)) x105))) fun (x116, x117) =>
    Option.bind (f31 F x104 (List.drop 0 (List.take (0 + (List.length x105)) x105))) fun (x118, x119) =>
    if (x117 != 0) = true then
     none
    else
    if (x119 != 0) = true then
     none
    else
    if (((List.length x116 : Nat) : Int) != x115) = true then
     none
    else
    if (((List.length x118 : Nat) : Int) != (((List.length x27) : Nat) : Int)) = true then
     none
    else
     Option.bind (f32 F x118) fun x120 =>
     if ((w64 (x120 + 1)) != x115) = true then
      none
     else
      Option.bind (f7_p28 F x27 x4 x5 x6 x104 x105 F 0) fun
      | .c0 =>
       none
      | .c1 =>
       Option.bind (f33 F) fun x129 =>
       some x129
 else
  none

end Go.Gh.Top
