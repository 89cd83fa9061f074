/- Tz3N0: printed by wip/tool/gx.py -/
import Derived.Test.YtcaphjiiaclndaaGreatDoorGhPl
namespace Go.Gh.Tz
set_option linter.unusedVariables false
set_option linter.unusedSimpArgs false

def tab32 : List Int := [0, 1, 28, 2, 29, 14, 24, 3, 30, 22, 20, 15, 25, 17, 4, 8, 31, 27, 13, 23, 21, 19, 16, 7, 26, 12, 18, 6, 11, 5, 10, 9]
def tab64 : List Int := [0, 1, 56, 2, 57, 49, 28, 3, 61, 58, 42, 50, 38, 29, 17, 4, 62, 47, 59, 36, 45, 43, 51, 22, 53, 39, 33, 30, 24, 18, 12, 5, 63, 55, 48, 27, 60, 41, 37, 16, 46, 35, 44, 21, 52, 32, 23, 11, 54, 26, 40, 15, 34, 20, 31, 10, 25, 14, 19, 9, 13, 8, 7, 6]
def str0 : ByteArray := ⟨#[0, 1, 1, 2, 1, 2, 2, 3, 1, 2, 2, 3, 2, 3, 3, 4, 1, 2, 2, 3, 2, 3, 3, 4, 2, 3, 3, 4, 3, 4, 4, 5, 1, 2, 2, 3, 2, 3, 3, 4, 2, 3, 3, 4, 3, 4, 4, 5, 2, 3, 3, 4, 3, 4, 4, 5, 3, 4, 4, 5, 4, 5, 5, 6, 1, 2, 2, 3, 2, 3, 3, 4, 2, 3, 3, 4, 3, 4, 4, 5, 2, 3, 3, 4, 3, 4, 4, 5, 3, 4, 4, 5, 4, 5, 5, 6, 2, 3, 3, 4, 3, 4, 4, 5, 3, 4, 4, 5, 4, 5, 5, 6, 3, 4, 4, 5, 4, 5, 5, 6, 4, 5, 5, 6, 5, 6, 6, 7, 1, 2, 2, 3, 2, 3, 3, 4, 2, 3, 3, 4, 3, 4, 4, 5, 2, 3, 3, 4, 3, 4, 4, 5, 3, 4, 4, 5, 4, 5, 5, 6, 2, 3, 3, 4, 3, 4, 4, 5, 3, 4, 4, 5, 4, 5, 5, 6, 3, 4, 4, 5, 4, 5, 5, 6, 4, 5, 5, 6, 5, 6, 6, 7, 2, 3, 3, 4, 3, 4, 4, 5, 3, 4, 4, 5, 4, 5, 5, 6, 3, 4, 4, 5, 4, 5, 5, 6, 4, 5, 5, 6, 5, 6, 6, 7, 3, 4, 4, 5, 4, 5, 5, 6, 4, 5, 5, 6, 5, 6, 6, 7, 4, 5, 5, 6, 5, 6, 6, 7, 5, 6, 6, 7, 6, 7, 7, 8]⟩
def str1 : ByteArray := ⟨#[0, 1, 2, 2, 3, 3, 3, 3, 4, 4, 4, 4, 4, 4, 4, 4, 5, 5, 5, 5, 5, 5, 5, 5, 5, 5, 5, 5, 5, 5, 5, 5, 6, 6, 6, 6, 6, 6, 6, 6, 6, 6, 6, 6, 6, 6, 6, 6, 6, 6, 6, 6, 6, 6, 6, 6, 6, 6, 6, 6, 6, 6, 6, 6, 7, 7, 7, 7, 7, 7, 7, 7, 7, 7, 7, 7, 7, 7, 7, 7, 7, 7, 7, 7, 7, 7, 7, 7, 7, 7, 7, 7, 7, 7, 7, 7, 7, 7, 7, 7, 7, 7, 7, 7, 7, 7, 7, 7, 7, 7, 7, 7, 7, 7, 7, 7, 7, 7, 7, 7, 7, 7, 7, 7, 7, 7, 7, 7, 8, 8, 8, 8, 8, 8, 8, 8, 8, 8, 8, 8, 8, 8, 8, 8, 8, 8, 8, 8, 8, 8, 8, 8, 8, 8, 8, 8, 8, 8, 8, 8, 8, 8, 8, 8, 8, 8, 8, 8, 8, 8, 8, 8, 8, 8, 8, 8, 8, 8, 8, 8, 8, 8, 8, 8, 8, 8, 8, 8, 8, 8, 8, 8, 8, 8, 8, 8, 8, 8, 8, 8, 8, 8, 8, 8, 8, 8, 8, 8, 8, 8, 8, 8, 8, 8, 8, 8, 8, 8, 8, 8, 8, 8, 8, 8, 8, 8, 8, 8, 8, 8, 8, 8, 8, 8, 8, 8, 8, 8, 8, 8, 8, 8, 8, 8, 8, 8, 8, 8, 8, 8, 8, 8, 8, 8, 8, 8]⟩
def str2 : ByteArray := ⟨#[8, 0, 1, 0, 2, 0, 1, 0, 3, 0, 1, 0, 2, 0, 1, 0, 4, 0, 1, 0, 2, 0, 1, 0, 3, 0, 1, 0, 2, 0, 1, 0, 5, 0, 1, 0, 2, 0, 1, 0, 3, 0, 1, 0, 2, 0, 1, 0, 4, 0, 1, 0, 2, 0, 1, 0, 3, 0, 1, 0, 2, 0, 1, 0, 6, 0, 1, 0, 2, 0, 1, 0, 3, 0, 1, 0, 2, 0, 1, 0, 4, 0, 1, 0, 2, 0, 1, 0, 3, 0, 1, 0, 2, 0, 1, 0, 5, 0, 1, 0, 2, 0, 1, 0, 3, 0, 1, 0, 2, 0, 1, 0, 4, 0, 1, 0, 2, 0, 1, 0, 3, 0, 1, 0, 2, 0, 1, 0, 7, 0, 1, 0, 2, 0, 1, 0, 3, 0, 1, 0, 2, 0, 1, 0, 4, 0, 1, 0, 2, 0, 1, 0, 3, 0, 1, 0, 2, 0, 1, 0, 5, 0, 1, 0, 2, 0, 1, 0, 3, 0, 1, 0, 2, 0, 1, 0, 4, 0, 1, 0, 2, 0, 1, 0, 3, 0, 1, 0, 2, 0, 1, 0, 6, 0, 1, 0, 2, 0, 1, 0, 3, 0, 1, 0, 2, 0, 1, 0, 4, 0, 1, 0, 2, 0, 1, 0, 3, 0, 1, 0, 2, 0, 1, 0, 5, 0, 1, 0, 2, 0, 1, 0, 3, 0, 1, 0, 2, 0, 1, 0, 4, 0, 1, 0, 2, 0, 1, 0, 3, 0, 1, 0, 2, 0, 1, 0]⟩
def f5_p4_1 (F : Nat) (x1 : Int) (x4 : List Int) (x5 x2 : Int) : Option (List Int) :=
 if ((iAnd .i64 (iShr .i64 x1 x5) 1) == 1) = true then
  req (List.length x4 + List.length ([x5] : List Int) ≤ 1099511627776) <|
  some (x4 ++ ([x5] : List Int))
 else
  some x4
def f5_p1 (F : Nat) (x1 x2 : Int) : Nat → Int → (List Int) → Option (List Int)
 | 0, _, _ => none
 | k + 1, x5, x4 =>
  if (decide (x5 < x2)) = true then
   req ((0 : Int) ≤ x5) <|
   Option.bind (f5_p4_1 F x1 x4 x5 x2) fun x6 =>
   f5_p1 F x1 x2 k (w64 (x5 + 1)) x6
  else
   some x4
def f5 (F : Nat) (x1 x2 : Int) : Option (List Int) :=
 Option.bind (f5_p1 F x1 x2 F 0 ([] : List Int)) fun x7 =>
 some (List.drop 0 (List.take (0 + (List.length x7)) x7))

def f28 (F : Nat) (x1 : Int) : Option Bool :=
 if (decide (x1 ≥ 1)) = true then
  some (decide (x1 ≤ 7))
 else
  some false

def f52 (F : Nat) (x1 : Int) : Option Int :=
 req ((0 : Int) ≤ (iShr .u16 x1 8) ∧ ((iShr .u16 x1 8) : Int) < ((256 : Nat) : Int)) <|
 req ((0 : Int) ≤ (iAnd .u16 x1 255) ∧ ((iAnd .u16 x1 255) : Int) < ((256 : Nat) : Int)) <|
 some (w64 ((IntKind.wrap .u8 ((strAt str0 (iShr .u16 x1 8)) + (strAt str0 (iAnd .u16 x1 255))))))

def f53 (F : Nat) (x1 : List Int) : Option (List Int) :=
 req ((0 : Int) ≤ 0 ∧ (0 : Int) ≤ ((List.length x1 : Nat) : Int) ∧ (((List.length x1 : Nat) : Int) : Int) ≤ ((List.length x1 : Nat) : Int) ∧ ((List.length x1 : Nat) : Int) = ((List.length x1 : Nat) : Int)) <|
 some (List.drop 0 (List.take (List.length x1) x1))

def f29_p2 (F : Nat) (x4 : List Int) (x5 x6 x1 : Int) (x2 : List Int) (x3 : Int) : Option Int :=
 if (decide (((List.length x4 : Nat) : Int) > 0)) = true then
  Option.bind (at? x4 (w64 (((List.length x4 : Nat) : Int) - 1))) fun x8 =>
  some (w64 (x8 + 1))
 else
  some 0
inductive f29_p4_R where
 | c0 (a0 : List Int)
 | c1
def f29_p4 (F : Nat) (rec : Int → (List Int) → Int → (List Int) → Int → Int → Option ((List Int) × Bool)) (x4 : List Int) (x5 x6 x1 : Int) (x2 : List Int) (x3 : Int) : Nat → Int → Option f29_p4_R
 | 0, _ => none
 | k + 1, x10 =>
  if (decide (x10 < ((List.length x2 : Nat) : Int))) = true then
   Option.bind (f53 F x4) fun x11 =>
   req (List.length x11 + List.length ([x10] : List Int) ≤ 1099511627776) <|
   Option.bind (at? x2 x10) fun x12 =>
   Option.bind (rec x1 x2 x3 (x11 ++ ([x10] : List Int)) (iOr .u16 x5 x12) (w64 (x6 - 1))) fun (x13, x14) =>
   if x14 = true then
    some (.c0 x13)
   else
    f29_p4 F rec x4 x5 x6 x1 x2 x3 k (w64 (x10 + 1))
  else
   some .c1
def f29_b (F : Nat) (rec : Int → (List Int) → Int → (List Int) → Int → Int → Option ((List Int) × Bool)) (x1 : Int) (x2 : List Int) (x3 : Int) (x4 : List Int) (x5 x6 : Int) : Option ((List Int) × Bool) :=
 if (x6 == 0) = true then
  some (x4, (x5 == x3))
 else
  Option.bind (f52 F (iAndNot .u16 x3 x5)) fun x7 =>
  if (decide (x7 > (w64 (x6 * (w64 (x1 + 1)))))) = true then
   some (([] : List Int), false)
  else
   Option.bind (f29_p2 F x4 x5 x6 x1 x2 x3) fun x9 =>
   Option.bind (f29_p4 F rec x4 x5 x6 x1 x2 x3 F x9) fun
   | .c0 x15 =>
    some (x15, true)
   | .c1 =>
    some (([] : List Int), false)
def f29 (F : Nat) : Nat → Int → (List Int) → Int → (List Int) → Int → Int → Option ((List Int) × Bool)
 | 0 => fun _ _ _ _ _ _ => none
 | k + 1 => f29_b F (f29 F k)

def f6_p8_2 (F : Nat) (x1 x14 x15 : Int) (x13 : List Int) (x16 : Int) : Nat → Int → Int → Option Int
 | 0, _, _ => none
 | k + 1, x17, x18 =>
  if (decide (x18 < x1)) = true then
   req ((0 : Int) ≤ x18) <|
   req ((0 : Int) ≤ (iXor .i64 x14 (iShl .i64 1 x18))) <|
   f6_p8_2 F x1 x14 x15 x13 x16 k (iOr .u16 x17 (iShl .u16 1 (iXor .i64 x14 (iShl .i64 1 x18)))) (w64 (x18 + 1))
  else
   some x17
def f6_p4 (F : Nat) (x1 : Int) : Nat → Int → Int → Int → (List Int) → Option (Int × Int × (List Int))
 | 0, _, _, _, _ => none
 | k + 1, x14, x15, x16, x13 =>
  if (decide (x14 < (iShl .i64 1 x1))) = true then
   req ((0 : Int) ≤ x14) <|
   Option.bind (f6_p8_2 F x1 x14 x15 x13 x16 F (iShl .u16 1 x14) 0) fun x19 =>
   req (List.length x13 + List.length ([x19] : List Int) ≤ 1099511627776) <|
   f6_p4 F x1 k (w64 (x14 + 1)) x15 x16 (x13 ++ ([x19] : List Int))
  else
   some (x15, x16, x13)
inductive f6_p12_R where
 | c0 (a0 : List Int)
 | c1
def f6_p12 (F : Nat) (x20 : Int) (x22 : List Int) (x21 : Int) : Nat → Int → Option f6_p12_R
 | 0, _ => none
 | k + 1, x26 =>
  if (decide (x26 ≤ ((List.length (List.drop 0 (List.take (0 + (List.length x22)) x22)) : Nat) : Int))) = true then
   Option.bind (f29 F F x20 (List.drop 0 (List.take (0 + (List.length x22)) x22)) x21 ([] : List Int) 0 x26) fun (x27, x28) =>
   if x28 = true then
    some (.c0 x27)
   else
    f6_p12 F x20 x22 x21 k (w64 (x26 + 1))
  else
   some .c1
def f6 (F : Nat) (x1 : Int) : Option ((List Int) × Int) :=
 Option.bind (f28 F x1) fun x2 =>
 if x2 = true then
  if (decide (x1 > 4)) = true then
   some (([] : List Int), 3)
  else
   req ((0 : Int) ≤ x1) <|
   req ((0 : Int) ≤ (iShl .u64 1 x1)) <|
   Option.bind (f6_p4 F x1 F 0 x1 (IntKind.wrap .u16 ((iShl .u16 1 (iShl .u64 1 x1)) - 1)) ([] : List Int)) fun (x20, x21, x22) =>
   Option.bind (f6_p12 F x20 x22 x21 F 1) fun
   | .c0 x29 =>
    some (x29, 0)
   | .c1 =>
    some (([] : List Int), 12)
 else
  some (([] : List Int), 1)

def f54 (F : Nat) (x1 : Int) : Option Bool :=
 if (decide (x1 ≥ 1)) = true then
  some (decide (x1 ≤ 6))
 else
  some false

inductive f55_p1_R where
 | c0 (a0 : Int)
 | c1 (a0 : Int)
def f55_p1 (F : Nat) (x1 : Int) (x2 : List Int) : Nat → Int → Int → Int → Option f55_p1_R
 | 0, _, _, _ => none
 | k + 1, x3, x4, x5 =>
  if (decide (x5 < ((List.length x2 : Nat) : Int))) = true then
   Option.bind (at? x2 x5) fun x6 =>
   if (decide (x6 < 0)) = true then
    some (.c0 2)
   else
   if (decide (x6 ≥ x1)) = true then
    some (.c0 2)
   else
   if (decide (x6 ≤ x4)) = true then
    some (.c0 7)
   else
    req ((0 : Int) ≤ x6) <|
    f55_p1 F x1 x2 k (iOr .u64 x3 (iShl .u64 1 x6)) x6 (w64 (x5 + 1))
  else
   some (.c1 x3)
def f55 (F : Nat) (x1 : Int) (x2 : List Int) : Option (Int × Int) :=
 Option.bind (f55_p1 F x1 x2 F 0 (-1) 0) fun
 | .c0 x7 =>
  some (0, x7)
 | .c1 x8 =>
  some (x8, 0)

inductive f91_p1_R where
 | c0 (a0 : Int)
 | c1
def f91_p1 (F : Nat) (x1 : List Int) (x2 : Int) : Nat → Int → Option f91_p1_R
 | 0, _ => none
 | k + 1, x3 =>
  if (decide (x3 < ((List.length x1 : Nat) : Int))) = true then
   Option.bind (at? x1 x3) fun x4 =>
   if (x2 == x4) = true then
    some (.c0 x3)
   else
    f91_p1 F x1 x2 k (w64 (x3 + 1))
  else
   some .c1
def f91 (F : Nat) (x1 : List Int) (x2 : Int) : Option Int :=
 Option.bind (f91_p1 F x1 x2 F 0) fun
 | .c0 x5 =>
  some x5
 | .c1 =>
  some (-1)

def f56 (F : Nat) (x1 : List Int) (x2 : Int) : Option Bool :=
 Option.bind (f91 F x1 x2) fun x3 =>
 some (decide (x3 ≥ 0))

inductive f30_p2_R where
 | c0 (a0 : Int)
 | c1 (a0 : List Int)
def f30_p2 (F : Nat) (x2 : List (List Int)) (x1 : Int) : Nat → Int → (List Int) → Option f30_p2_R
 | 0, _, _ => none
 | k + 1, x10, x9 =>
  if (decide (x10 < ((List.length x2 : Nat) : Int))) = true then
   Option.bind (at? x2 x10) fun x11 =>
   Option.bind (f55 F x1 x11) fun (x12, x13) =>
   if (x13 != 0) = true then
    some (.c0 x13)
   else
    Option.bind (f56 F (List.drop 0 (List.take (0 + (List.length x9)) x9)) x12) fun x14 =>
    if x14 = true then
     some (.c0 6)
    else
     req (List.length x9 + List.length ([x12] : List Int) ≤ 1099511627776) <|
     f30_p2 F x2 x1 k (w64 (x10 + 1)) (x9 ++ ([x12] : List Int))
  else
   some (.c1 x9)
def f30 (F : Nat) (x1 : Int) (x2 : List (List Int)) : Option ((List Int) × Int) :=
 Option.bind (f54 F x1) fun x3 =>
 if x3 = true then
  Option.bind (f30_p2 F x2 x1 F 0 ([] : List Int)) fun
  | .c0 x15 =>
   some (([] : List Int), x15)
  | .c1 x16 =>
   some ((List.drop 0 (List.take (0 + (List.length x16)) x16)), 0)
 else
  some (([] : List Int), 1)

def f32_p8_2 (F : Nat) (x1 : Int) (x3 : Bool) (x16 : List Int) (x15 x17 : Int) (x2 : List Int) (x14 : Int) (x18 : Bool) : Option (List Int) :=
 if x18 = true then
  some x16
 else
  req (List.length x16 + List.length ([(iXor .u64 x15 (iShl .u64 1 x17))] : List Int) ≤ 1099511627776) <|
  some (x16 ++ ([(iXor .u64 x15 (iShl .u64 1 x17))] : List Int))
def f32_p5_1 (F : Nat) (x1 : Int) (x3 : Bool) (x15 : Int) (x2 : List Int) (x14 : Int) : Nat → Int → (List Int) → Option (List Int)
 | 0, _, _ => none
 | k + 1, x17, x16 =>
  if (decide (x17 < x1)) = true then
   req ((0 : Int) ≤ x17) <|
   if ((decide ((iXor .u64 x15 (iShl .u64 1 x17)) > x15)) == x3) = true then
    Option.bind (f56 F (List.drop 0 (List.take (0 + (List.length x16)) x16)) (iXor .u64 x15 (iShl .u64 1 x17))) fun x18 =>
    Option.bind (f32_p8_2 F x1 x3 x16 x15 x17 x2 x14 x18) fun x19 =>
    f32_p5_1 F x1 x3 x15 x2 x14 k (w64 (x17 + 1)) x19
   else
    f32_p5_1 F x1 x3 x15 x2 x14 k (w64 (x17 + 1)) x16
  else
   some x16
def f32_p1 (F : Nat) (x1 : Int) (x3 : Bool) (x2 : List Int) : Nat → Int → (List Int) → Option (List Int)
 | 0, _, _ => none
 | k + 1, x14, x13 =>
  if (decide (x14 < ((List.length x2 : Nat) : Int))) = true then
   Option.bind (at? x2 x14) fun x15 =>
   Option.bind (f32_p5_1 F x1 x3 x15 x2 x14 F 0 x13) fun x20 =>
   f32_p1 F x1 x3 x2 k (w64 (x14 + 1)) x20
  else
   some x13
def f32 (F : Nat) (x1 : Int) (x2 : List Int) (x3 : Bool) : Option (List Int) :=
 Option.bind (f32_p1 F x1 x3 x2 F 0 ([] : List Int)) fun x21 =>
 some (List.drop 0 (List.take (0 + (List.length x21)) x21))

def f112 (F : Nat) (x1 : Int) : Option Int :=
 if (x1 == 0) = true then
  some 64
 else
  Option.bind (at? tab64 (iShr .u64 (IntKind.wrap .u64 ((iAnd .u64 x1 (IntKind.wrap .u64 (0 - x1))) * 285870213051353865)) 58)) fun x2 =>
  some (w64 (x2))

def f92 (F : Nat) (x1 : Int) : Option Int :=
 Option.bind (f112 F x1) fun x2 =>
 some x2

def f58_p1 (F : Nat) : Nat → Int → (List Int) → Option (List Int)
 | 0, _, _ => none
 | k + 1, x5, x4 =>
  if (x5 != 0) = true then
   Option.bind (f92 F x5) fun x6 =>
   req (List.length x4 + List.length ([x6] : List Int) ≤ 1099511627776) <|
   f58_p1 F k (iAnd .u64 x5 (IntKind.wrap .u64 (x5 - 1))) (x4 ++ ([x6] : List Int))
  else
   some x4
def f58 (F : Nat) (x1 : Int) : Option (List Int) :=
 Option.bind (f58_p1 F F x1 ([] : List Int)) fun x7 =>
 some (List.drop 0 (List.take (0 + (List.length x7)) x7))

def f57_p1 (F : Nat) (x1 : List Int) : Nat → Int → (List (List Int)) → Option (List (List Int))
 | 0, _, _ => none
 | k + 1, x6, x5 =>
  if (decide (x6 < ((List.length x1 : Nat) : Int))) = true then
   Option.bind (at? x1 x6) fun x7 =>
   Option.bind (f58 F x7) fun x8 =>
   req (List.length x5 + List.length ([x8] : List (List Int)) ≤ 1099511627776) <|
   f57_p1 F x1 k (w64 (x6 + 1)) (x5 ++ ([x8] : List (List Int)))
  else
   some x5
def f57 (F : Nat) (x1 : List Int) : Option (List (List Int)) :=
 Option.bind (f57_p1 F x1 F 0 ([] : List (List Int))) fun x9 =>
 some x9

def f74_p0 (F : Nat) (x1 : Int) : Option (Int × Int) :=
 if (decide (x1 ≥ 4294967296)) = true then
  some ((iShr .u64 x1 32), 32)
 else
  some (x1, 0)
def f74_p1 (F : Nat) (x2 x3 : Int) : Option (Int × Int) :=
 if (decide (x2 ≥ 65536)) = true then
  some ((iShr .u64 x2 16), (w64 (x3 + 16)))
 else
  some (x2, x3)
def f74_p2 (F : Nat) (x4 x5 : Int) : Option (Int × Int) :=
 if (decide (x4 ≥ 256)) = true then
  some ((iShr .u64 x4 8), (w64 (x5 + 8)))
 else
  some (x4, x5)
def f74 (F : Nat) (x1 : Int) : Option Int :=
 Option.bind (f74_p0 F x1) fun (x2, x3) =>
 Option.bind (f74_p1 F x2 x3) fun (x4, x5) =>
 Option.bind (f74_p2 F x4 x5) fun (x6, x7) =>
 req ((0 : Int) ≤ (IntKind.wrap .u8 (x6)) ∧ ((IntKind.wrap .u8 (x6)) : Int) < ((256 : Nat) : Int)) <|
 some (w64 (x7 + (w64 ((strAt str1 (IntKind.wrap .u8 (x6)))))))

def f39 (F : Nat) (x1 : Int) : Option Int :=
 Option.bind (f74 F x1) fun x2 =>
 some x2

def f105 (F : Nat) (x1 : Int) : Option Bool :=
 some (x1 != x1)

def f94 (F : Nat) (x1 x2 : Int) : Option Int :=
 Option.bind (f105 F x1) fun x3 =>
 Option.bind (f105 F x2) fun x4 =>
 if x3 = true then
  if x4 = true then
   some 0
  else
   some (-1)
 else
 if x4 = true then
  some 1
 else
 if (decide (x1 < x2)) = true then
  some (-1)
 else
 if (decide (x1 > x2)) = true then
  some 1
 else
  some 0

inductive f60_p1_R where
 | c0 (a0 : Int)
 | c1
def f60_p1 (F : Nat) (x1 x2 : List Int) : Nat → Int → Option f60_p1_R
 | 0, _ => none
 | k + 1, x3 =>
  if (decide (x3 < ((List.length x1 : Nat) : Int))) = true then
   Option.bind (at? x1 x3) fun x4 =>
   if (decide (x3 ≥ ((List.length x2 : Nat) : Int))) = true then
    some (.c0 1)
   else
    Option.bind (at? x2 x3) fun x5 =>
    Option.bind (f94 F x4 x5) fun x6 =>
    if (x6 != 0) = true then
     some (.c0 x6)
    else
     f60_p1 F x1 x2 k (w64 (x3 + 1))
  else
   some .c1
def f60 (F : Nat) (x1 x2 : List Int) : Option Int :=
 Option.bind (f60_p1 F x1 x2 F 0) fun
 | .c0 x7 =>
  some x7
 | .c1 =>
  if (decide (((List.length x1 : Nat) : Int) < ((List.length x2 : Nat) : Int))) = true then
   some (-1)
  else
   some 0

def f113_p5_1 (F : Nat) (x1 x2 : Nat) (x3 x4 x18 : Int) : Nat → Int → (List (List Int)) → Option (List (List Int))
 | 0, _, _ => none
 | k + 1, x24, x23 =>
  if (decide (x24 > x3)) = true then
   req ((0 : Int) ≤ x24 ∧ (x24 : Int) < ((x2 : Nat) : Int)) <|
   Option.bind ((x23)[(x1 + (Int.toNat x24))]?) fun x25 =>
   req ((0 : Int) ≤ (w64 (x24 - 1)) ∧ ((w64 (x24 - 1)) : Int) < ((x2 : Nat) : Int)) <|
   Option.bind ((x23)[(x1 + (Int.toNat (w64 (x24 - 1))))]?) fun x26 =>
   Option.bind (f60 F x25 x26) fun x27 =>
   if (decide (x27 < 0)) = true then
    req ((x1 + (Int.toNat x24)) < List.length x23) <|
    req ((x1 + (Int.toNat (w64 (x24 - 1)))) < List.length (List.set x23 (x1 + (Int.toNat x24)) x26)) <|
    f113_p5_1 F x1 x2 x3 x4 x18 k (w64 (x24 - 1)) (List.set (List.set x23 (x1 + (Int.toNat x24)) x26) (x1 + (Int.toNat (w64 (x24 - 1)))) x25)
   else
    some x23
  else
   some x23
def f113_p1 (F : Nat) (x1 x2 : Nat) (x3 x4 : Int) : Nat → Int → (List (List Int)) → Option (List (List Int))
 | 0, _, _ => none
 | k + 1, x18, x17 =>
  if (decide (x18 < x4)) = true then
   Option.bind (f113_p5_1 F x1 x2 x3 x4 x18 F x18 x17) fun x28 =>
   f113_p1 F x1 x2 x3 x4 k (w64 (x18 + 1)) x28
  else
   some x17
def f113 (F : Nat) (x1 x2 : Nat) (x3 x4 : Int) (x5 : List (List Int)) : Option (List (List Int)) :=
 Option.bind (f113_p1 F x1 x2 x3 x4 F (w64 (x3 + 1)) x5) fun x29 =>
 some x29

def f101 (F : Nat) (x1 : Int) : Option Int :=
 Option.bind (f39 F (IntKind.wrap .u64 (x1))) fun x2 =>
 req ((0 : Int) ≤ x2) <|
 some (iShl .u64 1 x2)

def f102 (F : Nat) (x1 : Int) : Option (Int × Int) :=
 some ((iXor .u64 (iXor .u64 (iXor .u64 x1 (iShl .u64 x1 13)) (iShr .u64 (iXor .u64 x1 (iShl .u64 x1 13)) 7)) (iShl .u64 (iXor .u64 (iXor .u64 x1 (iShl .u64 x1 13)) (iShr .u64 (iXor .u64 x1 (iShl .u64 x1 13)) 7)) 17)), (iXor .u64 (iXor .u64 (iXor .u64 x1 (iShl .u64 x1 13)) (iShr .u64 (iXor .u64 x1 (iShl .u64 x1 13)) 7)) (iShl .u64 (iXor .u64 (iXor .u64 x1 (iShl .u64 x1 13)) (iShr .u64 (iXor .u64 x1 (iShl .u64 x1 13)) 7)) 17)))

def f115_p5_1 (F : Nat) (x1 x2 : Nat) (x3 x4 : Int) (x6 x14 x16 : Int) (x13 : List (List Int)) (x17 : Int) : Option Int :=
 if (decide ((w64 ((iAnd .u64 x16 (IntKind.wrap .u64 (x6 - 1))))) ≥ (w64 (x4 - x3)))) = true then
  some (w64 ((w64 ((iAnd .u64 x16 (IntKind.wrap .u64 (x6 - 1))))) - (w64 (x4 - x3))))
 else
  some (w64 ((iAnd .u64 x16 (IntKind.wrap .u64 (x6 - 1)))))
def f115_p2 (F : Nat) (x1 x2 : Nat) (x3 x4 x6 : Int) : Nat → Int → (List (List Int)) → Int → Option (List (List Int))
 | 0, _, _, _ => none
 | k + 1, x14, x13, x15 =>
  if (decide (x14 ≤ (w64 ((w64 (x3 + (w64 ((w64 (Int.tdiv (w64 (x4 - x3)) 4)) * 2)))) + 1)))) = true then
   Option.bind (f102 F x15) fun (x16, x17) =>
   Option.bind (f115_p5_1 F x1 x2 x3 x4 x6 x14 x16 x13 x17) fun x18 =>
   req ((0 : Int) ≤ (w64 (x3 + x18)) ∧ ((w64 (x3 + x18)) : Int) < ((x2 : Nat) : Int)) <|
   Option.bind ((x13)[(x1 + (Int.toNat (w64 (x3 + x18))))]?) fun x19 =>
   req ((0 : Int) ≤ x14 ∧ (x14 : Int) < ((x2 : Nat) : Int)) <|
   Option.bind ((x13)[(x1 + (Int.toNat x14))]?) fun x20 =>
   req ((x1 + (Int.toNat x14)) < List.length x13) <|
   req ((x1 + (Int.toNat (w64 (x3 + x18)))) < List.length (List.set x13 (x1 + (Int.toNat x14)) x19)) <|
   f115_p2 F x1 x2 x3 x4 x6 k (w64 (x14 + 1)) (List.set (List.set x13 (x1 + (Int.toNat x14)) x19) (x1 + (Int.toNat (w64 (x3 + x18)))) x20) x17
  else
   some x13
def f115_p0 (F : Nat) (x1 x2 : Nat) (x3 x4 : Int) (x5 : List (List Int)) : Option (List (List Int)) :=
 if (decide ((w64 (x4 - x3)) ≥ 8)) = true then
  Option.bind (f101 F (w64 (x4 - x3))) fun x6 =>
  Option.bind (f115_p2 F x1 x2 x3 x4 x6 F (w64 ((w64 (x3 + (w64 ((w64 (Int.tdiv (w64 (x4 - x3)) 4)) * 2)))) - 1)) x5 (IntKind.wrap .u64 ((w64 (x4 - x3))))) fun x21 =>
  some x21
 else
  some x5
def f115 (F : Nat) (x1 x2 : Nat) (x3 x4 : Int) (x5 : List (List Int)) : Option (List (List Int)) :=
 Option.bind (f115_p0 F x1 x2 x3 x4 x5) fun x22 =>
 some x22

def f167 (F : Nat) (x1 x2 : Nat) (x3 x4 : Int) (x5 : List (List Int)) (x6 : Int) : Option (Int × Int × Int) :=
 req ((0 : Int) ≤ x4 ∧ (x4 : Int) < ((x2 : Nat) : Int)) <|
 Option.bind ((x5)[(x1 + (Int.toNat x4))]?) fun x7 =>
 req ((0 : Int) ≤ x3 ∧ (x3 : Int) < ((x2 : Nat) : Int)) <|
 Option.bind ((x5)[(x1 + (Int.toNat x3))]?) fun x8 =>
 Option.bind (f60 F x7 x8) fun x9 =>
 if (decide (x9 < 0)) = true then
  some (x4, x3, (w64 (x6 + 1)))
 else
  some (x3, x4, x6)

def f144 (F : Nat) (x1 x2 : Nat) (x3 x4 x5 : Int) (x6 : List (List Int)) (x7 : Int) : Option (Int × Int) :=
 Option.bind (f167 F x1 x2 x3 x4 x6 x7) fun (x8, x9, x10) =>
 Option.bind (f167 F x1 x2 x9 x5 x6 x10) fun (x11, x12, x13) =>
 Option.bind (f167 F x1 x2 x8 x11 x6 x13) fun (x14, x15, x16) =>
 some (x15, x16)

def f116_p1 (F : Nat) (x1 x2 : Nat) (x3 x4 : Int) (x5 : List (List Int)) : Option Unit :=
 if (decide ((w64 (x4 - x3)) ≥ 50)) = true then
  none
 else
  some ()
def f116_p0 (F : Nat) (x1 x2 : Nat) (x4 x3 : Int) (x5 : List (List Int)) : Option (Int × Int) :=
 if (decide ((w64 (x4 - x3)) ≥ 8)) = true then
  Option.bind (f116_p1 F x1 x2 x3 x4 x5) fun _ =>
  Option.bind (f144 F x1 x2 (w64 (x3 + (w64 ((w64 (Int.tdiv (w64 (x4 - x3)) 4)) * 1)))) (w64 (x3 + (w64 ((w64 (Int.tdiv (w64 (x4 - x3)) 4)) * 2)))) (w64 (x3 + (w64 ((w64 (Int.tdiv (w64 (x4 - x3)) 4)) * 3)))) x5 0) fun (x6, x7) =>
  some (x6, x7)
 else
  some ((w64 (x3 + (w64 ((w64 (Int.tdiv (w64 (x4 - x3)) 4)) * 2)))), 0)
def f116 (F : Nat) (x1 x2 : Nat) (x3 x4 : Int) (x5 : List (List Int)) : Option (Int × Int) :=
 Option.bind (f116_p0 F x1 x2 x4 x3 x5) fun (x8, x9) =>
 if (x9 == 0) = true then
  some (x8, 1)
 else
 if (x9 == 12) = true then
  some (x8, 2)
 else
  some (x8, 0)

def f118_p5 (F : Nat) (x1 x2 : Nat) (x3 x4 x7 : Int) (x5 : List (List Int)) : Nat → Int → Option Int
 | 0, _ => none
 | k + 1, x8 =>
  if (decide (x8 < x4)) = true then
   req ((0 : Int) ≤ x8 ∧ (x8 : Int) < ((x2 : Nat) : Int)) <|
   Option.bind ((x5)[(x1 + (Int.toNat x8))]?) fun x9 =>
   req ((0 : Int) ≤ (w64 (x8 - 1)) ∧ ((w64 (x8 - 1)) : Int) < ((x2 : Nat) : Int)) <|
   Option.bind ((x5)[(x1 + (Int.toNat (w64 (x8 - 1))))]?) fun x10 =>
   Option.bind (f60 F x9 x10) fun x11 =>
   if (decide (x11 < 0)) = true then
    some x8
   else
    f118_p5 F x1 x2 x3 x4 x7 x5 k (w64 (x8 + 1))
  else
   some x8
inductive f118_p1_R where
 | c0 (a0 : Bool)
 | c1
def f118_p1 (F : Nat) (x1 x2 : Nat) (x3 x4 : Int) (x5 : List (List Int)) : Nat → Int → Int → Option f118_p1_R
 | 0, _, _ => none
 | k + 1, x6, x7 =>
  if (decide (x7 < 5)) = true then
   Option.bind (f118_p5 F x1 x2 x3 x4 x7 x5 F x6) fun x12 =>
   if (x12 == x4) = true then
    some (.c0 true)
   else
   if (decide ((w64 (x4 - x3)) < 50)) = true then
    some (.c0 false)
   else
    none
  else
   some .c1
def f118 (F : Nat) (x1 x2 : Nat) (x3 x4 : Int) (x5 : List (List Int)) : Option Bool :=
 Option.bind (f118_p1 F x1 x2 x3 x4 x5 F (w64 (x3 + 1)) 0) fun
 | .c0 x13 =>
  some x13
 | .c1 =>
  some false

def f119_p4_1 (F : Nat) (x1 x2 : Nat) (x3 x25 : Int) (x23 : List (List Int)) : Nat → Int → Option Int
 | 0, _ => none
 | k + 1, x26 =>
  if (decide (x26 ≤ x25)) = true then
   req ((0 : Int) ≤ x3 ∧ (x3 : Int) < ((x2 : Nat) : Int)) <|
   Option.bind ((x23)[(x1 + (Int.toNat x3))]?) fun x27 =>
   req ((0 : Int) ≤ x26 ∧ (x26 : Int) < ((x2 : Nat) : Int)) <|
   Option.bind ((x23)[(x1 + (Int.toNat x26))]?) fun x28 =>
   Option.bind (f60 F x27 x28) fun x29 =>
   if (decide (x29 < 0)) = true then
    some x26
   else
    f119_p4_1 F x1 x2 x3 x25 x23 k (w64 (x26 + 1))
  else
   some x26
def f119_p8_1 (F : Nat) (x1 x2 : Nat) (x3 x30 : Int) (x23 : List (List Int)) : Nat → Int → Option Int
 | 0, _ => none
 | k + 1, x31 =>
  if (decide (x30 ≤ x31)) = true then
   req ((0 : Int) ≤ x3 ∧ (x3 : Int) < ((x2 : Nat) : Int)) <|
   Option.bind ((x23)[(x1 + (Int.toNat x3))]?) fun x32 =>
   req ((0 : Int) ≤ x31 ∧ (x31 : Int) < ((x2 : Nat) : Int)) <|
   Option.bind ((x23)[(x1 + (Int.toNat x31))]?) fun x33 =>
   Option.bind (f60 F x32 x33) fun x34 =>
   if (decide (x34 < 0)) = true then
    f119_p8_1 F x1 x2 x3 x30 x23 k (w64 (x31 - 1))
   else
    some x31
  else
   some x31
def f119_p1 (F : Nat) (x1 x2 : Nat) (x3 : Int) : Nat → Int → Int → (List (List Int)) → Option (Int × (List (List Int)))
 | 0, _, _, _ => none
 | k + 1, x24, x25, x23 =>
  Option.bind (f119_p4_1 F x1 x2 x3 x25 x23 F x24) fun x30 =>
  Option.bind (f119_p8_1 F x1 x2 x3 x30 x23 F x25) fun x35 =>
  if (decide (x30 > x35)) = true then
   some (x30, x23)
  else
   req ((0 : Int) ≤ x35 ∧ (x35 : Int) < ((x2 : Nat) : Int)) <|
   Option.bind ((x23)[(x1 + (Int.toNat x35))]?) fun x36 =>
   req ((0 : Int) ≤ x30 ∧ (x30 : Int) < ((x2 : Nat) : Int)) <|
   Option.bind ((x23)[(x1 + (Int.toNat x30))]?) fun x37 =>
   req ((x1 + (Int.toNat x30)) < List.length x23) <|
   req ((x1 + (Int.toNat x35)) < List.length (List.set x23 (x1 + (Int.toNat x30)) x36)) <|
   f119_p1 F x1 x2 x3 k (w64 (x30 + 1)) (w64 (x35 - 1)) (List.set (List.set x23 (x1 + (Int.toNat x30)) x36) (x1 + (Int.toNat x35)) x37)
def f119 (F : Nat) (x1 x2 : Nat) (x3 x4 x5 : Int) (x6 : List (List Int)) : Option (Int × (List (List Int))) :=
 req ((0 : Int) ≤ x5 ∧ (x5 : Int) < ((x2 : Nat) : Int)) <|
 Option.bind ((x6)[(x1 + (Int.toNat x5))]?) fun x7 =>
 req ((0 : Int) ≤ x3 ∧ (x3 : Int) < ((x2 : Nat) : Int)) <|
 Option.bind ((x6)[(x1 + (Int.toNat x3))]?) fun x8 =>
 req ((x1 + (Int.toNat x3)) < List.length x6) <|
 req ((x1 + (Int.toNat x5)) < List.length (List.set x6 (x1 + (Int.toNat x3)) x7)) <|
 Option.bind (f119_p1 F x1 x2 x3 F (w64 (x3 + 1)) (w64 (x4 - 1)) (List.set (List.set x6 (x1 + (Int.toNat x3)) x7) (x1 + (Int.toNat x5)) x8)) fun (x38, x39) =>
 some (x38, x39)

def f120_p1 (F : Nat) (x1 x2 : Nat) (x3 x4 : Int) (x6 : List (List Int)) (x7 : (List Int)) (x5 : Int) (x8 : (List Int)) : Nat → Int → Option Int
 | 0, _ => none
 | k + 1, x9 =>
  if (decide (x9 ≤ (w64 (x4 - 1)))) = true then
   req ((0 : Int) ≤ x9 ∧ (x9 : Int) < ((x2 : Nat) : Int)) <|
   Option.bind (((List.set (List.set x6 (x1 + (Int.toNat x3)) x7) (x1 + (Int.toNat x5)) x8))[(x1 + (Int.toNat x9))]?) fun x10 =>
   req ((0 : Int) ≤ x3 ∧ (x3 : Int) < ((x2 : Nat) : Int)) <|
   Option.bind (((List.set (List.set x6 (x1 + (Int.toNat x3)) x7) (x1 + (Int.toNat x5)) x8))[(x1 + (Int.toNat x3))]?) fun x11 =>
   Option.bind (f60 F x10 x11) fun x12 =>
   if (decide (x12 < 0)) = true then
    f120_p1 F x1 x2 x3 x4 x6 x7 x5 x8 k (w64 (x9 + 1))
   else
    some x9
  else
   some x9
def f120_p5 (F : Nat) (x1 x2 : Nat) (x3 x13 : Int) (x6 : List (List Int)) (x7 : (List Int)) (x5 : Int) (x8 : (List Int)) : Nat → Int → Option Int
 | 0, _ => none
 | k + 1, x14 =>
  if (decide (x13 ≤ x14)) = true then
   req ((0 : Int) ≤ x14 ∧ (x14 : Int) < ((x2 : Nat) : Int)) <|
   Option.bind (((List.set (List.set x6 (x1 + (Int.toNat x3)) x7) (x1 + (Int.toNat x5)) x8))[(x1 + (Int.toNat x14))]?) fun x15 =>
   req ((0 : Int) ≤ x3 ∧ (x3 : Int) < ((x2 : Nat) : Int)) <|
   Option.bind (((List.set (List.set x6 (x1 + (Int.toNat x3)) x7) (x1 + (Int.toNat x5)) x8))[(x1 + (Int.toNat x3))]?) fun x16 =>
   Option.bind (f60 F x15 x16) fun x17 =>
   if (decide (x17 < 0)) = true then
    some x14
   else
    f120_p5 F x1 x2 x3 x13 x6 x7 x5 x8 k (w64 (x14 - 1))
  else
   some x14
def f120_p13_1 (F : Nat) (x1 x2 : Nat) (x3 x39 : Int) (x37 : List (List Int)) : Nat → Int → Option Int
 | 0, _ => none
 | k + 1, x40 =>
  if (decide (x40 ≤ x39)) = true then
   req ((0 : Int) ≤ x40 ∧ (x40 : Int) < ((x2 : Nat) : Int)) <|
   Option.bind ((x37)[(x1 + (Int.toNat x40))]?) fun x41 =>
   req ((0 : Int) ≤ x3 ∧ (x3 : Int) < ((x2 : Nat) : Int)) <|
   Option.bind ((x37)[(x1 + (Int.toNat x3))]?) fun x42 =>
   Option.bind (f60 F x41 x42) fun x43 =>
   if (decide (x43 < 0)) = true then
    f120_p13_1 F x1 x2 x3 x39 x37 k (w64 (x40 + 1))
   else
    some x40
  else
   some x40
def f120_p17_1 (F : Nat) (x1 x2 : Nat) (x3 x44 : Int) (x37 : List (List Int)) : Nat → Int → Option Int
 | 0, _ => none
 | k + 1, x45 =>
  if (decide (x44 ≤ x45)) = true then
   req ((0 : Int) ≤ x45 ∧ (x45 : Int) < ((x2 : Nat) : Int)) <|
   Option.bind ((x37)[(x1 + (Int.toNat x45))]?) fun x46 =>
   req ((0 : Int) ≤ x3 ∧ (x3 : Int) < ((x2 : Nat) : Int)) <|
   Option.bind ((x37)[(x1 + (Int.toNat x3))]?) fun x47 =>
   Option.bind (f60 F x46 x47) fun x48 =>
   if (decide (x48 < 0)) = true then
    some x45
   else
    f120_p17_1 F x1 x2 x3 x44 x37 k (w64 (x45 - 1))
  else
   some x45
def f120_p10 (F : Nat) (x1 x2 : Nat) (x3 : Int) : Nat → Int → Int → (List (List Int)) → Option (Int × (List (List Int)))
 | 0, _, _, _ => none
 | k + 1, x38, x39, x37 =>
  Option.bind (f120_p13_1 F x1 x2 x3 x39 x37 F x38) fun x44 =>
  Option.bind (f120_p17_1 F x1 x2 x3 x44 x37 F x39) fun x49 =>
  if (decide (x44 > x49)) = true then
   some (x49, x37)
  else
   req ((0 : Int) ≤ x49 ∧ (x49 : Int) < ((x2 : Nat) : Int)) <|
   Option.bind ((x37)[(x1 + (Int.toNat x49))]?) fun x50 =>
   req ((0 : Int) ≤ x44 ∧ (x44 : Int) < ((x2 : Nat) : Int)) <|
   Option.bind ((x37)[(x1 + (Int.toNat x44))]?) fun x51 =>
   req ((x1 + (Int.toNat x44)) < List.length x37) <|
   req ((x1 + (Int.toNat x49)) < List.length (List.set x37 (x1 + (Int.toNat x44)) x50)) <|
   f120_p10 F x1 x2 x3 k (w64 (x44 + 1)) (w64 (x49 - 1)) (List.set (List.set x37 (x1 + (Int.toNat x44)) x50) (x1 + (Int.toNat x49)) x51)
def f120 (F : Nat) (x1 x2 : Nat) (x3 x4 x5 : Int) (x6 : List (List Int)) : Option (Int × Bool × (List (List Int))) :=
 req ((0 : Int) ≤ x5 ∧ (x5 : Int) < ((x2 : Nat) : Int)) <|
 Option.bind ((x6)[(x1 + (Int.toNat x5))]?) fun x7 =>
 req ((0 : Int) ≤ x3 ∧ (x3 : Int) < ((x2 : Nat) : Int)) <|
 Option.bind ((x6)[(x1 + (Int.toNat x3))]?) fun x8 =>
 req ((x1 + (Int.toNat x3)) < List.length x6) <|
 req ((x1 + (Int.toNat x5)) < List.length (List.set x6 (x1 + (Int.toNat x3)) x7)) <|
 Option.bind (f120_p1 F x1 x2 x3 x4 x6 x7 x5 x8 F (w64 (x3 + 1))) fun x13 =>
 Option.bind (f120_p5 F x1 x2 x3 x13 x6 x7 x5 x8 F (w64 (x4 - 1))) fun x18 =>
 if (decide (x13 > x18)) = true then
  Option.bind (((List.set (List.set x6 (x1 + (Int.toNat x3)) x7) (x1 + (Int.toNat x5)) x8))[(x1 + (Int.toNat x3))]?) fun x19 =>
  req ((0 : Int) ≤ x18 ∧ (x18 : Int) < ((x2 : Nat) : Int)) <|
  Option.bind (((List.set (List.set x6 (x1 + (Int.toNat x3)) x7) (x1 + (Int.toNat x5)) x8))[(x1 + (Int.toNat x18))]?) fun x20 =>
  req ((x1 + (Int.toNat x18)) < List.length (List.set (List.set x6 (x1 + (Int.toNat x3)) x7) (x1 + (Int.toNat x5)) x8)) <|
  req ((x1 + (Int.toNat x3)) < List.length (List.set (List.set (List.set x6 (x1 + (Int.toNat x3)) x7) (x1 + (Int.toNat x5)) x8) (x1 + (Int.toNat x18)) x19)) <|
  some (x18, true, (List.set (List.set (List.set (List.set x6 (x1 + (Int.toNat x3)) x7) (x1 + (Int.toNat x5)) x8) (x1 + (Int.toNat x18)) x19) (x1 + (Int.toNat x3)) x20))
 else
  req ((0 : Int) ≤ x18 ∧ (x18 : Int) < ((x2 : Nat) : Int)) <|
  Option.bind (((List.set (List.set x6 (x1 + (Int.toNat x3)) x7) (x1 + (Int.toNat x5)) x8))[(x1 + (Int.toNat x18))]?) fun x21 =>
  req ((0 : Int) ≤ x13 ∧ (x13 : Int) < ((x2 : Nat) : Int)) <|
  Option.bind (((List.set (List.set x6 (x1 + (Int.toNat x3)) x7) (x1 + (Int.toNat x5)) x8))[(x1 + (Int.toNat x13))]?) fun x22 =>
  req ((x1 + (Int.toNat x13)) < List.length (List.set (List.set x6 (x1 + (Int.toNat x3)) x7) (x1 + (Int.toNat x5)) x8)) <|
  req ((x1 + (Int.toNat x18)) < List.length (List.set (List.set (List.set x6 (x1 + (Int.toNat x3)) x7) (x1 + (Int.toNat x5)) x8) (x1 + (Int.toNat x13)) x21)) <|
  Option.bind (f120_p10 F x1 x2 x3 F (w64 (x13 + 1)) (w64 (x18 - 1)) (List.set (List.set (List.set (List.set x6 (x1 + (Int.toNat x3)) x7) (x1 + (Int.toNat x5)) x8) (x1 + (Int.toNat x13)) x21) (x1 + (Int.toNat x18)) x22)) fun (x52, x53) =>
  Option.bind ((x53)[(x1 + (Int.toNat x3))]?) fun x54 =>
  req ((0 : Int) ≤ x52 ∧ (x52 : Int) < ((x2 : Nat) : Int)) <|
  Option.bind ((x53)[(x1 + (Int.toNat x52))]?) fun x55 =>
  req ((x1 + (Int.toNat x52)) < List.length x53) <|
  req ((x1 + (Int.toNat x3)) < List.length (List.set x53 (x1 + (Int.toNat x52)) x54)) <|
  some (x52, false, (List.set (List.set x53 (x1 + (Int.toNat x52)) x54) (x1 + (Int.toNat x3)) x55))

def f93_p5_1 (F : Nat) (x1 x2 : Nat) (x27 x28 x29 : Int) (x30 x31 : Bool) (x26 : List (List Int)) : Option (Int × (List (List Int))) :=
 if x30 = true then
  some (x29, x26)
 else
  Option.bind (f115 F x1 x2 x27 x28 x26) fun x33 =>
  some ((w64 (x29 - 1)), x33)
def f93_p6_1 (F : Nat) (x1 x2 : Nat) (x27 x28 x34 : Int) (x30 x31 : Bool) (x36 x37 : Int) (x35 : List (List Int)) : Option Unit :=
 if (x37 == 2) = true then
  none
 else
  some ()
def f93_r15_1 (F : Nat) (x1 x2 : Nat) (x27 x28 x34 : Int) (x30 x31 : Bool) (x36 x37 : Int) (x35 : List (List Int)) : Option Bool :=
 if x30 = true then
  if x31 = true then
   some (x37 == 1)
  else
   some false
 else
  some false
inductive f93_p7_1_R where
 | c0
 | c1
def f93_p7_1 (F : Nat) (x1 x2 : Nat) (x27 x28 x34 : Int) (x30 x31 : Bool) (x36 : Int) (x38 : Bool) (x35 : List (List Int)) : Option f93_p7_1_R :=
 if x38 = true then
  Option.bind (f118 F x1 x2 x27 x28 x35) fun x39 =>
  if x39 = true then
   some .c0
  else
   some .c1
 else
  some .c1
def f93_r17_1 (F : Nat) (x1 x2 : Nat) (x27 x28 x34 : Int) (x30 x31 : Bool) (x36 : Int) (x35 : List (List Int)) : Option Bool :=
 if (decide (x27 > 0)) = true then
  req ((0 : Int) ≤ (w64 (x27 - 1)) ∧ ((w64 (x27 - 1)) : Int) < ((x2 : Nat) : Int)) <|
  Option.bind ((x35)[(x1 + (Int.toNat (w64 (x27 - 1))))]?) fun x40 =>
  req ((0 : Int) ≤ x36 ∧ (x36 : Int) < ((x2 : Nat) : Int)) <|
  Option.bind ((x35)[(x1 + (Int.toNat x36))]?) fun x41 =>
  Option.bind (f60 F x40 x41) fun x42 =>
  some (!(decide (x42 < 0)))
 else
  some false
def f93_p10 (F : Nat) (rec : Nat → Nat → Int → Int → Int → (List (List Int)) → Option (List (List Int))) (x1 x2 : Nat) (x27 x28 x34 : Int) (x47 : Bool) (x46 : Int) (x48 : List (List Int)) : Option (Int × Int × Bool × (List (List Int))) :=
 if (decide ((w64 (x46 - x27)) < (w64 (x28 - x46)))) = true then
  Option.bind (rec x1 x2 x27 x46 x34 x48) fun x49 =>
  some ((w64 (x46 + 1)), x28, (decide ((w64 (x46 - x27)) ≥ (w64 (Int.tdiv (w64 (x28 - x27)) 8)))), x49)
 else
  Option.bind (rec x1 x2 (w64 (x46 + 1)) x28 x34 x48) fun x50 =>
  some (x27, x46, (decide ((w64 (x28 - x46)) ≥ (w64 (Int.tdiv (w64 (x28 - x27)) 8)))), x50)
def f93_p1_1 (F : Nat) (rec : Nat → Nat → Int → Int → Int → (List (List Int)) → Option (List (List Int))) (x1 x2 : Nat) : Nat → Int → Int → Int → Bool → Bool → (List (List Int)) → Option (List (List Int))
 | 0, _, _, _, _, _, _ => none
 | k + 1, x27, x28, x29, x30, x31, x26 =>
  if (decide ((w64 (x28 - x27)) ≤ 12)) = true then
   Option.bind (f113 F x1 x2 x27 x28 x26) fun x32 =>
   some x32
  else
  if (x29 == 0) = true then
   none
  else
   Option.bind (f93_p5_1 F x1 x2 x27 x28 x29 x30 x31 x26) fun (x34, x35) =>
   Option.bind (f116 F x1 x2 x27 x28 x35) fun (x36, x37) =>
   Option.bind (f93_p6_1 F x1 x2 x27 x28 x34 x30 x31 x36 x37 x35) fun _ =>
   Option.bind (f93_r15_1 F x1 x2 x27 x28 x34 x30 x31 x36 x37 x35) fun x38 =>
   Option.bind (f93_p7_1 F x1 x2 x27 x28 x34 x30 x31 x36 x38 x35) fun
   | .c0 =>
    some x35
   | .c1 =>
    Option.bind (f93_r17_1 F x1 x2 x27 x28 x34 x30 x31 x36 x35) fun x43 =>
    if x43 = true then
     Option.bind (f119 F x1 x2 x27 x28 x36 x35) fun (x44, x45) =>
     f93_p1_1 F rec x1 x2 k x44 x28 x34 x30 x31 x45
    else
     Option.bind (f120 F x1 x2 x27 x28 x36 x35) fun (x46, x47, x48) =>
     Option.bind (f93_p10 F rec x1 x2 x27 x28 x34 x47 x46 x48) fun (x51, x52, x53, x54) =>
     f93_p1_1 F rec x1 x2 k x51 x52 x34 x53 x47 x54
def f93_b (F : Nat) (rec : Nat → Nat → Int → Int → Int → (List (List Int)) → Option (List (List Int))) (x1 x2 : Nat) (x3 x4 x5 : Int) (x6 : List (List Int)) : Option (List (List Int)) :=
 Option.bind (f93_p1_1 F rec x1 x2 F x3 x4 x5 true true x6) fun x55 =>
 some x55
def f93 (F : Nat) : Nat → Nat → Nat → Int → Int → Int → (List (List Int)) → Option (List (List Int))
 | 0 => fun _ _ _ _ _ _ => none
 | k + 1 => f93_b F (f93 F k)

def f59 (F : Nat) (x1 : List (List Int)) : Option (List (List Int)) :=
 Option.bind (f39 F (IntKind.wrap .u64 ((((List.length x1) : Nat) : Int)))) fun x2 =>
 Option.bind (f93 F F 0 (List.length x1) 0 (((List.length x1) : Nat) : Int) x2 x1) fun x3 =>
 some x3

def f31 (F : Nat) (x1 : List Int) : Option (List (List Int)) :=
 Option.bind (f57 F x1) fun x2 =>
 Option.bind (f59 F x2) fun x3 =>
 req ((0 + (List.length x2)) ≤ List.length x3) <|
 some (List.drop 0 (List.take (0 + (List.length x2)) x3))

def f7 (F : Nat) (x1 : Int) (x2 : List (List Int)) : Option ((List (List Int)) × Int) :=
 Option.bind (f30 F x1 x2) fun (x3, x4) =>
 if (x4 != 0) = true then
  some (([] : List (List Int)), x4)
 else
  Option.bind (f32 F x1 x3 false) fun x5 =>
  Option.bind (f31 F x5) fun x6 =>
  some (x6, 0)

def f8 (F : Nat) (x1 : Int) (x2 : List (List Int)) : Option ((List (List Int)) × Int) :=
 Option.bind (f30 F x1 x2) fun (x3, x4) =>
 if (x4 != 0) = true then
  some (([] : List (List Int)), x4)
 else
  Option.bind (f32 F x1 x3 true) fun x5 =>
  Option.bind (f31 F x5) fun x6 =>
  some (x6, 0)

def f33_p9_1 (F : Nat) (x1 x17 : Int) (x2 : List Int) (x16 : Int) : Nat → Int → (List Int) → Option (List Int)
 | 0, _, _ => none
 | k + 1, x22, x21 =>
  if (decide (x22 < x1)) = true then
   req ((0 : Int) ≤ x22) <|
   req ((0 : Int) ≤ (iXor .i64 x17 (iShl .i64 1 x22)) ∧ ((iXor .i64 x17 (iShl .i64 1 x22)) : Int) < (((Int.toNat (iShl .i64 1 x1)) : Nat) : Int)) <|
   Option.bind ((x21)[(0 + (Int.toNat (iXor .i64 x17 (iShl .i64 1 x22))))]?) fun x23 =>
   req ((0 + (Int.toNat (iXor .i64 x17 (iShl .i64 1 x22)))) < List.length x21) <|
   f33_p9_1 F x1 x17 x2 x16 k (w64 (x22 + 1)) (List.set x21 (0 + (Int.toNat (iXor .i64 x17 (iShl .i64 1 x22)))) (w64 (x23 + 1)))
  else
   some x21
inductive f33_p2_R where
 | c0 (a0 : Int)
 | c1 (a0 : List Int)
def f33_p2 (F : Nat) (x1 : Int) (x2 : List Int) : Nat → Int → Int → (List Int) → Option f33_p2_R
 | 0, _, _, _ => none
 | k + 1, x15, x16, x14 =>
  if (decide (x16 < ((List.length x2 : Nat) : Int))) = true then
   Option.bind (at? x2 x16) fun x17 =>
   if (decide (x17 < 0)) = true then
    some (.c0 2)
   else
   if (decide (x17 ≥ (((Int.toNat (iShl .i64 1 x1)) : Nat) : Int))) = true then
    some (.c0 2)
   else
   if (decide (x17 ≤ x15)) = true then
    some (.c0 7)
   else
    req ((0 : Int) ≤ x17 ∧ (x17 : Int) < (((Int.toNat (iShl .i64 1 x1)) : Nat) : Int)) <|
    Option.bind ((x14)[(0 + (Int.toNat x17))]?) fun x18 =>
    req ((0 + (Int.toNat x17)) < List.length x14) <|
    Option.bind (f33_p9_1 F x1 x17 x2 x16 F 0 (List.set x14 (0 + (Int.toNat x17)) (w64 (x18 + 1)))) fun x24 =>
    f33_p2 F x1 x2 k x17 (w64 (x16 + 1)) x24
  else
   some (.c1 x14)
def f33 (F : Nat) (x1 : Int) (x2 : List Int) : Option ((List Int) × Int) :=
 Option.bind (f28 F x1) fun x3 =>
 if x3 = true then
  req ((0 : Int) ≤ x1) <|
  req ((0 : Int) ≤ (iShl .i64 1 x1) ∧ ((iShl .i64 1 x1) : Int) ≤ (iShl .i64 1 x1) ∧ ((iShl .i64 1 x1) : Int) ≤ 1099511627776) <|
  Option.bind (f33_p2 F x1 x2 F (-1) 0 (List.replicate (Int.toNat (iShl .i64 1 x1)) (0 : Int))) fun
  | .c0 x25 =>
   some (([] : List Int), x25)
  | .c1 x26 =>
   req ((0 + (Int.toNat (iShl .i64 1 x1))) ≤ List.length x26) <|
   some ((List.drop 0 (List.take (0 + (Int.toNat (iShl .i64 1 x1))) x26)), 0)
 else
  some (([] : List Int), 1)

def f9 (F : Nat) (x1 : Int) (x2 : List Int) : Option ((List Int) × Int) :=
 Option.bind (f33 F x1 x2) fun (x3, x4) =>
 some (x3, x4)

def f10_p5_1 (F : Nat) (x7 : List Int) (x8 : Int) (x3 : List Int) (x9 : Int) : Option (List Int) :=
 if (x9 == 0) = true then
  req (List.length x7 + List.length ([x8] : List Int) ≤ 1099511627776) <|
  some (x7 ++ ([x8] : List Int))
 else
  some x7
def f10_p2 (F : Nat) (x3 : List Int) : Nat → Int → (List Int) → Option (List Int)
 | 0, _, _ => none
 | k + 1, x8, x7 =>
  if (decide (x8 < ((List.length x3 : Nat) : Int))) = true then
   Option.bind (at? x3 x8) fun x9 =>
   Option.bind (f10_p5_1 F x7 x8 x3 x9) fun x10 =>
   f10_p2 F x3 k (w64 (x8 + 1)) x10
  else
   some x7
def f10 (F : Nat) (x1 : Int) (x2 : List Int) : Option ((List Int) × Int) :=
 Option.bind (f33 F x1 x2) fun (x3, x4) =>
 if (x4 != 0) = true then
  some (([] : List Int), x4)
 else
  Option.bind (f10_p2 F x3 F 0 ([] : List Int)) fun x11 =>
  some ((List.drop 0 (List.take (0 + (List.length x11)) x11)), 0)

inductive f12_p2_R where
 | c0
 | c1
def f12_p2 (F : Nat) (x1 x2 : List Int) : Nat → Int → Option f12_p2_R
 | 0, _ => none
 | k + 1, x3 =>
  if (decide (x3 < ((List.length x1 : Nat) : Int))) = true then
   Option.bind (at? x1 x3) fun x4 =>
   Option.bind (at? x2 x3) fun x5 =>
   if (x4 != x5) = true then
    some .c0
   else
    f12_p2 F x1 x2 k (w64 (x3 + 1))
  else
   some .c1
def f12 (F : Nat) (x1 x2 : List Int) : Option Bool :=
 if (((List.length x1 : Nat) : Int) != ((List.length x2 : Nat) : Int)) = true then
  some false
 else
  Option.bind (f12_p2 F x1 x2 F 0) fun
  | .c0 =>
   some false
  | .c1 =>
   some true

def f11 (F : Nat) (x1 x2 : List Int) : Option Bool :=
 Option.bind (f12 F x1 x2) fun x3 =>
 some x3

inductive f34_p1_R where
 | c0 (a0 : Int)
 | c1
def f34_p1 (F : Nat) (x1 : List (List Int)) (x2 : List Int) : Nat → Int → Option f34_p1_R
 | 0, _ => none
 | k + 1, x3 =>
  if (decide (x3 < ((List.length x1 : Nat) : Int))) = true then
   Option.bind (at? x1 x3) fun x4 =>
   Option.bind (f11 F x4 x2) fun x5 =>
   if x5 = true then
    some (.c0 x3)
   else
    f34_p1 F x1 x2 k (w64 (x3 + 1))
  else
   some .c1
def f34 (F : Nat) (x1 : List (List Int)) (x2 : List Int) : Option Int :=
 Option.bind (f34_p1 F x1 x2 F 0) fun
 | .c0 x6 =>
  some x6
 | .c1 =>
  some (-1)

def f13 (F : Nat) (x1 : List (List Int)) (x2 : List Int) : Option Bool :=
 Option.bind (f34 F x1 x2) fun x3 =>
 some (decide (x3 ≥ 0))

inductive f35_p1_R where
 | c0 (a0 : Int)
 | c1
def f35_p1 (F : Nat) (x1 : List Int) (x2 : Int) : Nat → Int → Option f35_p1_R
 | 0, _ => none
 | k + 1, x3 =>
  if (decide (x3 < ((List.length x1 : Nat) : Int))) = true then
   Option.bind (at? x1 x3) fun x4 =>
   if (x2 == x4) = true then
    some (.c0 x3)
   else
    f35_p1 F x1 x2 k (w64 (x3 + 1))
  else
   some .c1
def f35 (F : Nat) (x1 : List Int) (x2 : Int) : Option Int :=
 Option.bind (f35_p1 F x1 x2 F 0) fun
 | .c0 x5 =>
  some x5
 | .c1 =>
  some (-1)

def f14 (F : Nat) (x1 : List Int) (x2 : Int) : Option Bool :=
 Option.bind (f35 F x1 x2) fun x3 =>
 some (decide (x3 ≥ 0))

def f36 (F : Nat) (x1 : List Int) : Option (List Int) :=
 some x1

def f95 (F : Nat) (x1 : Int) (x2 : List Int) : Option (Int × Int) :=
 Option.bind (f54 F x1) fun x3 =>
 if x3 = true then
  Option.bind (f55 F x1 x2) fun (x4, x5) =>
  some (x4, x5)
 else
  some (0, 1)

def f58_1_p1 (F : Nat) : Nat → Int → (List Int) → Option (List Int)
 | 0, _, _ => none
 | k + 1, x5, x4 =>
  if (x5 != 0) = true then
   Option.bind (f92 F x5) fun x6 =>
   req (List.length x4 + List.length ([x6] : List Int) ≤ 1099511627776) <|
   f58_1_p1 F k (iAnd .u64 x5 (IntKind.wrap .u64 (x5 - 1))) (x4 ++ ([x6] : List Int))
  else
   some x4
def f58_1 (F : Nat) (x1 : Int) : Option (List Int) :=
 Option.bind (f58_1_p1 F F x1 ([] : List Int)) fun x7 =>
 some x7

def f121_1 (F : Nat) (x1 x2 : Nat) (x3 x4 : Int) (x5 : List Int) : Option (Nat × Nat × (List Int)) :=
 req ((0 : Int) ≤ x3 ∧ (x3 : Int) ≤ x4 ∧ (x4 : Int) ≤ ((x2 : Nat) : Int) ∧ (((x2 : Nat) : Int) : Int) ≤ ((x2 : Nat) : Int) ∧ 0 < x2) <|
 if (x3 == x4) = true then
  some (x1, x2, x5)
 else
  req ((0 : Int) ≤ 0 ∧ (0 : Int) ≤ x3 ∧ (x3 : Int) ≤ ((x2 : Nat) : Int) ∧ 0 < x2) <|
  req ((0 : Int) ≤ x4 ∧ (x4 : Int) ≤ ((x2 : Nat) : Int) ∧ (((x2 : Nat) : Int) : Int) ≤ ((x2 : Nat) : Int) ∧ 0 < x2) <|
  req (((x1 + (Int.toNat x4)) + (x2 - (Int.toNat x4))) ≤ List.length x5) <|
  req ((((x1 + 0) + (Int.toNat x3)) + List.length (List.drop (x1 + (Int.toNat x4)) (List.take ((x1 + (Int.toNat x4)) + (x2 - (Int.toNat x4))) x5))) ≤ List.length x5) <|
  req ((0 : Int) ≤ ((((Int.toNat x3) + List.length (List.drop (x1 + (Int.toNat x4)) (List.take ((x1 + (Int.toNat x4)) + (x2 - (Int.toNat x4))) x5))) : Nat) : Int) ∧ (((((Int.toNat x3) + List.length (List.drop (x1 + (Int.toNat x4)) (List.take ((x1 + (Int.toNat x4)) + (x2 - (Int.toNat x4))) x5))) : Nat) : Int) : Int) ≤ ((x2 : Nat) : Int) ∧ (((x1 + 0) : Nat) : Int) + ((x2 : Nat) : Int) ≤ ((List.length (List.take ((x1 + 0) + (Int.toNat x3)) x5 ++ (List.drop (x1 + (Int.toNat x4)) (List.take ((x1 + (Int.toNat x4)) + (x2 - (Int.toNat x4))) x5)) ++ List.drop (((x1 + 0) + (Int.toNat x3)) + List.length (List.drop (x1 + (Int.toNat x4)) (List.take ((x1 + (Int.toNat x4)) + (x2 - (Int.toNat x4))) x5))) x5) : Nat) : Int) ∧ 0 < List.length (List.take ((x1 + 0) + (Int.toNat x3)) x5 ++ (List.drop (x1 + (Int.toNat x4)) (List.take ((x1 + (Int.toNat x4)) + (x2 - (Int.toNat x4))) x5)) ++ List.drop (((x1 + 0) + (Int.toNat x3)) + List.length (List.drop (x1 + (Int.toNat x4)) (List.take ((x1 + (Int.toNat x4)) + (x2 - (Int.toNat x4))) x5))) x5)) <|
  req ((((x1 + 0) + (Int.toNat ((((Int.toNat x3) + List.length (List.drop (x1 + (Int.toNat x4)) (List.take ((x1 + (Int.toNat x4)) + (x2 - (Int.toNat x4))) x5))) : Nat) : Int))) + (x2 - (Int.toNat ((((Int.toNat x3) + List.length (List.drop (x1 + (Int.toNat x4)) (List.take ((x1 + (Int.toNat x4)) + (x2 - (Int.toNat x4))) x5))) : Nat) : Int)))) ≤ List.length (List.take ((x1 + 0) + (Int.toNat x3)) x5 ++ (List.drop (x1 + (Int.toNat x4)) (List.take ((x1 + (Int.toNat x4)) + (x2 - (Int.toNat x4))) x5)) ++ List.drop (((x1 + 0) + (Int.toNat x3)) + List.length (List.drop (x1 + (Int.toNat x4)) (List.take ((x1 + (Int.toNat x4)) + (x2 - (Int.toNat x4))) x5))) x5)) <|
  some ((x1 + 0), ((Int.toNat x3) + List.length (List.drop (x1 + (Int.toNat x4)) (List.take ((x1 + (Int.toNat x4)) + (x2 - (Int.toNat x4))) x5))), (List.take ((x1 + 0) + (Int.toNat ((((Int.toNat x3) + List.length (List.drop (x1 + (Int.toNat x4)) (List.take ((x1 + (Int.toNat x4)) + (x2 - (Int.toNat x4))) x5))) : Nat) : Int))) (List.take ((x1 + 0) + (Int.toNat x3)) x5 ++ (List.drop (x1 + (Int.toNat x4)) (List.take ((x1 + (Int.toNat x4)) + (x2 - (Int.toNat x4))) x5)) ++ List.drop (((x1 + 0) + (Int.toNat x3)) + List.length (List.drop (x1 + (Int.toNat x4)) (List.take ((x1 + (Int.toNat x4)) + (x2 - (Int.toNat x4))) x5))) x5) ++ List.replicate (x2 - (Int.toNat ((((Int.toNat x3) + List.length (List.drop (x1 + (Int.toNat x4)) (List.take ((x1 + (Int.toNat x4)) + (x2 - (Int.toNat x4))) x5))) : Nat) : Int))) (0 : Int) ++ List.drop (((x1 + 0) + (Int.toNat ((((Int.toNat x3) + List.length (List.drop (x1 + (Int.toNat x4)) (List.take ((x1 + (Int.toNat x4)) + (x2 - (Int.toNat x4))) x5))) : Nat) : Int))) + (x2 - (Int.toNat ((((Int.toNat x3) + List.length (List.drop (x1 + (Int.toNat x4)) (List.take ((x1 + (Int.toNat x4)) + (x2 - (Int.toNat x4))) x5))) : Nat) : Int)))) (List.take ((x1 + 0) + (Int.toNat x3)) x5 ++ (List.drop (x1 + (Int.toNat x4)) (List.take ((x1 + (Int.toNat x4)) + (x2 - (Int.toNat x4))) x5)) ++ List.drop (((x1 + 0) + (Int.toNat x3)) + List.length (List.drop (x1 + (Int.toNat x4)) (List.take ((x1 + (Int.toNat x4)) + (x2 - (Int.toNat x4))) x5))) x5)))

def f96_p4_1 (F : Nat) (x2 : Int) (x16 x17 : Nat) (x18 x20 : Int) (x15 : List Int) : Option (Nat × Nat × Int × (List Int)) :=
 if ((iAnd .u64 (iShr .u64 x2 x20) 1) == 0) = true then
  Option.bind (f121_1 F x16 x17 (w64 (x18 - 1)) (w64 (x18 + 1)) x15) fun (x21, x22, x23) =>
  some (x21, x22, (if (w64 (x18 - 1)) > 1 then (w64 (x18 - 1)) else 1), x23)
 else
  some (x16, x17, (w64 (x18 + 1)), x15)
def f96_p1 (F : Nat) (x2 : Int) : Nat → Nat → Nat → Int → (List Int) → Option (Nat × Nat × (List Int))
 | 0, _, _, _, _ => none
 | k + 1, x16, x17, x18, x15 =>
  if (decide (x18 < ((x17 : Nat) : Int))) = true then
   req ((0 : Int) ≤ x18 ∧ (x18 : Int) < ((x17 : Nat) : Int)) <|
   Option.bind ((x15)[(x16 + (Int.toNat x18))]?) fun x19 =>
   req ((0 : Int) ≤ x19) <|
   if ((iAnd .u64 (iShr .u64 x2 x19) 1) == 1) = true then
    req ((0 : Int) ≤ (w64 (x18 - 1)) ∧ ((w64 (x18 - 1)) : Int) < ((x17 : Nat) : Int)) <|
    Option.bind ((x15)[(x16 + (Int.toNat (w64 (x18 - 1))))]?) fun x20 =>
    req ((0 : Int) ≤ x20) <|
    Option.bind (f96_p4_1 F x2 x16 x17 x18 x20 x15) fun (x24, x25, x26, x27) =>
    f96_p1 F x2 k x24 x25 x26 x27
   else
    f96_p1 F x2 k x16 x17 (w64 (x18 + 1)) x15
  else
   some (x16, x17, x15)
def f96 (F : Nat) (x1 x2 : Int) : Option (List Int) :=
 req ((0 : Int) ≤ x1) <|
 Option.bind (f58_1 F (IntKind.wrap .u64 ((iShl .u64 1 x1) - 1))) fun x3 =>
 Option.bind (f96_p1 F x2 F 0 (List.length x3) 1 x3) fun (x28, x29, x30) =>
 req ((x28 + x29) ≤ List.length x30) <|
 some (List.drop x28 (List.take (x28 + x29) x30))

def f61 (F : Nat) (x1 : Int) (x2 : List Int) : Option ((List Int) × Int) :=
 Option.bind (f95 F x1 x2) fun (x3, x4) =>
 if (x4 != 0) = true then
  some (([] : List Int), x4)
 else
  Option.bind (f96 F x1 x3) fun x5 =>
  some (x5, 0)

def f122 (F : Nat) (x1 x2 x3 : Int) : Option Bool :=
 if (decide (x1 ≤ x2)) = true then
  some (decide (x2 ≤ x3))
 else
  some false

def f145_p2 (F : Nat) (x1 x2 : Int) : Nat → Int → Int → Option Int
 | 0, _, _ => none
 | k + 1, x3, x4 =>
  if (decide (x4 < x2)) = true then
   req (((w64 (x4 + 1)) : Int) ≠ 0) <|
   f145_p2 F x1 x2 k (w64 (Int.tdiv (w64 (x3 * (w64 (x1 - x4)))) (w64 (x4 + 1)))) (w64 (x4 + 1))
  else
   some x3
def f145 (F : Nat) (x1 x2 : Int) : Option Int :=
 if (decide (x2 < 0)) = true then
  some 0
 else
  Option.bind (f145_p2 F x1 x2 F 1 0) fun x5 =>
  some x5

def f123 (F : Nat) (x1 x2 x3 : Int) : Option Int :=
 if (decide (x1 < 0)) = true then
  some 0
 else
 if (decide (x2 < 0)) = true then
  some 0
 else
 if (decide (x2 > (w64 (x1 + x3)))) = true then
  some 0
 else
  Option.bind (f145 F (w64 (x1 + x2)) x2) fun x4 =>
  Option.bind (f145 F (w64 (x1 + x2)) (w64 ((w64 (x2 - x3)) - 1))) fun x5 =>
  some (w64 (x4 - x5))

def f97 (F : Nat) (x1 x2 x3 : Int) : Option (Int × Int) :=
 if (decide ((if x2 < x1 then x2 else x1) < 0)) = true then
  some (0, 1)
 else
 if (decide ((if x2 > x1 then x2 else x1) > 16)) = true then
  some (0, 1)
 else
 if (decide ((w64 (x1 + x2)) > 16)) = true then
  some (0, 1)
 else
  Option.bind (f122 F 0 x3 20) fun x4 =>
  if x4 = true then
   Option.bind (f123 F x1 x2 x3) fun x5 =>
   some (x5, 0)
  else
   some (0, 1)

def f62 (F : Nat) (x1 x2 x3 : Int) : Option (Int × Int) :=
 Option.bind (f97 F x1 x2 x3) fun (x4, x5) =>
 some (x4, x5)

def f203 (F : Nat) (x1 x2 x3 : Int) : Option Bool :=
 if (decide (x1 ≤ x2)) = true then
  some (decide (x2 ≤ x3))
 else
  some false

def f202 (F : Nat) (x1 : Int) : Option Bool :=
 Option.bind (f203 F 0 x1 99) fun x2 =>
 some (!x2)

inductive f207_p1_R where
 | c0 (a0 : Int)
 | c1
def f207_p1 (F : Nat) (x1 : List Int) : Nat → Int → Option f207_p1_R
 | 0, _ => none
 | k + 1, x2 =>
  if (decide (x2 < ((List.length x1 : Nat) : Int))) = true then
   Option.bind (at? x1 x2) fun x3 =>
   Option.bind (f202 F x3) fun x4 =>
   if x4 = true then
    some (.c0 x2)
   else
    f207_p1 F x1 k (w64 (x2 + 1))
  else
   some .c1
def f207 (F : Nat) (x1 : List Int) : Option Int :=
 Option.bind (f207_p1 F x1 F 0) fun
 | .c0 x5 =>
  some x5
 | .c1 =>
  some (-1)

def f193 (F : Nat) (x1 : List Int) : Option Bool :=
 Option.bind (f207 F x1) fun x2 =>
 some (decide (x2 ≥ 0))

def f189 (F : Nat) (x1 : List Int) (x2 : Int) : Option Int :=
 if (((List.length x1 : Nat) : Int) != x2) = true then
  some 5
 else
  Option.bind (f193 F x1) fun x3 =>
  if x3 = true then
   some 1
  else
   some 0

inductive f168_p4_R where
 | c0 (a0 : Int)
 | c1
def f168_p4 (F : Nat) (x1 : List (List Int)) : Nat → Int → Option f168_p4_R
 | 0, _ => none
 | k + 1, x3 =>
  if (decide (x3 < ((List.length x1 : Nat) : Int))) = true then
   Option.bind (at? x1 x3) fun x4 =>
   Option.bind (at? x1 0) fun x5 =>
   Option.bind (f189 F x4 ((List.length x5 : Nat) : Int)) fun x6 =>
   if (x6 != 0) = true then
    some (.c0 x6)
   else
    f168_p4 F x1 k (w64 (x3 + 1))
  else
   some .c1
def f168 (F : Nat) (x1 : List (List Int)) : Option Int :=
 if (((List.length x1 : Nat) : Int) == 0) = true then
  some 4
 else
 if (decide (((List.length x1 : Nat) : Int) > 5)) = true then
  some 3
 else
  Option.bind (at? x1 0) fun x2 =>
  if (decide (((List.length x2 : Nat) : Int) > 5)) = true then
   some 3
  else
   Option.bind (f168_p4 F x1 F 0) fun
   | .c0 x7 =>
    some x7
   | .c1 =>
    some 0

inductive f146_R where
 | c0 (a0 : Int)
 | c1 (a0 : Int) (a1 : List ((Int × (Int × (Int × Unit))) × (Int × (Int × Unit)))) (a2 : List (List Int)) (a3 : Int)
def f146 (F : Nat) (x1 : List (List Int)) : Option f146_R :=
 Option.bind (f168 F x1) fun x2 =>
 if (x2 != 0) = true then
  some (.c0 x2)
 else
  Option.bind (at? x1 0) fun x3 =>
  some (.c1 0 ([] : List ((Int × (Int × (Int × Unit))) × (Int × (Int × Unit)))) x1 ((List.length x3 : Nat) : Int))

inductive f149_R where
def f149 (F : Nat) : Option f149_R :=
 none

inductive f147_R where
def f147 (F : Nat) : Option f147_R :=
 Option.bind (f149 F) fun _ => none

def f149_1 (F : Nat) (x1 : List ((Int × (Int × (Int × Unit))) × (Int × (Int × Unit)))) (x2 : List (List Int)) (x3 : Int) : Option Int :=
 req ((0 : Int) ≤ x3) <|
 some (IntKind.wrap .u8 ((iShl .u8 1 x3) - 1))

def f169 (F : Nat) (x1 x2 : Int) : Option (Int × Bool) :=
 if (decide (x2 < 0)) = true then
  some (x1, true)
 else
  req ((0 : Int) ≤ x2) <|
  some ((iAndNot .u8 x1 (iShl .u8 1 x2)), ((iAnd .u8 (iShr .u8 x1 x2) 1) == 1))

def f150 (F : Nat) (x1 x2 : Int) (x3 : List ((Int × (Int × (Int × Unit))) × (Int × (Int × Unit)))) (x4 : List (List Int)) (x5 : Int) : Option Int :=
 if (decide (x2 < 0)) = true then
  some 0
 else
  Option.bind (at? x4 x1) fun x6 =>
  Option.bind (at? x6 x2) fun x7 =>
  some x7

def f148_r11_1 (F : Nat) (x18 x22 : Int) (x23 : Bool) (x19 : List ((Int × (Int × (Int × Unit))) × (Int × (Int × Unit)))) (x5 : List (List Int)) (x6 x1 : Int) (x2 x3 : Int) (x20 x21 : Int) : Option Bool :=
 if x23 = true then
  if (decide (x18 ≥ 0)) = true then
   some (x1 == x2)
  else
   some false
 else
  some true
def f148_p9_1 (F : Nat) (x18 x25 : Int) (x28 x20 : Int) (x27 : List ((Int × (Int × (Int × Unit))) × (Int × (Int × Unit)))) (x5 : List (List Int)) (x6 x1 : Int) (x2 x3 : Int) (x21 x26 : Int) : Option Int :=
 if ((w64 (x25 + x28)) == x20) = true then
  some (w64 (x21 + x26))
 else
  some x21
def f148_p8_1 (F : Nat) (x18 x25 : Int) (x28 x20 : Int) (x27 : List ((Int × (Int × (Int × Unit))) × (Int × (Int × Unit)))) (x5 : List (List Int)) (x6 x1 : Int) (x2 x3 : Int) (x21 x26 : Int) : Option (Int × Int) :=
 if (decide ((w64 (x25 + x28)) > x20)) = true then
  some ((w64 (x25 + x28)), x26)
 else
  Option.bind (f148_p9_1 F x18 x25 x28 x20 x27 x5 x6 x1 x2 x3 x21 x26) fun x29 =>
  some (x20, x29)
def f148_p3 (F : Nat) (rec : Int → Int → Int → (List ((Int × (Int × (Int × Unit))) × (Int × (Int × Unit)))) → (List (List Int)) → Int → Option (Int × Int × (List ((Int × (Int × (Int × Unit))) × (Int × (Int × Unit)))))) (x5 : List (List Int)) (x6 x1 : Int) (x2 x3 : Int) : Nat → Int → (List ((Int × (Int × (Int × Unit))) × (Int × (Int × Unit)))) → Int → Int → Option ((List ((Int × (Int × (Int × Unit))) × (Int × (Int × Unit)))) × Int × Int)
 | 0, _, _, _, _ => none
 | k + 1, x18, x19, x20, x21 =>
  if (decide (x18 < x6)) = true then
   Option.bind (f169 F x3 x18) fun (x22, x23) =>
   Option.bind (f148_r11_1 F x18 x22 x23 x19 x5 x6 x1 x2 x3 x20 x21) fun x24 =>
   if x24 = true then
    f148_p3 F rec x5 x6 x1 x2 x3 k (w64 (x18 + 1)) x19 x20 x21
   else
    Option.bind (rec (w64 (x1 + 1)) x2 x22 x19 x5 x6) fun (x25, x26, x27) =>
    Option.bind (f150 F x1 x18 x27 x5 x6) fun x28 =>
    Option.bind (f148_p8_1 F x18 x25 x28 x20 x27 x5 x6 x1 x2 x3 x21 x26) fun (x30, x31) =>
    f148_p3 F rec x5 x6 x1 x2 x3 k (w64 (x18 + 1)) x27 x30 x31
  else
   some (x19, x20, x21)
def f148_b (F : Nat) (rec : Int → Int → Int → (List ((Int × (Int × (Int × Unit))) × (Int × (Int × Unit)))) → (List (List Int)) → Int → Option (Int × Int × (List ((Int × (Int × (Int × Unit))) × (Int × (Int × Unit)))))) (x1 x2 x3 : Int) (x4 : List ((Int × (Int × (Int × Unit))) × (Int × (Int × Unit)))) (x5 : List (List Int)) (x6 : Int) : Option (Int × Int × (List ((Int × (Int × (Int × Unit))) × (Int × (Int × Unit))))) :=
 if (x1 == ((List.length x5 : Nat) : Int)) = true then
  some (0, 1, x4)
 else
 if (Option.isSome (mget x4 (x1, (x2, (x3, ()))))) = true then
  some ((Option.getD (mget x4 (x1, (x2, (x3, ())))) (0, (0, ()))).1, (Option.getD (mget x4 (x1, (x2, (x3, ())))) (0, (0, ()))).2.1, x4)
 else
  Option.bind (f148_p3 F rec x5 x6 x1 x2 x3 F (-1) x4 (-1) 0) fun (x32, x33, x34) =>
  some (x33, x34, (mset x32 (x1, (x2, (x3, ()))) (x33, (x34, ()))))
def f148 (F : Nat) : Nat → Int → Int → Int → (List ((Int × (Int × (Int × Unit))) × (Int × (Int × Unit)))) → (List (List Int)) → Int → Option (Int × Int × (List ((Int × (Int × (Int × Unit))) × (Int × (Int × Unit)))))
 | 0 => fun _ _ _ _ _ _ => none
 | k + 1 => f148_b F (f148 F k)

def f147_1_p5_2 (F : Nat) (x64 : Int) (x2 : List (List Int)) (x3 : Int) : Nat → Int → Int → (List ((Int × (Int × (Int × Unit))) × (Int × (Int × Unit)))) → (List Int) → Option (Int × (List ((Int × (Int × (Int × Unit))) × (Int × (Int × Unit)))) × (List Int))
 | 0, _, _, _, _ => none
 | k + 1, x79, x80, x81, x78 =>
  if (decide (x80 < x3)) = true then
   Option.bind (f169 F x79 x80) fun (x82, x83) =>
   if x83 = true then
    Option.bind (f148 F F (w64 (x64 + 1)) (-1) x82 x81 x2 x3) fun (x84, x85, x86) =>
    Option.bind (f150 F x64 x80 x86 x2 x3) fun x87 =>
    Option.bind (f148 F F x64 (-1) x79 x86 x2 x3) fun (x88, x89, x90) =>
    if ((w64 (x84 + x87)) == x88) = true then
     req (List.length x78 + List.length ([x80] : List Int) ≤ 1099511627776) <|
     some (x82, x90, (x78 ++ ([x80] : List Int)))
    else
     f147_1_p5_2 F x64 x2 x3 k x79 (w64 (x80 + 1)) x90 x78
   else
    f147_1_p5_2 F x64 x2 x3 k x79 (w64 (x80 + 1)) x81 x78
  else
   some (x79, x81, x78)
def f147_1_p1 (F : Nat) (x2 : List (List Int)) (x3 : Int) : Nat → Int → Int → (List ((Int × (Int × (Int × Unit))) × (Int × (Int × Unit)))) → (List Int) → Option ((List ((Int × (Int × (Int × Unit))) × (Int × (Int × Unit)))) × (List Int))
 | 0, _, _, _, _ => none
 | k + 1, x63, x64, x65, x62 =>
  if (decide (x64 < ((List.length x2 : Nat) : Int))) = true then
   Option.bind (f147_1_p5_2 F x64 x2 x3 F x63 (-1) x65 x62) fun (x91, x92, x93) =>
   f147_1_p1 F x2 x3 k x91 (w64 (x64 + 1)) x92 x93
  else
   some (x65, x62)
def f147_1 (F : Nat) (x1 : List ((Int × (Int × (Int × Unit))) × (Int × (Int × Unit)))) (x2 : List (List Int)) (x3 : Int) : Option ((List Int) × (List ((Int × (Int × (Int × Unit))) × (Int × (Int × Unit))))) :=
 Option.bind (f149_1 F x1 x2 x3) fun x4 =>
 Option.bind (f147_1_p1 F x2 x3 F x4 0 x1 ([] : List Int)) fun (x94, x95) =>
 some ((List.drop 0 (List.take (0 + (List.length x95)) x95)), x94)

def f125 (F : Nat) (x1 x2 : Int) (x3 : List ((Int × (Int × (Int × Unit))) × (Int × (Int × Unit)))) (x4 : List (List Int)) (x5 : Int) : Option (Int × (List ((Int × (Int × (Int × Unit))) × (Int × (Int × Unit))))) :=
 Option.bind (f149_1 F x3 x4 x5) fun x6 =>
 Option.bind (f148 F F 0 (-1) x6 x3 x4 x5) fun (x7, x8, x9) =>
 Option.bind (f150 F x1 x2 x9 x4 x5) fun x10 =>
 Option.bind (f149_1 F x9 x4 x5) fun x11 =>
 Option.bind (f148 F F 0 x1 x11 x9 x4 x5) fun (x12, x13, x14) =>
 some ((w64 (x12 - (w64 (x7 - x10)))), x14)

def f124_p2 (F : Nat) (x7 : List Int) (x5 : List (List Int)) (x6 : Int) : Nat → Int → (List ((Int × (Int × (Int × Unit))) × (Int × (Int × Unit)))) → (List Int) → Option (List Int)
 | 0, _, _, _ => none
 | k + 1, x19, x20, x18 =>
  if (decide (x19 < ((List.length x7 : Nat) : Int))) = true then
   Option.bind (at? x7 x19) fun x21 =>
   Option.bind (f125 F x19 x21 x20 x5 x6) fun (x22, x23) =>
   req (List.length x18 + List.length ([x22] : List Int) ≤ 1099511627776) <|
   f124_p2 F x7 x5 x6 k (w64 (x19 + 1)) x23 (x18 ++ ([x22] : List Int))
  else
   some x18
def f124 (F : Nat) (x1 : List (List Int)) : Option ((List Int) × Int) :=
 Option.bind (f146 F x1) fun
 | .c0 x2 =>
  if (x2 != 0) = true then
   some (([] : List Int), x2)
  else
   Option.bind (f147 F) fun _ => none
 | .c1 x3 x4 x5 x6 =>
  if (x3 != 0) = true then
   some (([] : List Int), x3)
  else
   Option.bind (f147_1 F x4 x5 x6) fun (x7, x8) =>
   Option.bind (f124_p2 F x7 x5 x6 F 0 x8 ([] : List Int)) fun x24 =>
   some ((List.drop 0 (List.take (0 + (List.length x24)) x24)), 0)

def f98 (F : Nat) (x1 : List (List Int)) : Option ((List Int) × Int) :=
 Option.bind (f124 F x1) fun (x2, x3) =>
 some (x2, x3)

def f153 (F : Nat) (x1 x2 x3 : Int) : Option Bool :=
 if (decide (x1 ≤ x2)) = true then
  some (decide (x2 ≤ x3))
 else
  some false

def f171_p0 (F : Nat) (x1 : Int) (x2 : Bool) : Option Int :=
 if x2 = true then
  some (w64 (x1 + 1))
 else
  some x1
def f171 (F : Nat) (x1 : Int) (x2 : Bool) : Option Int :=
 Option.bind (f171_p0 F x1 x2) fun x3 =>
 some x3

def f152 (F : Nat) (x1 x2 : Int) (x3 : Bool) (x4 x5 : List Int) : Option Int :=
 req ((0 : Int) ≤ x1 ∧ (x1 : Int) < ((9 : Nat) : Int)) <|
 Option.bind ((x5)[(0 + ((Int.toNat x1) * 1))]?) fun x6 =>
 Option.bind (f171 F x1 x3) fun x7 =>
 some (w64 (x6 + x7))

def f170_p4 (F : Nat) (x1 : Int) (x2 : Bool) (x3 : List Int) : Nat → Int → Int → Bool → (List Int) → (List Int) → Option (Int × Bool × (List Int) × (List Int))
 | 0, _, _, _, _, _ => none
 | k + 1, x6, x7, x8, x9, x10 =>
  if (decide (x6 < 9)) = true then
   req ((0 : Int) ≤ x6 ∧ (x6 : Int) < ((9 : Nat) : Int)) <|
   req ((0 + ((Int.toNat x6) * 1)) < 9) <|
   f170_p4 F x1 x2 x3 k (w64 (x6 + 1)) x7 x8 x9 (List.set x10 (0 + ((Int.toNat x6) * 1)) (-1))
  else
   some (x7, x8, x9, x10)
def f170_p12_1 (F : Nat) (x21 x28 : Int) (x3 : List Int) (x31 x1 : Int) (x2 : Bool) (x22 : Int) (x23 : Bool) (x24 x25 x26 : List Int) (x30 : Int) (x27 : List Int) : Option (List Int) :=
 if (x31 == 1) = true then
  req ((0 : Int) ≤ x28 ∧ (x28 : Int) < ((9 : Nat) : Int)) <|
  req ((0 + ((Int.toNat x28) * 1)) < 9) <|
  some (List.set x25 (0 + ((Int.toNat x28) * 1)) x21)
 else
  some x25
inductive f170_p8_R where
 | c0
 | c1 (a0 : Int) (a1 : Bool) (a2 : List Int) (a3 : List Int) (a4 : List Int) (a5 : List Int)
def f170_p8 (F : Nat) (x3 : List Int) (x1 : Int) (x2 : Bool) : Nat → Int → Int → Bool → (List Int) → (List Int) → (List Int) → (List Int) → Option f170_p8_R
 | 0, _, _, _, _, _, _, _ => none
 | k + 1, x21, x22, x23, x24, x25, x26, x27 =>
  if (decide (x21 < ((List.length x3 : Nat) : Int))) = true then
   Option.bind (at? x3 x21) fun x28 =>
   Option.bind (f153 F 0 x28 x1) fun x29 =>
   if x29 = true then
    req ((0 : Int) ≤ x28 ∧ (x28 : Int) < ((9 : Nat) : Int)) <|
    Option.bind ((x26)[(0 + ((Int.toNat x28) * 1))]?) fun x30 =>
    req ((0 + ((Int.toNat x28) * 1)) < 9) <|
    Option.bind (((List.set x26 (0 + ((Int.toNat x28) * 1)) (w64 (x30 + 1))))[(0 + ((Int.toNat x28) * 1))]?) fun x31 =>
    Option.bind (f170_p12_1 F x21 x28 x3 x31 x1 x2 x22 x23 x24 x25 x26 x30 x27) fun x32 =>
    req ((0 : Int) ≤ x21 ∧ (x21 : Int) < ((16 : Nat) : Int)) <|
    req ((0 + ((Int.toNat x21) * 1)) < 16) <|
    f170_p8 F x3 x1 x2 k (w64 (x21 + 1)) x22 x23 (List.set x24 (0 + ((Int.toNat x21) * 1)) x28) x32 (List.set x26 (0 + ((Int.toNat x28) * 1)) (w64 (x30 + 1))) (List.set x27 (0 + ((Int.toNat x28) * 1)) x21)
   else
    some .c0
  else
   some (.c1 x22 x23 x24 x25 x26 x27)
inductive f170_p14_R where
 | c0 (a0 : Int)
 | c1
def f170_p14 (F : Nat) (x1 : Int) (x2 : Bool) (x3 : List Int) (x33 : Int) (x34 : Bool) (x35 x36 : List Int) (x37 x38 : List Int) : Nat → Int → Option f170_p14_R
 | 0, _ => none
 | k + 1, x39 =>
  if (decide (x39 ≤ x1)) = true then
   req ((0 : Int) ≤ x39 ∧ (x39 : Int) < ((9 : Nat) : Int)) <|
   Option.bind ((x37)[(0 + ((Int.toNat x39) * 1))]?) fun x40 =>
   if (decide (x40 > 2)) = true then
    some (.c0 3)
   else
   if (x40 == 1) = true then
    some (.c0 21)
   else
   if (x40 == 2) = true then
    Option.bind ((x38)[(0 + ((Int.toNat x39) * 1))]?) fun x41 =>
    Option.bind (f152 F x39 x33 x34 x35 x36) fun x42 =>
    if (x41 != x42) = true then
     some (.c0 13)
    else
     f170_p14 F x1 x2 x3 x33 x34 x35 x36 x37 x38 k (w64 (x39 + 1))
   else
    f170_p14 F x1 x2 x3 x33 x34 x35 x36 x37 x38 k (w64 (x39 + 1))
  else
   some .c1
inductive f170_R where
 | c0 (a0 : Int)
 | c1 (a0 : Int) (a1 : Int) (a2 : Bool) (a3 : List Int) (a4 : List Int)
def f170 (F : Nat) (x1 : Int) (x2 : Bool) (x3 : List Int) : Option f170_R :=
 Option.bind (f153 F 1 x1 8) fun x4 =>
 if x4 = true then
  if (((List.length x3 : Nat) : Int) != (w64 (2 * x1))) = true then
   some (.c0 5)
  else
   Option.bind (f170_p4 F x1 x2 x3 F 0 x1 x2 (List.replicate 16 0) (List.replicate 9 0)) fun (x11, x12, x13, x14) =>
   Option.bind (f170_p8 F x3 x1 x2 F 0 x11 x12 x13 x14 (List.replicate 9 0) (List.replicate 9 0)) fun
   | .c0 =>
    some (.c0 2)
   | .c1 x33 x34 x35 x36 x37 x38 =>
    Option.bind (f170_p14 F x1 x2 x3 x33 x34 x35 x36 x37 x38 F 1) fun
    | .c0 x43 =>
     some (.c0 x43)
    | .c1 =>
     some (.c1 0 x33 x34 x35 x36)
 else
  some (.c0 1)

inductive f151_R where
 | c0 (a0 : Int)
 | c1 (a0 : Int) (a1 : Int) (a2 : Bool) (a3 : List Int) (a4 : List Int)
def f151 (F : Nat) (x1 : Int) (x2 : Bool) (x3 : List Int) (x4 : Int) : Option f151_R :=
 Option.bind (f170 F x1 x2 x3) fun
 | .c0 x5 =>
  if (x5 != 0) = true then
   some (.c0 x5)
  else
   none
 | .c1 x6 x7 x8 x9 x10 =>
  if (x6 != 0) = true then
   some (.c0 x6)
  else
   Option.bind (f153 F 1 x4 x7) fun x11 =>
   if x11 = true then
    req ((0 : Int) ≤ x4 ∧ (x4 : Int) < ((9 : Nat) : Int)) <|
    Option.bind ((x10)[(0 + ((Int.toNat x4) * 1))]?) fun x12 =>
    if (decide (x12 < 0)) = true then
     some (.c0 12)
    else
     some (.c1 0 x7 x8 x9 x10)
   else
    some (.c0 2)

def f126_p6_1 (F : Nat) (x4 x11 x12 : Int) (x18 : List Int) (x19 : Int) (x22 x23 : Bool) (x7 : Int) (x8 : Bool) (x9 x10 : List Int) : Option (List Int) :=
 if (x22 == x23) = true then
  some x18
 else
  req (List.length x18 + List.length ([x19] : List Int) ≤ 1099511627776) <|
  some (x18 ++ ([x19] : List Int))
def f126_p2 (F : Nat) (x4 x11 : Int) (x12 x7 : Int) (x8 : Bool) (x9 x10 : List Int) : Nat → Int → (List Int) → Option (List Int)
 | 0, _, _ => none
 | k + 1, x19, x18 =>
  if (decide (x19 ≤ x7)) = true then
   req ((0 : Int) ≤ x19 ∧ (x19 : Int) < ((9 : Nat) : Int)) <|
   Option.bind ((x10)[(0 + ((Int.toNat x19) * 1))]?) fun x20 =>
   if (decide (x20 < 0)) = true then
    f126_p2 F x4 x11 x12 x7 x8 x9 x10 k (w64 (x19 + 1)) x18
   else
   if (x19 == x4) = true then
    f126_p2 F x4 x11 x12 x7 x8 x9 x10 k (w64 (x19 + 1)) x18
   else
    Option.bind (f152 F x19 x7 x8 x9 x10) fun x21 =>
    Option.bind (f153 F x11 x20 x12) fun x22 =>
    Option.bind (f153 F x11 x21 x12) fun x23 =>
    Option.bind (f126_p6_1 F x4 x11 x12 x18 x19 x22 x23 x7 x8 x9 x10) fun x24 =>
    f126_p2 F x4 x11 x12 x7 x8 x9 x10 k (w64 (x19 + 1)) x24
  else
   some x18
def f126 (F : Nat) (x1 : Int) (x2 : Bool) (x3 : List Int) (x4 : Int) : Option ((List Int) × Int) :=
 Option.bind (f151 F x1 x2 x3 x4) fun
 | .c0 x5 =>
  if (x5 != 0) = true then
   some (([] : List Int), x5)
  else
   none
 | .c1 x6 x7 x8 x9 x10 =>
  if (x6 != 0) = true then
   some (([] : List Int), x6)
  else
   req ((0 : Int) ≤ x4 ∧ (x4 : Int) < ((9 : Nat) : Int)) <|
   Option.bind ((x10)[(0 + ((Int.toNat x4) * 1))]?) fun x11 =>
   Option.bind (f152 F x4 x7 x8 x9 x10) fun x12 =>
   Option.bind (f126_p2 F x4 x11 x12 x7 x8 x9 x10 F 1 ([] : List Int)) fun x25 =>
   some ((List.drop 0 (List.take (0 + (List.length x25)) x25)), 0)

def f191 (F : Nat) (x1 x2 x3 : Int) : Option Bool :=
 if (decide (x1 ≥ x2)) = true then
  some (decide (x1 ≤ x3))
 else
  some false

inductive f204_p4_R where
 | c0 (a0 : Int)
 | c1
def f204_p4 (F : Nat) (x1 : List Int) : Nat → Int → Int → Option f204_p4_R
 | 0, _, _ => none
 | k + 1, x2, x3 =>
  if (decide (x3 < ((List.length x1 : Nat) : Int))) = true then
   Option.bind (at? x1 x3) fun x4 =>
   Option.bind (f191 F x4 1 30) fun x5 =>
   if x5 = true then
    if (decide (x4 ≤ x2)) = true then
     some (.c0 7)
    else
     f204_p4 F x1 k x4 (w64 (x3 + 1))
   else
    some (.c0 1)
  else
   some .c1
def f204 (F : Nat) (x1 : List Int) : Option Int :=
 if (((List.length x1 : Nat) : Int) == 0) = true then
  some 4
 else
 if (decide (((List.length x1 : Nat) : Int) > 5)) = true then
  some 3
 else
  Option.bind (f204_p4 F x1 F 0 0) fun
  | .c0 x6 =>
   some x6
  | .c1 =>
   some 0

def f205_p0 (F : Nat) (x1 : List Int) : Option Unit :=
 if (decide (((List.length x1 : Nat) : Int) < 1)) = true then
  none
 else
  some ()
def f205_p2 (F : Nat) (x1 : List Int) : Nat → Int → Int → Option Int
 | 0, _, _ => none
 | k + 1, x3, x4 =>
  if (decide (x4 < ((List.length x1 : Nat) : Int))) = true then
   Option.bind (at? x1 x4) fun x5 =>
   f205_p2 F x1 k (if x5 < x3 then x5 else x3) (w64 (x4 + 1))
  else
   some x3
def f205 (F : Nat) (x1 : List Int) : Option Int :=
 Option.bind (f205_p0 F x1) fun _ =>
 Option.bind (at? x1 0) fun x2 =>
 Option.bind (f205_p2 F x1 F x2 1) fun x6 =>
 some x6

def f206_p0 (F : Nat) (x1 : List Int) : Option Unit :=
 if (decide (((List.length x1 : Nat) : Int) < 1)) = true then
  none
 else
  some ()
def f206_p2 (F : Nat) (x1 : List Int) : Nat → Int → Int → Option Int
 | 0, _, _ => none
 | k + 1, x3, x4 =>
  if (decide (x4 < ((List.length x1 : Nat) : Int))) = true then
   Option.bind (at? x1 x4) fun x5 =>
   f206_p2 F x1 k (if x5 > x3 then x5 else x3) (w64 (x4 + 1))
  else
   some x3
def f206 (F : Nat) (x1 : List Int) : Option Int :=
 Option.bind (f206_p0 F x1) fun _ =>
 Option.bind (at? x1 0) fun x2 =>
 Option.bind (f206_p2 F x1 F x2 1) fun x6 =>
 some x6

def f190 (F : Nat) (x1 x2 : List Int) : Option ((List Int) × (List Int) × Int) :=
 Option.bind (f204 F x1) fun x3 =>
 if (x3 != 0) = true then
  some (([] : List Int), ([] : List Int), x3)
 else
 if (((List.length x2 : Nat) : Int) != ((List.length x1 : Nat) : Int)) = true then
  some (([] : List Int), ([] : List Int), 5)
 else
  Option.bind (f205 F x2) fun x4 =>
  if (decide (x4 < 0)) = true then
   some (([] : List Int), ([] : List Int), 1)
  else
   Option.bind (f206 F x2) fun x5 =>
   if (decide (x5 > 40)) = true then
    some (([] : List Int), ([] : List Int), 1)
   else
    some (x1, x2, 0)

def f172_p0 (F : Nat) (x6 : Int) (x7 : Bool) (x4 x5 : List Int) : Option Int :=
 if x7 = true then
  some x6
 else
  some 1
def f172 (F : Nat) (x1 x2 : List Int) (x3 : Int) : Option ((List Int) × (List Int) × Int) :=
 Option.bind (f190 F x1 x2) fun (x4, x5, x6) =>
 if (x6 == 0) = true then
  Option.bind (f191 F x3 0 1000) fun x7 =>
  Option.bind (f172_p0 F x6 x7 x4 x5) fun x8 =>
  some (x4, x5, x8)
 else
  some (x4, x5, x6)

def f192_1 (F : Nat) (x1 : Int) (x2 : List Int) (x3 x4 x5 : Int) : Option Int :=
 Option.bind (at? x2 (w64 (x4 + (w64 (x1 * x3))))) fun x6 =>
 some (w64 ((w64 (x6 + x5)) - x1))

def f173_p1 (F : Nat) (x3 : Int) (x1 x2 : List Int) : Nat → Int → (List Int) → Option (List Int)
 | 0, _, _ => none
 | k + 1, x6, x5 =>
  if (decide (x6 < (((Int.toNat (w64 (x3 + 1))) : Nat) : Int))) = true then
   req ((0 : Int) ≤ x6 ∧ (x6 : Int) < (((Int.toNat (w64 (x3 + 1))) : Nat) : Int)) <|
   req ((0 + (Int.toNat x6)) < List.length x5) <|
   f173_p1 F x3 x1 x2 k (w64 (x6 + 1)) (List.set x5 (0 + (Int.toNat x6)) 1001)
  else
   some x5
def f173_p17_17 (F : Nat) (x3 : Int) (x1 : List Int) (x134 x137 : Int) (x136 x167 : Int) (x2 x135 : List Int) (x133 : List (List Int)) (x179 x180 : List Int) (x182 : Int) : Nat → (List Int) → Option (List Int)
 | 0, _ => none
 | k + 1, x183 =>
  if (decide ((((List.length x183) : Nat) : Int) > 0)) = true then
   req ((0 : Int) ≤ (w64 ((((List.length x183) : Nat) : Int) - 1)) ∧ ((w64 ((((List.length x183) : Nat) : Int) - 1)) : Int) < (((List.length x183) : Nat) : Int)) <|
   Option.bind ((x183)[(0 + (Int.toNat (w64 ((((List.length x183) : Nat) : Int) - 1))))]?) fun x184 =>
   Option.bind (f192_1 F x184 x135 x136 x167 x182) fun x185 =>
   Option.bind (f192_1 F x182 x135 x136 x167 x182) fun x186 =>
   if (decide (x185 ≥ x186)) = true then
    req ((0 : Int) ≤ 0 ∧ (0 : Int) ≤ (w64 ((((List.length x183) : Nat) : Int) - 1)) ∧ ((w64 ((((List.length x183) : Nat) : Int) - 1)) : Int) ≤ (((List.length x183) : Nat) : Int) ∧ 0 < (List.length x183)) <|
    req ((0 : Int) < (w64 ((((List.length x183) : Nat) : Int) - 1)) ∨ (0 : Int) = 0) <|
    f173_p17_17 F x3 x1 x134 x137 x136 x167 x2 x135 x133 x179 x180 x182 k (List.drop 0 (List.take (Int.toNat (w64 ((((List.length x183) : Nat) : Int) - 1))) x183))
   else
    some x183
  else
   some x183
def f173_p20_17 (F : Nat) (x3 : Int) (x1 : List Int) (x134 x137 : Int) (x187 : List Int) (x182 x136 : Int) (x167 x188 : Int) (x2 x135 : List Int) (x133 : List (List Int)) (x179 x180 : List Int) : Option (List Int) :=
 if (decide (x188 < (w64 (x182 - x137)))) = true then
  req ((0 : Int) ≤ 1 ∧ (1 : Int) ≤ (((List.length (x187 ++ ([x182] : List Int))) : Nat) : Int) ∧ ((((List.length (x187 ++ ([x182] : List Int))) : Nat) : Int) : Int) ≤ (((List.length (x187 ++ ([x182] : List Int))) : Nat) : Int) ∧ 0 < (List.length (x187 ++ ([x182] : List Int)))) <|
  req ((1 : Int) < (((List.length (x187 ++ ([x182] : List Int))) : Nat) : Int) ∨ (1 : Int) = 0) <|
  some (List.drop 1 (List.take (List.length (x187 ++ ([x182] : List Int))) (x187 ++ ([x182] : List Int))))
 else
  some (x187 ++ ([x182] : List Int))
def f173_p13_5 (F : Nat) (x3 : Int) (x1 : List Int) (x134 x137 : Int) (x136 x167 : Int) (x2 x135 : List Int) (x133 : List (List Int)) : Nat → (List Int) → (List Int) → Int → (List Int) → Option ((List Int) × (List Int))
 | 0, _, _, _, _ => none
 | k + 1, x179, x180, x182, x181 =>
  if (decide ((w64 (x167 + (w64 (x182 * x136)))) ≤ x3)) = true then
   Option.bind (f173_p17_17 F x3 x1 x134 x137 x136 x167 x2 x135 x133 x179 x180 x182 F x181) fun x187 =>
   req (List.length x187 + List.length ([x182] : List Int) ≤ 1099511627776) <|
   req ((0 : Int) ≤ 0 ∧ (0 : Int) < (((List.length (x187 ++ ([x182] : List Int))) : Nat) : Int)) <|
   Option.bind (((x187 ++ ([x182] : List Int)))[0]?) fun x188 =>
   Option.bind (f173_p20_17 F x3 x1 x134 x137 x187 x182 x136 x167 x188 x2 x135 x133 x179 x180) fun x189 =>
   req ((0 : Int) ≤ 0 ∧ (0 : Int) < (((List.length x189) : Nat) : Int)) <|
   Option.bind ((x189)[0]?) fun x190 =>
   Option.bind (f192_1 F x190 x135 x136 x167 x182) fun x191 =>
   req ((0 : Int) ≤ (w64 (x167 + (w64 (x182 * x136)))) ∧ ((w64 (x167 + (w64 (x182 * x136)))) : Int) < (((Int.toNat (w64 (x3 + 1))) : Nat) : Int)) <|
   req ((0 + (Int.toNat (w64 (x167 + (w64 (x182 * x136)))))) < List.length x179) <|
   req ((0 + (Int.toNat (w64 (x167 + (w64 (x182 * x136)))))) < List.length x180) <|
   f173_p13_5 F x3 x1 x134 x137 x136 x167 x2 x135 x133 k (List.set x179 (0 + (Int.toNat (w64 (x167 + (w64 (x182 * x136)))))) (if x191 < 1001 then x191 else 1001)) (List.set x180 (0 + (Int.toNat (w64 (x167 + (w64 (x182 * x136)))))) (w64 (x182 - x190))) (w64 (x182 + 1)) x189
  else
   some (x179, x180)
def f173_p9_2 (F : Nat) (x3 : Int) (x1 : List Int) (x134 x137 x136 : Int) (x2 x135 : List Int) (x133 : List (List Int)) : Nat → Int → (List Int) → (List Int) → Option ((List Int) × (List Int))
 | 0, _, _, _ => none
 | k + 1, x167, x165, x166 =>
  if (decide (x167 < (if (w64 (x3 + 1)) < x136 then (w64 (x3 + 1)) else x136))) = true then
   Option.bind (f173_p13_5 F x3 x1 x134 x137 x136 x167 x2 x135 x133 F x165 x166 0 ([] : List Int)) fun (x192, x193) =>
   f173_p9_2 F x3 x1 x134 x137 x136 x2 x135 x133 k (w64 (x167 + 1)) x192 x193
  else
   some (x165, x166)
def f173_p5 (F : Nat) (x3 : Int) (x1 x2 : List Int) : Nat → Int → (List Int) → (List (List Int)) → Option ((List Int) × (List (List Int)))
 | 0, _, _, _ => none
 | k + 1, x134, x135, x133 =>
  if (decide (x134 ≥ 0)) = true then
   Option.bind (at? x1 x134) fun x136 =>
   Option.bind (at? x2 x134) fun x137 =>
   req ((0 : Int) ≤ (w64 (x3 + 1)) ∧ ((w64 (x3 + 1)) : Int) ≤ (w64 (x3 + 1)) ∧ ((w64 (x3 + 1)) : Int) ≤ 1099511627776) <|
   Option.bind (f173_p9_2 F x3 x1 x134 x137 x136 x2 x135 x133 F 0 (List.replicate (Int.toNat (w64 (x3 + 1))) (0 : Int)) (List.replicate (Int.toNat (w64 (x3 + 1))) (0 : Int))) fun (x194, x195) =>
   req ((0 + (Int.toNat (w64 (x3 + 1)))) ≤ List.length x194) <|
   req ((0 + (Int.toNat (w64 (x3 + 1)))) ≤ List.length x195) <|
   req ((0 : Int) ≤ x134 ∧ (x134 : Int) < (((Int.toNat ((List.length x1 : Nat) : Int)) : Nat) : Int)) <|
   req ((0 + (Int.toNat x134)) < List.length x133) <|
   f173_p5 F x3 x1 x2 k (w64 (x134 - 1)) (List.drop 0 (List.take (0 + (Int.toNat (w64 (x3 + 1)))) x194)) (List.set x133 (0 + (Int.toNat x134)) (List.drop 0 (List.take (0 + (Int.toNat (w64 (x3 + 1)))) x195)))
  else
   some (x135, x133)
def f173_p23 (F : Nat) (x1 x2 : List Int) (x197 : List (List Int)) : Nat → Int → Int → (List Int) → Option (List Int)
 | 0, _, _, _ => none
 | k + 1, x205, x206, x204 =>
  if (decide (x206 < (((Int.toNat ((List.length x1 : Nat) : Int)) : Nat) : Int))) = true then
   req ((0 : Int) ≤ x206 ∧ (x206 : Int) < (((Int.toNat ((List.length x1 : Nat) : Int)) : Nat) : Int)) <|
   Option.bind ((x197)[(0 + (Int.toNat x206))]?) fun x207 =>
   Option.bind (at? x207 x205) fun x208 =>
   req (List.length x204 + List.length ([x208] : List Int) ≤ 1099511627776) <|
   Option.bind (at? x1 x206) fun x209 =>
   f173_p23 F x1 x2 x197 k (w64 (x205 - (w64 (x208 * x209)))) (w64 (x206 + 1)) (x204 ++ ([x208] : List Int))
  else
   some x204
def f173 (F : Nat) (x1 x2 : List Int) (x3 : Int) : Option ((List Int) × Int) :=
 req ((0 : Int) ≤ (w64 (x3 + 1)) ∧ ((w64 (x3 + 1)) : Int) ≤ (w64 (x3 + 1)) ∧ ((w64 (x3 + 1)) : Int) ≤ 1099511627776) <|
 Option.bind (f173_p1 F x3 x1 x2 F 0 (List.replicate (Int.toNat (w64 (x3 + 1))) (0 : Int))) fun x7 =>
 req ((0 : Int) ≤ 0 ∧ (0 : Int) < (((Int.toNat (w64 (x3 + 1))) : Nat) : Int)) <|
 req (0 < List.length x7) <|
 req ((0 : Int) ≤ ((List.length x1 : Nat) : Int) ∧ (((List.length x1 : Nat) : Int) : Int) ≤ ((List.length x1 : Nat) : Int) ∧ (((List.length x1 : Nat) : Int) : Int) ≤ 1099511627776) <|
 req ((0 + (Int.toNat (w64 (x3 + 1)))) ≤ List.length (List.set x7 0 0)) <|
 Option.bind (f173_p5 F x3 x1 x2 F (w64 (((List.length x1 : Nat) : Int) - 1)) (List.drop 0 (List.take (0 + (Int.toNat (w64 (x3 + 1)))) (List.set x7 0 0))) (List.replicate (Int.toNat ((List.length x1 : Nat) : Int)) ([] : (List Int)))) fun (x196, x197) =>
 Option.bind (at? x196 x3) fun x198 =>
 if (x198 == 1001) = true then
  some (([] : List Int), 12)
 else
  Option.bind (f173_p23 F x1 x2 x197 F x3 0 ([] : List Int)) fun x210 =>
  some ((List.drop 0 (List.take (0 + (List.length x210)) x210)), 0)

def f154 (F : Nat) (x1 x2 : List Int) (x3 : Int) : Option ((List Int) × Int) :=
 Option.bind (f172 F x1 x2 x3) fun (x4, x5, x6) =>
 if (x6 != 0) = true then
  some (([] : List Int), x6)
 else
  Option.bind (f173 F x4 x5 x3) fun (x7, x8) =>
  some (x7, x8)

def f195 (F : Nat) (x1 x2 x3 : Int) : Option Bool :=
 if (decide (x1 ≤ x2)) = true then
  some (decide (x2 ≤ x3))
 else
  some false

def f194 (F : Nat) (x1 x2 : Int) : Option Bool :=
 Option.bind (f195 F 0 x1 (w64 (x2 - 1))) fun x3 =>
 some (!x3)

inductive f207_1_p1_R where
 | c0 (a0 : Int)
 | c1
def f207_1_p1 (F : Nat) (x1 : List Int) (x2 : Int) : Nat → Int → Option f207_1_p1_R
 | 0, _ => none
 | k + 1, x3 =>
  if (decide (x3 < ((List.length x1 : Nat) : Int))) = true then
   Option.bind (at? x1 x3) fun x4 =>
   Option.bind (f194 F x4 x2) fun x5 =>
   if x5 = true then
    some (.c0 x3)
   else
    f207_1_p1 F x1 x2 k (w64 (x3 + 1))
  else
   some .c1
def f207_1 (F : Nat) (x1 : List Int) (x2 : Int) : Option Int :=
 Option.bind (f207_1_p1 F x1 x2 F 0) fun
 | .c0 x6 =>
  some x6
 | .c1 =>
  some (-1)

def f193_1 (F : Nat) (x1 : List Int) (x2 : Int) : Option Bool :=
 Option.bind (f207_1 F x1 x2) fun x3 =>
 some (decide (x3 ≥ 0))

def f174_p5 (F : Nat) (x1 : List Int) : Nat → Int → Int → Option Int
 | 0, _, _ => none
 | k + 1, x5, x6 =>
  if (decide (x5 < ((List.length x1 : Nat) : Int))) = true then
   Option.bind (at? x1 x5) fun x7 =>
   f174_p5 F x1 k (w64 (x5 + 1)) (w64 (x6 - x7))
  else
   some x6
def f174 (F : Nat) (x1 : List Int) : Option Int :=
 if (((List.length x1 : Nat) : Int) == 0) = true then
  some 4
 else
 if (decide (((List.length x1 : Nat) : Int) > 7)) = true then
  some 3
 else
  Option.bind (f193_1 F x1 ((List.length x1 : Nat) : Int)) fun x2 =>
  if x2 = true then
   some 1
  else
   Option.bind (f174_p5 F x1 F 0 ((List.length x1 : Nat) : Int)) fun x8 =>
   if ((w64 (((List.length x1 : Nat) : Int) - x8)) != (w64 (Int.tdiv (w64 (((List.length x1 : Nat) : Int) * (w64 (((List.length x1 : Nat) : Int) - 1)))) 2))) = true then
    some 17
   else
    some 0

def f196 (F : Nat) (x1 : Int) : Option Int :=
 req ((0 : Int) ≤ x1 ∧ (x1 : Int) < ((256 : Nat) : Int)) <|
 some (w64 ((strAt str2 x1)))

def f176_p1 (F : Nat) : Nat → Int → (List Int) → Option (List Int)
 | 0, _, _ => none
 | k + 1, x5, x4 =>
  if (x5 != 0) = true then
   Option.bind (f196 F x5) fun x6 =>
   req (List.length x4 + List.length ([x6] : List Int) ≤ 1099511627776) <|
   f176_p1 F k (iAnd .u8 x5 (IntKind.wrap .u8 (x5 - 1))) (x4 ++ ([x6] : List Int))
  else
   some x4
def f176 (F : Nat) (x1 : Int) : Option (List Int) :=
 Option.bind (f176_p1 F F x1 ([] : List Int)) fun x7 =>
 some (List.drop 0 (List.take (0 + (List.length x7)) x7))

def f175_p1 (F : Nat) (x1 x3 : List Int) : Nat → Int → Int → Option Int
 | 0, _, _ => none
 | k + 1, x4, x5 =>
  if (decide (x5 < ((List.length x3 : Nat) : Int))) = true then
   Option.bind (at? x3 x5) fun x6 =>
   Option.bind (at? x1 x6) fun x7 =>
   f175_p1 F x1 x3 k (w64 (x4 - x7)) (w64 (x5 + 1))
  else
   some x4
def f175 (F : Nat) (x1 : List Int) (x2 : Int) : Option Int :=
 Option.bind (f176 F x2) fun x3 =>
 Option.bind (f175_p1 F x1 x3 F (w64 (Int.tdiv (w64 (((List.length x3 : Nat) : Int) * (w64 (((List.length x3 : Nat) : Int) - 1)))) 2)) 0) fun x8 =>
 some x8

inductive f60_1_p1_R where
 | c0 (a0 : Int)
 | c1
def f60_1_p1 (F : Nat) (x1 : List Int) (x2 : Option (List Int)) : Nat → Int → Option f60_1_p1_R
 | 0, _ => none
 | k + 1, x3 =>
  if (decide (x3 < ((List.length x1 : Nat) : Int))) = true then
   Option.bind (at? x1 x3) fun x4 =>
   if (decide (x3 ≥ ((List.length ((x2).getD []) : Nat) : Int))) = true then
    some (.c0 1)
   else
    Option.bind (at? ((x2).getD []) x3) fun x5 =>
    Option.bind (f94 F x4 x5) fun x6 =>
    if (x6 != 0) = true then
     some (.c0 x6)
    else
     f60_1_p1 F x1 x2 k (w64 (x3 + 1))
  else
   some .c1
def f60_1 (F : Nat) (x1 : List Int) (x2 : Option (List Int)) : Option Int :=
 Option.bind (f60_1_p1 F x1 x2 F 0) fun
 | .c0 x7 =>
  some x7
 | .c1 =>
  if (decide (((List.length x1 : Nat) : Int) < ((List.length ((x2).getD []) : Nat) : Int))) = true then
   some (-1)
  else
   some 0

def f155_p6 (F : Nat) (x1 : List Int) (x3 : Option (List Int)) (x4 : Int) (x6 : List Int) (x7 : Int) : Option (Option (List Int)) :=
 if (decide (x7 < 0)) = true then
  req (x6 ≠ []) <|
  some (some x6)
 else
  some x3
def f155_p2 (F : Nat) (x1 : List Int) : Nat → (Option (List Int)) → Int → Option (Option (List Int))
 | 0, _, _ => none
 | k + 1, x3, x4 =>
  req ((0 : Int) ≤ ((List.length x1 : Nat) : Int)) <|
  if (decide (x4 < (iShl .u8 1 ((List.length x1 : Nat) : Int)))) = true then
   Option.bind (f175 F x1 x4) fun x5 =>
   if (decide (x5 ≤ 0)) = true then
    f155_p2 F x1 k x3 (IntKind.wrap .u8 (x4 + 1))
   else
    Option.bind (f176 F x4) fun x6 =>
    if (Option.isNone x3) = true then
     req (x6 ≠ []) <|
     f155_p2 F x1 k (some x6) (IntKind.wrap .u8 (x4 + 1))
    else
    if (decide (((List.length x6 : Nat) : Int) < ((List.length ((x3).getD []) : Nat) : Int))) = true then
     req (x6 ≠ []) <|
     f155_p2 F x1 k (some x6) (IntKind.wrap .u8 (x4 + 1))
    else
    if (((List.length x6 : Nat) : Int) == ((List.length ((x3).getD []) : Nat) : Int)) = true then
     Option.bind (f60_1 F x6 x3) fun x7 =>
     Option.bind (f155_p6 F x1 x3 x4 x6 x7) fun x8 =>
     f155_p2 F x1 k x8 (IntKind.wrap .u8 (x4 + 1))
    else
     f155_p2 F x1 k x3 (IntKind.wrap .u8 (x4 + 1))
  else
   some x3
def f155 (F : Nat) (x1 : List Int) : Option ((List Int) × Int) :=
 Option.bind (f174 F x1) fun x2 =>
 if (x2 != 0) = true then
  some (([] : List Int), x2)
 else
  Option.bind (f155_p2 F x1 F (none : Option (List Int)) 1) fun x9 =>
  if (Option.isNone x9) = true then
   some (([] : List Int), 13)
  else
   some (((x9).getD []), 0)

def f127 (F : Nat) : Option Bool :=
 Option.bind (f36 F ([2, 5] : List Int)) fun x1 =>
 Option.bind (f36 F ([3, 2] : List Int)) fun x2 =>
 Option.bind (f154 F x1 x2 11) fun (x3, x4) =>
 Option.bind (f36 F ([0, 0, 3, 3] : List Int)) fun x5 =>
 Option.bind (f155 F x5) fun (x6, x7) =>
 if (x4 == 0) = true then
  if (x7 == 0) = true then
   Option.bind (f36 F ([3, 1] : List Int)) fun x8 =>
   Option.bind (f12 F x3 x8) fun x9 =>
   if x9 = true then
    Option.bind (f36 F ([0, 1] : List Int)) fun x10 =>
    Option.bind (f12 F x6 x10) fun x11 =>
    some x11
   else
    some false
  else
   some false
 else
  some false

def f99 (F : Nat) : Option Bool :=
 Option.bind (f36 F ([2, 3, 1, 2, 1, 3] : List Int)) fun x1 =>
 Option.bind (f126 F 3 true x1 2) fun (x2, x3) =>
 if (x3 == 0) = true then
  Option.bind (f36 F ([1, 3] : List Int)) fun x4 =>
  Option.bind (f12 F x2 x4) fun x5 =>
  if x5 = true then
   Option.bind (f127 F) fun x6 =>
   some x6
  else
   some false
 else
  some false

def f63 (F : Nat) : Option Bool :=
 Option.bind (f98 F ([([9, 5] : List Int), ([8, 3] : List Int), ([4, 4] : List Int)] : List (List Int))) fun (x1, x2) =>
 if (x2 == 0) = true then
  Option.bind (f36 F ([8, 0, 4] : List Int)) fun x3 =>
  Option.bind (f12 F x1 x3) fun x4 =>
  if x4 = true then
   Option.bind (f99 F) fun x5 =>
   some x5
  else
   some false
 else
  some false

def f37 (F : Nat) : Option Bool :=
 Option.bind (f61 F 3 ([1] : List Int)) fun (x1, x2) =>
 Option.bind (f62 F 3 3 0) fun (x3, x4) =>
 if (x2 == 0) = true then
  if (x4 == 0) = true then
   Option.bind (f36 F ([2] : List Int)) fun x5 =>
   Option.bind (f12 F x1 x5) fun x6 =>
   if x6 = true then
    if (x3 == 5) = true then
     Option.bind (f63 F) fun x7 =>
     some x7
    else
     some false
   else
    some false
  else
   some false
 else
  some false

def f15 (F : Nat) : Option Bool :=
 Option.bind (f6 F 4) fun (x1, x2) =>
 if (x2 == 0) = true then
  Option.bind (f36 F ([0, 1, 14, 15] : List Int)) fun x3 =>
  Option.bind (f12 F x1 x3) fun x4 =>
  if x4 = true then
   Option.bind (f37 F) fun x5 =>
   some x5
  else
   some false
 else
  some false

inductive f3_p6_R where
 | c0
 | c1 (a0 : Int) (a1 : List (List Int))
def f3_p6 (F : Nat) (x1 : Int) (x4 : List Int) (x7 : (List Int)) (x3 : List Int) (x6 : Int) : Nat → Int → Int → (List (List Int)) → Option f3_p6_R
 | 0, _, _, _ => none
 | k + 1, x16, x17, x15 =>
  if (decide (x16 < ((List.length x7 : Nat) : Int))) = true then
   Option.bind (at? x7 x16) fun x18 =>
   if (decide (x18 < 0)) = true then
    some .c0
   else
    req ((0 : Int) ≤ (w64 (1 + (Int.tmod (w64 (x1)) 4)))) <|
    if (decide (x18 ≥ (iShl .i64 1 (w64 (1 + (Int.tmod (w64 (x1)) 4)))))) = true then
     some .c0
    else
     Option.bind (f5 F x18 (w64 (1 + (Int.tmod (w64 (x1)) 4)))) fun x19 =>
     req (List.length x15 + List.length ([x19] : List (List Int)) ≤ 1099511627776) <|
     f3_p6 F x1 x4 x7 x3 x6 k (w64 (x16 + 1)) x17 (x15 ++ ([x19] : List (List Int)))
  else
   some (.c1 x17 x15)
def f3_r28 (F : Nat) (x1 : Int) (x4 : List Int) (x7 : (List Int)) (x22 x24 : List (List Int)) (x26 x28 : List Int) (x30 : Int) (x3 : List Int) (x6 x20 : Int) (x21 : List (List Int)) (x31 : List Int) : Option Bool :=
 Option.bind (f13 F (List.drop 0 (List.take (0 + (List.length x21)) x21)) x31) fun x32 =>
 if x32 = true then
  some true
 else
  Option.bind (f13 F x22 x31) fun x33 =>
  if x33 = true then
   some true
  else
   Option.bind (f13 F x24 x31) fun x34 =>
   some x34
def f3_p19 (F : Nat) (x1 : Int) (x4 : List Int) (x7 : (List Int)) (x22 x24 : List (List Int)) (x26 x28 : List Int) (x30 : Int) (x35 : Bool) (x36 : Int) (x3 : List Int) (x6 x37 : Int) (x38 x20 : Int) (x21 : List (List Int)) : Option Int :=
 if ((iAnd .i64 (iXor .i64 x30 x38) (w64 ((iXor .i64 x30 x38) - 1))) == 0) = true then
  some (w64 (x36 + 1))
 else
  some x36
def f3_p16 (F : Nat) (x1 : Int) (x4 : List Int) (x7 : (List Int)) (x22 x24 : List (List Int)) (x26 x28 : List Int) (x30 : Int) (x35 : Bool) (x3 : List Int) (x6 x20 : Int) (x21 : List (List Int)) : Nat → Int → Int → Option Int
 | 0, _, _ => none
 | k + 1, x36, x37 =>
  if (decide (x37 < ((List.length x7 : Nat) : Int))) = true then
   Option.bind (at? x7 x37) fun x38 =>
   Option.bind (f3_p19 F x1 x4 x7 x22 x24 x26 x28 x30 x35 x36 x3 x6 x37 x38 x20 x21) fun x39 =>
   f3_p16 F x1 x4 x7 x22 x24 x26 x28 x30 x35 x3 x6 x20 x21 k x39 (w64 (x37 + 1))
  else
   some x36
inductive f3_p12_R where
 | c0
 | c1
def f3_p12 (F : Nat) (x1 : Int) (x4 : List Int) (x7 : (List Int)) (x22 x24 : List (List Int)) (x26 x28 x3 : List Int) (x6 x20 : Int) (x21 : List (List Int)) : Nat → Int → Option f3_p12_R
 | 0, _ => none
 | k + 1, x30 =>
  if (decide (x30 < (iShl .i64 1 (w64 (1 + (Int.tmod (w64 (x1)) 4)))))) = true then
   Option.bind (f5 F x30 (w64 (1 + (Int.tmod (w64 (x1)) 4)))) fun x31 =>
   Option.bind (f3_r28 F x1 x4 x7 x22 x24 x26 x28 x30 x3 x6 x20 x21 x31) fun x35 =>
   Option.bind (f3_p16 F x1 x4 x7 x22 x24 x26 x28 x30 x35 x3 x6 x20 x21 F 0 0) fun x40 =>
   Option.bind (at? x26 x30) fun x41 =>
   if (x35 == (decide (x41 > 0))) = true then
    if (x41 != x40) = true then
     some .c0
    else
     Option.bind (f14 F x28 x30) fun x42 =>
     if (x42 == x35) = true then
      some .c0
     else
      f3_p12 F x1 x4 x7 x22 x24 x26 x28 x3 x6 x20 x21 k (w64 (x30 + 1))
   else
    some .c0
  else
   some .c1
inductive f3_p2_R where
 | c0
 | c1
def f3_p2 (F : Nat) (x1 : Int) (x4 x3 : List Int) : Nat → Int → Option f3_p2_R
 | 0, _ => none
 | k + 1, x6 =>
  if (decide (x6 < ((List.length ([x3, x4] : List (List Int)) : Nat) : Int))) = true then
   Option.bind (at? ([x3, x4] : List (List Int)) x6) fun x7 =>
   Option.bind (f3_p6 F x1 x4 x7 x3 x6 F 0 (w64 (1 + (Int.tmod (w64 (x1)) 4))) ([] : List (List Int))) fun
   | .c0 =>
    some .c0
   | .c1 x20 x21 =>
    Option.bind (f7 F x20 (List.drop 0 (List.take (0 + (List.length x21)) x21))) fun (x22, x23) =>
    Option.bind (f8 F x20 (List.drop 0 (List.take (0 + (List.length x21)) x21))) fun (x24, x25) =>
    Option.bind (f9 F (w64 (1 + (Int.tmod (w64 (x1)) 4))) x7) fun (x26, x27) =>
    Option.bind (f10 F (w64 (1 + (Int.tmod (w64 (x1)) 4))) x7) fun (x28, x29) =>
    if (x23 != 0) = true then
     some .c0
    else
    if (x25 != 0) = true then
     some .c0
    else
    if (x27 != 0) = true then
     some .c0
    else
    if (x29 != 0) = true then
     some .c0
    else
     req ((0 : Int) ≤ (w64 (1 + (Int.tmod (w64 (x1)) 4)))) <|
     if (((List.length x26 : Nat) : Int) != (iShl .i64 1 (w64 (1 + (Int.tmod (w64 (x1)) 4))))) = true then
      some .c0
     else
      Option.bind (f3_p12 F x1 x4 x7 x22 x24 x26 x28 x3 x6 x20 x21 F 0) fun
      | .c0 =>
       some .c0
      | .c1 =>
       f3_p2 F x1 x4 x3 k (w64 (x6 + 1))
  else
   some .c1
def f3 (F : Nat) (x1 x2 : Int) : Option Bool :=
 req ((0 : Int) ≤ (w64 (1 + (Int.tmod (w64 (x1)) 4)))) <|
 req ((0 : Int) ≤ (iShl .u64 1 (w64 (1 + (Int.tmod (w64 (x1)) 4))))) <|
 req (((iShl .i64 1 (iShl .u64 1 (w64 (1 + (Int.tmod (w64 (x1)) 4))))) : Int) ≠ 0) <|
 Option.bind (f5 F (Int.tmod (w64 (x2)) (iShl .i64 1 (iShl .u64 1 (w64 (1 + (Int.tmod (w64 (x1)) 4)))))) 16) fun x3 =>
 Option.bind (f6 F (w64 (1 + (Int.tmod (w64 (x1)) 4)))) fun (x4, x5) =>
 if (x5 != 0) = true then
  none
 else
  Option.bind (f3_p2 F x1 x4 x3 F 0) fun
  | .c0 =>
   none
  | .c1 =>
   Option.bind (f10 F (w64 (1 + (Int.tmod (w64 (x1)) 4))) x4) fun (x43, x44) =>
   if (x44 == 0) = true then
    if (((List.length x43 : Nat) : Int) == 0) = true then
     Option.bind (f15 F) fun x45 =>
     some x45
    else
     none
   else
    none

end Go.Gh.Tz
