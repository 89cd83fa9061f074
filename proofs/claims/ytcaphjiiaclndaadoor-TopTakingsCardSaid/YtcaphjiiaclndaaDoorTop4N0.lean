/- Top4N0: printed by wip/tool/gx.py -/
import Derived.Test.YtcaphjiiaclndaaDoorGhPl
namespace Go.Gh.Top
set_option linter.unusedVariables false
set_option linter.unusedSimpArgs false

def tab32 : List Int := [0, 1, 28, 2, 29, 14, 24, 3, 30, 22, 20, 15, 25, 17, 4, 8, 31, 27, 13, 23, 21, 19, 16, 7, 26, 12, 18, 6, 11, 5, 10, 9]
def tab64 : List Int := [0, 1, 56, 2, 57, 49, 28, 3, 61, 58, 42, 50, 38, 29, 17, 4, 62, 47, 59, 36, 45, 43, 51, 22, 53, 39, 33, 30, 24, 18, 12, 5, 63, 55, 48, 27, 60, 41, 37, 16, 46, 35, 44, 21, 52, 32, 23, 11, 54, 26, 40, 15, 34, 20, 31, 10, 25, 14, 19, 9, 13, 8, 7, 6]
def str0 : ByteArray := ⟨#[]⟩
def str1 : ByteArray := ⟨#[99]⟩
def str2 : ByteArray := ⟨#[110]⟩
def f16 (F : Nat) (x1 : List Int) : Option (List Int) :=
  some x1

def f117_p1 (F : Nat) (x2 : Int) : Nat → ByteArray → Option ByteArray
  | 0, _ => none
  | k + 1, x3 =>
    if (decide (((ByteArray.size x3 : Nat) : Int) > 0)) = true then
      req ((0 : Int) ≤ (w64 (((ByteArray.size x3 : Nat) : Int) - 1)) ∧ ((w64 (((ByteArray.size x3 : Nat) : Int) - 1)) : Int) < ((ByteArray.size x3 : Nat) : Int)) <|
      if ((strAt x3 (w64 (((ByteArray.size x3 : Nat) : Int) - 1))) == x2) = true then
        req ((0 : Int) ≤ 0 ∧ (0 : Int) ≤ (w64 (((ByteArray.size x3 : Nat) : Int) - 1)) ∧ ((w64 (((ByteArray.size x3 : Nat) : Int) - 1)) : Int) ≤ ((ByteArray.size x3 : Nat) : Int)) <|
        f117_p1 F x2 k (ByteArray.extract x3 0 (Int.toNat (w64 (((ByteArray.size x3 : Nat) : Int) - 1))))
      else
        some x3
    else
      some x3
def f117 (F : Nat) (x1 : ByteArray) (x2 : Int) : Option ByteArray :=
  Option.bind (f117_p1 F x2 F x1) fun x4 =>
  some x4

def f116_p1 (F : Nat) (x2 : Int) : Nat → ByteArray → Option ByteArray
  | 0, _ => none
  | k + 1, x3 =>
    if (decide (((ByteArray.size x3 : Nat) : Int) > 0)) = true then
      req ((0 : Int) ≤ 0 ∧ (0 : Int) < ((ByteArray.size x3 : Nat) : Int)) <|
      if ((strAt x3 0) == x2) = true then
        req ((0 : Int) ≤ 1 ∧ (1 : Int) ≤ ((ByteArray.size x3 : Nat) : Int) ∧ (((ByteArray.size x3 : Nat) : Int) : Int) ≤ ((ByteArray.size x3 : Nat) : Int)) <|
        f116_p1 F x2 k (ByteArray.extract x3 1 (ByteArray.size x3))
      else
        some x3
    else
      some x3
def f116 (F : Nat) (x1 : ByteArray) (x2 : Int) : Option ByteArray :=
  Option.bind (f116_p1 F x2 F x1) fun x4 =>
  some x4

inductive f118_p1_R where
  | c0 (a0 : List Bool)
  | c1 (a0 : List Bool)
def f118_p1 (F : Nat) (x1 : ByteArray) : Nat → Int → (List Bool) → Option f118_p1_R
  | 0, _, _ => none
  | k + 1, x3, x4 =>
    if (decide (x3 < ((ByteArray.size x1 : Nat) : Int))) = true then
      req ((0 : Int) ≤ x3 ∧ (x3 : Int) < ((ByteArray.size x1 : Nat) : Int)) <|
      if (decide ((strAt x1 x3) ≥ 128)) = true then
        some (.c0 x4)
      else
        req ((0 : Int) ≤ (strAt x1 x3) ∧ ((strAt x1 x3) : Int) < ((256 : Nat) : Int)) <|
        req ((0 + ((Int.toNat (strAt x1 x3)) * 1)) < 256) <|
        f118_p1 F x1 k (w64 (x3 + 1)) (List.set x4 (0 + ((Int.toNat (strAt x1 x3)) * 1)) true)
    else
      some (.c1 x4)
def f118 (F : Nat) (x1 : ByteArray) : Option ((List Bool) × Bool) :=
  Option.bind (f118_p1 F x1 F 0 (List.replicate 256 false)) fun
  | .c0 x5 =>
    some (x5, false)
  | .c1 x6 =>
    some (x6, true)

def f137 (F : Nat) (x1 : Int) (x2 : List Bool) : Option Bool :=
  req ((0 : Int) ≤ x1 ∧ (x1 : Int) < ((256 : Nat) : Int)) <|
  Option.bind ((x2)[(0 + ((Int.toNat x1) * 1))]?) fun x3 =>
  some x3

def f120_p1 (F : Nat) (x2 : List Bool) : Nat → ByteArray → Option ByteArray
  | 0, _ => none
  | k + 1, x3 =>
    if (decide (((ByteArray.size x3 : Nat) : Int) > 0)) = true then
      req ((0 : Int) ≤ (w64 (((ByteArray.size x3 : Nat) : Int) - 1)) ∧ ((w64 (((ByteArray.size x3 : Nat) : Int) - 1)) : Int) < ((ByteArray.size x3 : Nat) : Int)) <|
      Option.bind (f137 F (strAt x3 (w64 (((ByteArray.size x3 : Nat) : Int) - 1))) x2) fun x4 =>
      if x4 = true then
        req ((0 : Int) ≤ 0 ∧ (0 : Int) ≤ (w64 (((ByteArray.size x3 : Nat) : Int) - 1)) ∧ ((w64 (((ByteArray.size x3 : Nat) : Int) - 1)) : Int) ≤ ((ByteArray.size x3 : Nat) : Int)) <|
        f120_p1 F x2 k (ByteArray.extract x3 0 (Int.toNat (w64 (((ByteArray.size x3 : Nat) : Int) - 1))))
      else
        some x3
    else
      some x3
def f120 (F : Nat) (x1 : ByteArray) (x2 : List Bool) : Option ByteArray :=
  Option.bind (f120_p1 F x2 F x1) fun x5 =>
  some x5

def f119_p1 (F : Nat) (x2 : List Bool) : Nat → ByteArray → Option ByteArray
  | 0, _ => none
  | k + 1, x3 =>
    if (decide (((ByteArray.size x3 : Nat) : Int) > 0)) = true then
      req ((0 : Int) ≤ 0 ∧ (0 : Int) < ((ByteArray.size x3 : Nat) : Int)) <|
      Option.bind (f137 F (strAt x3 0) x2) fun x4 =>
      if x4 = true then
        req ((0 : Int) ≤ 1 ∧ (1 : Int) ≤ ((ByteArray.size x3 : Nat) : Int) ∧ (((ByteArray.size x3 : Nat) : Int) : Int) ≤ ((ByteArray.size x3 : Nat) : Int)) <|
        f119_p1 F x2 k (ByteArray.extract x3 1 (ByteArray.size x3))
      else
        some x3
    else
      some x3
def f119 (F : Nat) (x1 : ByteArray) (x2 : List Bool) : Option ByteArray :=
  Option.bind (f119_p1 F x2 F x1) fun x5 =>
  some x5

def f90 (F : Nat) (x1 x2 : ByteArray) : Option ByteArray :=
  if ((ByteArray.data x1).toList == (ByteArray.data str0).toList) = true then
    some x1
  else
  if ((ByteArray.data x2).toList == (ByteArray.data str0).toList) = true then
    some x1
  else
  if (((ByteArray.size x2 : Nat) : Int) == 1) = true then
    req ((0 : Int) ≤ 0 ∧ (0 : Int) < ((ByteArray.size x2 : Nat) : Int)) <|
    if (decide ((strAt x2 0) < 128)) = true then
      Option.bind (f117 F x1 (strAt x2 0)) fun x3 =>
      Option.bind (f116 F x3 (strAt x2 0)) fun x4 =>
      some x4
    else
      Option.bind (f118 F x2) fun (x5, x6) =>
      if x6 = true then
        Option.bind (f120 F x1 x5) fun x7 =>
        Option.bind (f119 F x7 x5) fun x8 =>
        some x8
      else
        none
  else
    Option.bind (f118 F x2) fun (x9, x10) =>
    if x10 = true then
      Option.bind (f120 F x1 x9) fun x11 =>
      Option.bind (f119 F x11 x9) fun x12 =>
      some x12
    else
      none

def f50 (F : Nat) (x1 : ByteArray) : Option Int :=
  if (decide (((ByteArray.size x1 : Nat) : Int) > 16)) = true then
    some 3
  else
    Option.bind (f90 F x1 (⟨#[99, 110]⟩)) fun x2 =>
    if ((ByteArray.data x2).toList == (ByteArray.data str0).toList) = true then
      some 0
    else
      some 10

def f91 (F : Nat) (x1 x2 x3 : Int) : Option Bool :=
  if (decide (x1 ≤ x2)) = true then
    some (decide (x2 ≤ x3))
  else
    some false

def f52_p0 (F : Nat) (x3 : Int) (x4 : Bool) : Option Int :=
  if x4 = true then
    some x3
  else
    some 1
def f52 (F : Nat) (x1 : ByteArray) (x2 : Int) : Option Int :=
  Option.bind (f50 F x1) fun x3 =>
  if (x3 == 0) = true then
    Option.bind (f91 F 0 x2 20) fun x4 =>
    Option.bind (f52_p0 F x3 x4) fun x5 =>
    some x5
  else
    some x3

def f51_p4_1 (F : Nat) (x7 : Int) (x6 : List Int) (x8 : ByteArray) (x9 : Int) : Option Int :=
  if ((strAt x8 x9) == 99) = true then
    some (w64 (x7 + 1))
  else
    some (w64 (x7 - 1))
def f51_p1 (F : Nat) : Nat → Int → (List Int) → ByteArray → Int → Option (List Int)
  | 0, _, _, _, _ => none
  | k + 1, x7, x6, x8, x9 =>
    if (decide (x9 < ((ByteArray.size x8 : Nat) : Int))) = true then
      req ((0 : Int) ≤ x9 ∧ (strAt x8 x9) < 128) <|
      Option.bind (f51_p4_1 F x7 x6 x8 x9) fun x10 =>
      req (List.length x6 + List.length ([x10] : List Int) ≤ 1099511627776) <|
      f51_p1 F k x10 (x6 ++ ([x10] : List Int)) x8 (x9 + 1)
    else
      req ((0 : Int) ≤ x9) <|
      some x6
def f51 (F : Nat) (x1 : ByteArray) (x2 : Int) : Option (List Int) :=
  req ((0 : Int) ≤ 0 ∧ (0 : Int) ≤ ((ByteArray.size x1 : Nat) : Int) ∧ (((ByteArray.size x1 : Nat) : Int) : Int) ≤ 1099511627776) <|
  Option.bind (f51_p1 F F x2 ([] : List Int) x1 0) fun x11 =>
  some (List.drop 0 (List.take (0 + (List.length x11)) x11))

def f93 (F : Nat) (x1 : Int) : Option Bool :=
  some (decide (x1 < 0))

inductive f92_p1_R where
  | c0 (a0 : Int)
  | c1
def f92_p1 (F : Nat) (x1 : List Int) : Nat → Int → Option f92_p1_R
  | 0, _ => none
  | k + 1, x2 =>
    if (decide (x2 < ((List.length x1 : Nat) : Int))) = true then
      Option.bind (at? x1 x2) fun x3 =>
      Option.bind (f93 F x3) fun x4 =>
      if x4 = true then
        some (.c0 x2)
      else
        f92_p1 F x1 k (w64 (x2 + 1))
    else
      some .c1
def f92 (F : Nat) (x1 : List Int) : Option Int :=
  Option.bind (f92_p1 F x1 F 0) fun
  | .c0 x5 =>
    some x5
  | .c1 =>
    some (-1)

def f53 (F : Nat) (x1 : ByteArray) (x2 : Int) : Option Int :=
  Option.bind (f51 F x1 x2) fun x3 =>
  Option.bind (f92 F x3) fun x4 =>
  some x4

def f18 (F : Nat) (x1 : ByteArray) (x2 : Int) : Option (Int × Int) :=
  Option.bind (f52 F x1 x2) fun x3 =>
  if (x3 != 0) = true then
    some (0, x3)
  else
    Option.bind (f53 F x1 x2) fun x4 =>
    if (decide (x4 < 0)) = true then
      some (0, 12)
    else
      some (x4, 0)

def f17_p1 (F : Nat) (x8 x5 x6 : Int) : Option Int :=
  if (x8 == 12) = true then
    some (w64 (x6 + 1))
  else
    some x6
def f17_p2 (F : Nat) (rec : ByteArray → Int → Int → Int → Int → Int → Option Int) (x1 : ByteArray) (x2 x3 : Int) (x4 x5 x6 : Int) : Option Int :=
  if (decide (x3 > 0)) = true then
    req (ByteArray.size x1 + ByteArray.size str1 ≤ 1099511627776) <|
    Option.bind (rec (x1 ++ str1) (w64 (x2 - 1)) (w64 (x3 - 1)) x4 x5 x6) fun x10 =>
    some x10
  else
    some x6
def f17_p3 (F : Nat) (rec : ByteArray → Int → Int → Int → Int → Int → Option Int) (x1 : ByteArray) (x2 x3 : Int) (x4 x5 x11 : Int) : Option Int :=
  if (decide (x2 > 1)) = true then
    req (ByteArray.size x1 + ByteArray.size str2 ≤ 1099511627776) <|
    Option.bind (rec (x1 ++ str2) (w64 (x2 - 2)) x3 (w64 (x4 - 1)) x5 x11) fun x12 =>
    some x12
  else
    some x11
def f17_b (F : Nat) (rec : ByteArray → Int → Int → Int → Int → Int → Option Int) (x1 : ByteArray) (x2 x3 : Int) (x4 x5 x6 : Int) : Option Int :=
  if (x2 == 0) = true then
    Option.bind (f18 F x1 x5) fun (x7, x8) =>
    Option.bind (f17_p1 F x8 x5 x6) fun x9 =>
    some x9
  else
    Option.bind (f17_p2 F rec x1 x2 x3 x4 x5 x6) fun x11 =>
    if (decide (x4 > 0)) = true then
      Option.bind (f17_p3 F rec x1 x2 x3 x4 x5 x11) fun x13 =>
      some x13
    else
      some x11
def f17 (F : Nat) : Nat → ByteArray → Int → Int → Int → Int → Int → Option Int
  | 0 => fun _ _ _ _ _ _ => none
  | k + 1 => f17_b F (f17 F k)

def f57 (F : Nat) (x1 x2 x3 : Int) : Option Bool :=
  if (decide (x1 ≥ x2)) = true then
    some (decide (x1 ≤ x3))
  else
    some false

inductive f124_p4_R where
  | c0 (a0 : Int)
  | c1
def f124_p4 (F : Nat) (x1 : List Int) : Nat → Int → Int → Option f124_p4_R
  | 0, _, _ => none
  | k + 1, x2, x3 =>
    if (decide (x3 < ((List.length x1 : Nat) : Int))) = true then
      Option.bind (at? x1 x3) fun x4 =>
      Option.bind (f57 F x4 1 30) fun x5 =>
      if x5 = true then
        if (decide (x4 ≤ x2)) = true then
          some (.c0 7)
        else
          f124_p4 F x1 k x4 (w64 (x3 + 1))
      else
        some (.c0 1)
    else
      some .c1
def f124 (F : Nat) (x1 : List Int) : Option Int :=
  if (((List.length x1 : Nat) : Int) == 0) = true then
    some 4
  else
  if (decide (((List.length x1 : Nat) : Int) > 5)) = true then
    some 3
  else
    Option.bind (f124_p4 F x1 F 0 0) fun
    | .c0 x6 =>
      some x6
    | .c1 =>
      some 0

def f125_p0 (F : Nat) (x1 : List Int) : Option Unit :=
  if (decide (((List.length x1 : Nat) : Int) < 1)) = true then
    none
  else
    some ()
def f125_p2 (F : Nat) (x1 : List Int) : Nat → Int → Int → Option Int
  | 0, _, _ => none
  | k + 1, x3, x4 =>
    if (decide (x4 < ((List.length x1 : Nat) : Int))) = true then
      Option.bind (at? x1 x4) fun x5 =>
      f125_p2 F x1 k (if x5 < x3 then x5 else x3) (w64 (x4 + 1))
    else
      some x3
def f125 (F : Nat) (x1 : List Int) : Option Int :=
  Option.bind (f125_p0 F x1) fun _ =>
  Option.bind (at? x1 0) fun x2 =>
  Option.bind (f125_p2 F x1 F x2 1) fun x6 =>
  some x6

def f32_p0 (F : Nat) (x1 : List Int) : Option Unit :=
  if (decide (((List.length x1 : Nat) : Int) < 1)) = true then
    none
  else
    some ()
def f32_p2 (F : Nat) (x1 : List Int) : Nat → Int → Int → Option Int
  | 0, _, _ => none
  | k + 1, x3, x4 =>
    if (decide (x4 < ((List.length x1 : Nat) : Int))) = true then
      Option.bind (at? x1 x4) fun x5 =>
      f32_p2 F x1 k (if x5 > x3 then x5 else x3) (w64 (x4 + 1))
    else
      some x3
def f32 (F : Nat) (x1 : List Int) : Option Int :=
  Option.bind (f32_p0 F x1) fun _ =>
  Option.bind (at? x1 0) fun x2 =>
  Option.bind (f32_p2 F x1 F x2 1) fun x6 =>
  some x6

def f95 (F : Nat) (x1 x2 : List Int) : Option ((List Int) × (List Int) × Int) :=
  Option.bind (f124 F x1) fun x3 =>
  if (x3 != 0) = true then
    some (([] : List Int), ([] : List Int), x3)
  else
  if (((List.length x2 : Nat) : Int) != ((List.length x1 : Nat) : Int)) = true then
    some (([] : List Int), ([] : List Int), 5)
  else
    Option.bind (f125 F x2) fun x4 =>
    if (decide (x4 < 0)) = true then
      some (([] : List Int), ([] : List Int), 1)
    else
      Option.bind (f32 F x2) fun x5 =>
      if (decide (x5 > 40)) = true then
        some (([] : List Int), ([] : List Int), 1)
      else
        some (x1, x2, 0)

def f55_p0 (F : Nat) (x6 : Int) (x7 : Bool) (x4 x5 : List Int) : Option Int :=
  if x7 = true then
    some x6
  else
    some 1
def f55 (F : Nat) (x1 x2 : List Int) (x3 : Int) : Option ((List Int) × (List Int) × Int) :=
  Option.bind (f95 F x1 x2) fun (x4, x5, x6) =>
  if (x6 == 0) = true then
    Option.bind (f57 F x3 0 1000) fun x7 =>
    Option.bind (f55_p0 F x6 x7 x4 x5) fun x8 =>
    some (x4, x5, x8)
  else
    some (x4, x5, x6)

def f59 (F : Nat) (x1 : List Int) : Option (List Int) :=
  req (x1 ≠ []) <|
  req (List.length ([] : List Int) + List.length x1 ≤ 1099511627776) <|
  some (([] : List Int) ++ x1)

def f56_p8_5 (F : Nat) (x33 : List Int) (x34 x35 : Int) (x36 : List Int) (x53 x56 : Int) (x1 x2 x52 : List Int) (x54 x55 : Int) : Option (List Int) :=
  if (decide ((w64 (x53 - (w64 ((w64 (x56 + 1)) * x35)))) ≥ 0)) = true then
    req ((0 : Int) ≤ x53 ∧ (x53 : Int) < (((List.length x36) : Nat) : Int)) <|
    Option.bind (((List.set x52 (0 + (Int.toNat x53)) (w64 (x54 + x55))))[(0 + (Int.toNat x53))]?) fun x57 =>
    Option.bind (at? x33 (w64 (x53 - (w64 ((w64 (x56 + 1)) * x35))))) fun x58 =>
    req ((0 + (Int.toNat x53)) < List.length (List.set x52 (0 + (Int.toNat x53)) (w64 (x54 + x55)))) <|
    some (List.set (List.set x52 (0 + (Int.toNat x53)) (w64 (x54 + x55))) (0 + (Int.toNat x53)) (w64 (x57 - x58)))
  else
    some (List.set x52 (0 + (Int.toNat x53)) (w64 (x54 + x55)))
def f56_p5_1 (F : Nat) (x33 : List Int) (x34 x35 : Int) (x36 x1 x2 : List Int) : Nat → Int → (List Int) → Option (List Int)
  | 0, _, _ => none
  | k + 1, x53, x52 =>
    if (decide (x53 ≤ 1000)) = true then
      req ((0 : Int) ≤ x53 ∧ (x53 : Int) < (((List.length x36) : Nat) : Int)) <|
      Option.bind ((x52)[(0 + (Int.toNat x53))]?) fun x54 =>
      req ((0 : Int) ≤ (w64 (x53 - x35)) ∧ ((w64 (x53 - x35)) : Int) < (((List.length x36) : Nat) : Int)) <|
      Option.bind ((x52)[(0 + (Int.toNat (w64 (x53 - x35))))]?) fun x55 =>
      req ((0 + (Int.toNat x53)) < List.length x52) <|
      Option.bind (at? x2 x34) fun x56 =>
      Option.bind (f56_p8_5 F x33 x34 x35 x36 x53 x56 x1 x2 x52 x54 x55) fun x59 =>
      f56_p5_1 F x33 x34 x35 x36 x1 x2 k (w64 (x53 + 1)) x59
    else
      some x52
def f56_p1 (F : Nat) (x1 x2 : List Int) : Nat → (List Int) → Int → Option (List Int)
  | 0, _, _ => none
  | k + 1, x33, x34 =>
    if (decide (x34 < ((List.length x1 : Nat) : Int))) = true then
      Option.bind (at? x1 x34) fun x35 =>
      Option.bind (f59 F x33) fun x36 =>
      Option.bind (f56_p5_1 F x33 x34 x35 x36 x1 x2 F x35 x36) fun x60 =>
      req ((0 + (List.length x36)) ≤ List.length x60) <|
      f56_p1 F x1 x2 k (List.drop 0 (List.take (0 + (List.length x36)) x60)) (w64 (x34 + 1))
    else
      some x33
def f56 (F : Nat) (x1 x2 : List Int) : Option (List Int) :=
  req ((0 : Int) ≤ 0 ∧ (0 : Int) < ((1001 : Nat) : Int)) <|
  req (0 < List.length (List.replicate 1001 (0 : Int))) <|
  req (1001 ≤ List.length (List.set (List.replicate 1001 (0 : Int)) 0 1)) <|
  Option.bind (f56_p1 F x1 x2 F (List.drop 0 (List.take 1001 (List.set (List.replicate 1001 (0 : Int)) 0 1))) 0) fun x61 =>
  some x61

def f19 (F : Nat) (x1 x2 : List Int) (x3 : Int) : Option (Int × Int) :=
  Option.bind (f55 F x1 x2 x3) fun (x4, x5, x6) =>
  if (x6 != 0) = true then
    some (0, x6)
  else
    Option.bind (f56 F x4 x5) fun x7 =>
    Option.bind (at? x7 x3) fun x8 =>
    some (x8, 0)

inductive f20_p4_R where
  | c0
  | c1 (a0 : Int)
def f20_p4 (F : Nat) (x4 x5 x6 : List Int) : Nat → Int → Int → Option f20_p4_R
  | 0, _, _ => none
  | k + 1, x8, x9 =>
    if (decide (x9 < ((List.length x4 : Nat) : Int))) = true then
      Option.bind (at? x4 x9) fun x10 =>
      Option.bind (at? x6 x9) fun x11 =>
      Option.bind (f57 F x10 0 x11) fun x12 =>
      if x12 = true then
        Option.bind (at? x5 x9) fun x13 =>
        f20_p4 F x4 x5 x6 k (w64 (x8 - (w64 (x10 * x13)))) (w64 (x9 + 1))
      else
        some .c0
    else
      some (.c1 x8)
def f20 (F : Nat) (x1 x2 : List Int) (x3 : Int) (x4 : List Int) : Option Int :=
  Option.bind (f55 F x1 x2 x3) fun (x5, x6, x7) =>
  if (x7 != 0) = true then
    some x7
  else
  if (((List.length x4 : Nat) : Int) != ((List.length x1 : Nat) : Int)) = true then
    some 5
  else
    Option.bind (f20_p4 F x4 x5 x6 F x3 0) fun
    | .c0 =>
      some 1
    | .c1 x14 =>
      if (x14 != 0) = true then
        some 17
      else
        some 0

def f126_p2 (F : Nat) (x1 x2 : Int) : Nat → Int → Int → Option Int
  | 0, _, _ => none
  | k + 1, x3, x4 =>
    if (decide (x4 < x2)) = true then
      req (((w64 (x4 + 1)) : Int) ≠ 0) <|
      f126_p2 F x1 x2 k (w64 (Int.tdiv (w64 (x3 * (w64 (x1 - x4)))) (w64 (x4 + 1)))) (w64 (x4 + 1))
    else
      some x3
def f126 (F : Nat) (x1 x2 : Int) : Option Int :=
  if (decide (x2 < 0)) = true then
    some 0
  else
    Option.bind (f126_p2 F x1 x2 F 1 0) fun x5 =>
    some x5

def f96 (F : Nat) (x1 x2 x3 : Int) : Option Int :=
  if (decide (x1 < 0)) = true then
    some 0
  else
  if (decide (x2 < 0)) = true then
    some 0
  else
  if (decide (x2 > (w64 (x1 + x3)))) = true then
    some 0
  else
    Option.bind (f126 F (w64 (x1 + x2)) x2) fun x4 =>
    Option.bind (f126 F (w64 (x1 + x2)) (w64 ((w64 (x2 - x3)) - 1))) fun x5 =>
    some (w64 (x4 - x5))

def f58 (F : Nat) (x1 x2 x3 : Int) : Option (Int × Int) :=
  if (decide ((if x2 < x1 then x2 else x1) < 0)) = true then
    some (0, 1)
  else
  if (decide ((if x2 > x1 then x2 else x1) > 16)) = true then
    some (0, 1)
  else
  if (decide ((w64 (x1 + x2)) > 16)) = true then
    some (0, 1)
  else
    Option.bind (f91 F 0 x3 20) fun x4 =>
    if x4 = true then
      Option.bind (f96 F x1 x2 x3) fun x5 =>
      some (x5, 0)
    else
      some (0, 1)

def f21 (F : Nat) (x1 x2 x3 : Int) : Option (Int × Int) :=
  Option.bind (f58 F x1 x2 x3) fun (x4, x5) =>
  some (x4, x5)

def f59_1 (F : Nat) (x1 : List Int) : Option (List Int) :=
  req (x1 ≠ []) <|
  req (List.length ([] : List Int) + List.length x1 ≤ 1099511627776) <|
  some (([] : List Int) ++ x1)

def f22_p10 (F : Nat) (x3 x4 : Int) (x12 x14 : Int) (x10 : List Int) (x15 x11 : Int) (x5 x6 : List Int) : Option (Int × Int) :=
  if (x14 != 0) = true then
    some (x15, 0)
  else
    some (x12, x14)
def f22_p4 (F : Nat) (x3 x4 : Int) (x10 : List Int) (x11 : Int) (x5 x6 : List Int) : Nat → Int → Int → Int → Int → Option (Int × Int × Int)
  | 0, _, _, _, _ => none
  | k + 1, x12, x13, x14, x15 =>
    if (decide (x15 < (w64 (x11 + 1)))) = true then
      Option.bind (at? x5 x4) fun x16 =>
      if (decide ((w64 (x3 - (w64 (x15 * x16)))) < 0)) = true then
        some (x12, x13, x14)
      else
        Option.bind (at? x10 (w64 (x3 - (w64 (x15 * x16))))) fun x17 =>
        if (x17 == 0) = true then
          f22_p4 F x3 x4 x10 x11 x5 x6 k x12 x13 x14 (w64 (x15 + 1))
        else
          Option.bind (f22_p10 F x3 x4 x12 x14 x10 x15 x11 x5 x6) fun (x18, x19) =>
          f22_p4 F x3 x4 x10 x11 x5 x6 k x18 x15 x19 (w64 (x15 + 1))
    else
      some (x12, x13, x14)
def f22 (F : Nat) (x1 x2 : List Int) (x3 x4 : Int) : Option (Int × Int × Int) :=
  Option.bind (f55 F x1 x2 x3) fun (x5, x6, x7) =>
  if (x7 != 0) = true then
    some (0, 0, x7)
  else
    Option.bind (f57 F x4 0 (w64 (((List.length x1 : Nat) : Int) - 1))) fun x8 =>
    if x8 = true then
      Option.bind (f59_1 F x6) fun x9 =>
      req ((0 : Int) ≤ x4 ∧ (x4 : Int) < (((List.length x9) : Nat) : Int)) <|
      req ((0 + (Int.toNat x4)) < List.length x9) <|
      req ((0 + (List.length x9)) ≤ List.length (List.set x9 (0 + (Int.toNat x4)) 0)) <|
      Option.bind (f56 F x5 (List.drop 0 (List.take (0 + (List.length x9)) (List.set x9 (0 + (Int.toNat x4)) 0)))) fun x10 =>
      Option.bind (at? x6 x4) fun x11 =>
      Option.bind (f22_p4 F x3 x4 x10 x11 x5 x6 F 0 0 12 0) fun (x20, x21, x22) =>
      some (x20, x21, x22)
    else
      some (0, 0, 2)

def f141_1 (F : Nat) (x1 : Int) (x2 : List Int) (x3 x4 x5 : Int) : Option Int :=
  Option.bind (at? x2 (w64 (x4 + (w64 (x1 * x3))))) fun x6 =>
  some (w64 ((w64 (x6 + x5)) - x1))

def f123_p1 (F : Nat) (x3 : Int) (x1 x2 : List Int) : Nat → Int → (List Int) → Option (List Int)
  | 0, _, _ => none
  | k + 1, x6, x5 =>
    if (decide (x6 < (((Int.toNat (w64 (x3 + 1))) : Nat) : Int))) = true then
      req ((0 : Int) ≤ x6 ∧ (x6 : Int) < (((Int.toNat (w64 (x3 + 1))) : Nat) : Int)) <|
      req ((0 + (Int.toNat x6)) < List.length x5) <|
      f123_p1 F x3 x1 x2 k (w64 (x6 + 1)) (List.set x5 (0 + (Int.toNat x6)) 1001)
    else
      some x5
def f123_p17_17 (F : Nat) (x3 : Int) (x1 : List Int) (x134 x137 : Int) (x136 x167 : Int) (x2 x135 : List Int) (x133 : List (List Int)) (x179 x180 : List Int) (x182 : Int) : Nat → (List Int) → Option (List Int)
  | 0, _ => none
  | k + 1, x183 =>
    if (decide ((((List.length x183) : Nat) : Int) > 0)) = true then
      req ((0 : Int) ≤ (w64 ((((List.length x183) : Nat) : Int) - 1)) ∧ ((w64 ((((List.length x183) : Nat) : Int) - 1)) : Int) < (((List.length x183) : Nat) : Int)) <|
      Option.bind ((x183)[(0 + (Int.toNat (w64 ((((List.length x183) : Nat) : Int) - 1))))]?) fun x184 =>
      Option.bind (f141_1 F x184 x135 x136 x167 x182) fun x185 =>
      Option.bind (f141_1 F x182 x135 x136 x167 x182) fun x186 =>
      if (decide (x185 ≥ x186)) = true then
        req ((0 : Int) ≤ 0 ∧ (0 : Int) ≤ (w64 ((((List.length x183) : Nat) : Int) - 1)) ∧ ((w64 ((((List.length x183) : Nat) : Int) - 1)) : Int) ≤ (((List.length x183) : Nat) : Int) ∧ 0 < (List.length x183)) <|
        req ((0 : Int) < (w64 ((((List.length x183) : Nat) : Int) - 1)) ∨ (0 : Int) = 0) <|
        f123_p17_17 F x3 x1 x134 x137 x136 x167 x2 x135 x133 x179 x180 x182 k (List.drop 0 (List.take (Int.toNat (w64 ((((List.length x183) : Nat) : Int) - 1))) x183))
      else
        some x183
    else
      some x183
def f123_p20_17 (F : Nat) (x3 : Int) (x1 : List Int) (x134 x137 : Int) (x187 : List Int) (x182 x136 : Int) (x167 x188 : Int) (x2 x135 : List Int) (x133 : List (List Int)) (x179 x180 : List Int) : Option (List Int) :=
  if (decide (x188 < (w64 (x182 - x137)))) = true then
    req ((0 : Int) ≤ 1 ∧ (1 : Int) ≤ (((List.length (x187 ++ ([x182] : List Int))) : Nat) : Int) ∧ ((((List.length (x187 ++ ([x182] : List Int))) : Nat) : Int) : Int) ≤ (((List.length (x187 ++ ([x182] : List Int))) : Nat) : Int) ∧ 0 < (List.length (x187 ++ ([x182] : List Int)))) <|
    req ((1 : Int) < (((List.length (x187 ++ ([x182] : List Int))) : Nat) : Int) ∨ (1 : Int) = 0) <|
    some (List.drop 1 (List.take (List.length (x187 ++ ([x182] : List Int))) (x187 ++ ([x182] : List Int))))
  else
    some (x187 ++ ([x182] : List Int))
def f123_p13_5 (F : Nat) (x3 : Int) (x1 : List Int) (x134 x137 : Int) (x136 x167 : Int) (x2 x135 : List Int) (x133 : List (List Int)) : Nat → (List Int) → (List Int) → Int → (List Int) → Option ((List Int) × (List Int))
  | 0, _, _, _, _ => none
  | k + 1, x179, x180, x182, x181 =>
    if (decide ((w64 (x167 + (w64 (x182 * x136)))) ≤ x3)) = true then
      Option.bind (f123_p17_17 F x3 x1 x134 x137 x136 x167 x2 x135 x133 x179 x180 x182 F x181) fun x187 =>
      req (List.length x187 + List.length ([x182] : List Int) ≤ 1099511627776) <|
      req ((0 : Int) ≤ 0 ∧ (0 : Int) < (((List.length (x187 ++ ([x182] : List Int))) : Nat) : Int)) <|
      Option.bind (((x187 ++ ([x182] : List Int)))[0]?) fun x188 =>
      Option.bind (f123_p20_17 F x3 x1 x134 x137 x187 x182 x136 x167 x188 x2 x135 x133 x179 x180) fun x189 =>
      req ((0 : Int) ≤ 0 ∧ (0 : Int) < (((List.length x189) : Nat) : Int)) <|
      Option.bind ((x189)[0]?) fun x190 =>
      Option.bind (f141_1 F x190 x135 x136 x167 x182) fun x191 =>
      req ((0 : Int) ≤ (w64 (x167 + (w64 (x182 * x136)))) ∧ ((w64 (x167 + (w64 (x182 * x136)))) : Int) < (((Int.toNat (w64 (x3 + 1))) : Nat) : Int)) <|
      req ((0 + (Int.toNat (w64 (x167 + (w64 (x182 * x136)))))) < List.length x179) <|
      req ((0 + (Int.toNat (w64 (x167 + (w64 (x182 * x136)))))) < List.length x180) <|
      f123_p13_5 F x3 x1 x134 x137 x136 x167 x2 x135 x133 k (List.set x179 (0 + (Int.toNat (w64 (x167 + (w64 (x182 * x136)))))) (if x191 < 1001 then x191 else 1001)) (List.set x180 (0 + (Int.toNat (w64 (x167 + (w64 (x182 * x136)))))) (w64 (x182 - x190))) (w64 (x182 + 1)) x189
    else
      some (x179, x180)
def f123_p9_2 (F : Nat) (x3 : Int) (x1 : List Int) (x134 x137 x136 : Int) (x2 x135 : List Int) (x133 : List (List Int)) : Nat → Int → (List Int) → (List Int) → Option ((List Int) × (List Int))
  | 0, _, _, _ => none
  | k + 1, x167, x165, x166 =>
    if (decide (x167 < (if (w64 (x3 + 1)) < x136 then (w64 (x3 + 1)) else x136))) = true then
      Option.bind (f123_p13_5 F x3 x1 x134 x137 x136 x167 x2 x135 x133 F x165 x166 0 ([] : List Int)) fun (x192, x193) =>
      f123_p9_2 F x3 x1 x134 x137 x136 x2 x135 x133 k (w64 (x167 + 1)) x192 x193
    else
      some (x165, x166)
def f123_p5 (F : Nat) (x3 : Int) (x1 x2 : List Int) : Nat → Int → (List Int) → (List (List Int)) → Option ((List Int) × (List (List Int)))
  | 0, _, _, _ => none
  | k + 1, x134, x135, x133 =>
    if (decide (x134 ≥ 0)) = true then
      Option.bind (at? x1 x134) fun x136 =>
      Option.bind (at? x2 x134) fun x137 =>
      req ((0 : Int) ≤ (w64 (x3 + 1)) ∧ ((w64 (x3 + 1)) : Int) ≤ (w64 (x3 + 1)) ∧ ((w64 (x3 + 1)) : Int) ≤ 1099511627776) <|
      Option.bind (f123_p9_2 F x3 x1 x134 x137 x136 x2 x135 x133 F 0 (List.replicate (Int.toNat (w64 (x3 + 1))) (0 : Int)) (List.replicate (Int.toNat (w64 (x3 + 1))) (0 : Int))) fun (x194, x195) =>
      req ((0 + (Int.toNat (w64 (x3 + 1)))) ≤ List.length x194) <|
      req ((0 + (Int.toNat (w64 (x3 + 1)))) ≤ List.length x195) <|
      req ((0 : Int) ≤ x134 ∧ (x134 : Int) < (((Int.toNat ((List.length x1 : Nat) : Int)) : Nat) : Int)) <|
      req ((0 + (Int.toNat x134)) < List.length x133) <|
      f123_p5 F x3 x1 x2 k (w64 (x134 - 1)) (List.drop 0 (List.take (0 + (Int.toNat (w64 (x3 + 1)))) x194)) (List.set x133 (0 + (Int.toNat x134)) (List.drop 0 (List.take (0 + (Int.toNat (w64 (x3 + 1)))) x195)))
    else
      some (x135, x133)
def f123_p23 (F : Nat) (x1 x2 : List Int) (x197 : List (List Int)) : Nat → Int → Int → (List Int) → Option (List Int)
  | 0, _, _, _ => none
  | k + 1, x205, x206, x204 =>
    if (decide (x206 < (((Int.toNat ((List.length x1 : Nat) : Int)) : Nat) : Int))) = true then
      req ((0 : Int) ≤ x206 ∧ (x206 : Int) < (((Int.toNat ((List.length x1 : Nat) : Int)) : Nat) : Int)) <|
      Option.bind ((x197)[(0 + (Int.toNat x206))]?) fun x207 =>
      Option.bind (at? x207 x205) fun x208 =>
      req (List.length x204 + List.length ([x208] : List Int) ≤ 1099511627776) <|
      Option.bind (at? x1 x206) fun x209 =>
      f123_p23 F x1 x2 x197 k (w64 (x205 - (w64 (x208 * x209)))) (w64 (x206 + 1)) (x204 ++ ([x208] : List Int))
    else
      some x204
def f123 (F : Nat) (x1 x2 : List Int) (x3 : Int) : Option ((List Int) × Int) :=
  req ((0 : Int) ≤ (w64 (x3 + 1)) ∧ ((w64 (x3 + 1)) : Int) ≤ (w64 (x3 + 1)) ∧ ((w64 (x3 + 1)) : Int) ≤ 1099511627776) <|
  Option.bind (f123_p1 F x3 x1 x2 F 0 (List.replicate (Int.toNat (w64 (x3 + 1))) (0 : Int))) fun x7 =>
  req ((0 : Int) ≤ 0 ∧ (0 : Int) < (((Int.toNat (w64 (x3 + 1))) : Nat) : Int)) <|
  req (0 < List.length x7) <|
  req ((0 : Int) ≤ ((List.length x1 : Nat) : Int) ∧ (((List.length x1 : Nat) : Int) : Int) ≤ ((List.length x1 : Nat) : Int) ∧ (((List.length x1 : Nat) : Int) : Int) ≤ 1099511627776) <|
  req ((0 + (Int.toNat (w64 (x3 + 1)))) ≤ List.length (List.set x7 0 0)) <|
  Option.bind (f123_p5 F x3 x1 x2 F (w64 (((List.length x1 : Nat) : Int) - 1)) (List.drop 0 (List.take (0 + (Int.toNat (w64 (x3 + 1)))) (List.set x7 0 0))) (List.replicate (Int.toNat ((List.length x1 : Nat) : Int)) ([] : (List Int)))) fun (x196, x197) =>
  Option.bind (at? x196 x3) fun x198 =>
  if (x198 == 1001) = true then
    some (([] : List Int), 12)
  else
    Option.bind (f123_p23 F x1 x2 x197 F x3 0 ([] : List Int)) fun x210 =>
    some ((List.drop 0 (List.take (0 + (List.length x210)) x210)), 0)

def f94 (F : Nat) (x1 x2 : List Int) (x3 : Int) : Option ((List Int) × Int) :=
  Option.bind (f55 F x1 x2 x3) fun (x4, x5, x6) =>
  if (x6 != 0) = true then
    some (([] : List Int), x6)
  else
    Option.bind (f123 F x4 x5 x3) fun (x7, x8) =>
    some (x7, x8)

def f87_p8_2 (F : Nat) (x10 x15 : Int) (x1 : List Int) (x11 : Int) (x12 : List Bool) (x13 : Int) (x14 : List Bool) : Option Bool :=
  if (x15 == 0) = true then
    some (x15 == 0)
  else
    some (x15 == 1)
inductive f87_p4_R where
  | c0
  | c1 (a0 : Int) (a1 : List Bool) (a2 : Int) (a3 : List Bool)
def f87_p4 (F : Nat) (x1 : List Int) : Nat → Int → Int → (List Bool) → Int → (List Bool) → Option f87_p4_R
  | 0, _, _, _, _, _ => none
  | k + 1, x10, x11, x12, x13, x14 =>
    if (decide (x10 < ((List.length x1 : Nat) : Int))) = true then
      Option.bind (at? x1 x10) fun x15 =>
      Option.bind (f87_p8_2 F x10 x15 x1 x11 x12 x13 x14) fun x16 =>
      if x16 = true then
        req ((0 : Int) ≤ x10 ∧ (x10 : Int) < ((16 : Nat) : Int)) <|
        req ((0 + ((Int.toNat x10) * 1)) < 16) <|
        f87_p4 F x1 k (w64 (x10 + 1)) x11 x12 x13 (List.set x14 (0 + ((Int.toNat x10) * 1)) (x15 == 1))
      else
        some .c0
    else
      some (.c1 x11 x12 x13 x14)
def f87 (F : Nat) (x1 : List Int) : Option (Int × (List Bool) × Int) :=
  if (((List.length x1 : Nat) : Int) == 0) = true then
    some (0, (List.replicate 16 false), 4)
  else
  if (decide (((List.length x1 : Nat) : Int) > 16)) = true then
    some (0, (List.replicate 16 false), 3)
  else
    Option.bind (f87_p4 F x1 F 0 0 (List.replicate 16 false) ((List.length x1 : Nat) : Int) (List.replicate 16 false)) fun
    | .c0 =>
      some (0, (List.replicate 16 false), 1)
    | .c1 x17 x18 x19 x20 =>
      some (x19, x20, 0)

def f88_p4 (F : Nat) (x3 x4 : Int) (x2 : List Bool) : Option Int :=
  if ((x2)[(Int.toNat x4)]?.getD false) = true then
    req ((0 : Int) ≤ x4) <|
    some (iOr .i64 x3 (iShl .i64 1 x4))
  else
    some x3
def f88_p1 (F : Nat) (x2 : List Bool) : Nat → Int → Int → Option Int
  | 0, _, _ => none
  | k + 1, x3, x4 =>
    if (decide (x4 < 16)) = true then
      req ((0 : Int) ≤ x4 ∧ (x4 : Int) < ((16 : Nat) : Int)) <|
      Option.bind (f88_p4 F x3 x4 x2) fun x5 =>
      f88_p1 F x2 k x5 (w64 (x4 + 1))
    else
      some x3
def f88_p6 (F : Nat) : Nat → Int → Int → Option Int
  | 0, _, _ => none
  | k + 1, x7, x8 =>
    if (decide (x8 < 16)) = true then
      req ((0 : Int) ≤ x8) <|
      f88_p6 F k (iXor .i64 x7 (iShr .i64 x7 x8)) (w64 (x8 * 2))
    else
      some x7
def f88 (F : Nat) (x1 : Int) (x2 : List Bool) : Option Int :=
  Option.bind (f88_p1 F x2 F 0 0) fun x6 =>
  Option.bind (f88_p6 F F x6 1) fun x9 =>
  some x9

def f47 (F : Nat) (x1 x2 : List Int) : Option (Int × Int × Int × Int) :=
  Option.bind (f87 F x1) fun (x3, x4, x5) =>
  if (x5 != 0) = true then
    some (0, 0, 0, x5)
  else
    Option.bind (f87 F x2) fun (x6, x7, x8) =>
    if (x8 != 0) = true then
      some (0, 0, 0, x8)
    else
    if (x3 != x6) = true then
      some (0, 0, 0, 5)
    else
      Option.bind (f88 F x3 x4) fun x9 =>
      Option.bind (f88 F x6 x7) fun x10 =>
      some (x3, x9, x10, 0)

def f48 (F : Nat) (x1 x2 x3 : Int) : Option Int :=
  some (if (w64 (x3 - x2)) > (w64 (x2 - x3)) then (w64 (x3 - x2)) else (w64 (x2 - x3)))

def f128 (F : Nat) (x1 : Int) : Option Int :=
  if (x1 == 0) = true then
    some 64
  else
    Option.bind (at? tab64 (iShr .u64 (IntKind.wrap .u64 ((iAnd .u64 x1 (IntKind.wrap .u64 (0 - x1))) * 285870213051353865)) 58)) fun x2 =>
    some (w64 (x2))

def f98 (F : Nat) (x1 : Int) : Option Int :=
  Option.bind (f128 F x1) fun x2 =>
  some x2

def f89 (F : Nat) (x1 : Int) : Option Int :=
  Option.bind (f98 F (IntKind.wrap .u64 ((w64 (x1 + 1))))) fun x2 =>
  some x2

def f49 (F : Nat) (x1 x2 x3 : Int) : Option (Int × Int × Int × Int) :=
  if (decide (x2 < x3)) = true then
    Option.bind (f89 F x2) fun x4 =>
    some (x4, x1, (w64 (x2 + 1)), x3)
  else
    Option.bind (f89 F (w64 (x2 - 1))) fun x5 =>
    some (x5, x1, (w64 (x2 - 1)), x3)

def f10_p4 (F : Nat) : Nat → Int → Int → Int → (List Int) → Option (List Int)
  | 0, _, _, _, _ => none
  | k + 1, x22, x23, x24, x21 =>
    Option.bind (f48 F x22 x23 x24) fun x25 =>
    if (decide (x25 > 0)) = true then
      Option.bind (f49 F x22 x23 x24) fun (x26, x27, x28, x29) =>
      req (List.length x21 + List.length ([x26] : List Int) ≤ 1099511627776) <|
      f10_p4 F k x27 x28 x29 (x21 ++ ([x26] : List Int))
    else
      some x21
def f10 (F : Nat) (x1 x2 : List Int) : Option ((List Int) × Int) :=
  Option.bind (f47 F x1 x2) fun (x3, x4, x5, x6) =>
  if (x6 != 0) = true then
    some (([] : List Int), x6)
  else
    Option.bind (f48 F x3 x4 x5) fun x7 =>
    if (decide (x7 > 1000)) = true then
      some (([] : List Int), 3)
    else
      Option.bind (f10_p4 F F x3 x4 x5 ([] : List Int)) fun x30 =>
      some ((List.drop 0 (List.take (0 + (List.length x30)) x30)), 0)

inductive f63_p2_R where
  | c0
  | c1
def f63_p2 (F : Nat) (x1 x2 : List Int) : Nat → Int → Option f63_p2_R
  | 0, _ => none
  | k + 1, x3 =>
    if (decide (x3 < ((List.length x1 : Nat) : Int))) = true then
      Option.bind (at? x1 x3) fun x4 =>
      Option.bind (at? x2 x3) fun x5 =>
      if (x4 != x5) = true then
        some .c0
      else
        f63_p2 F x1 x2 k (w64 (x3 + 1))
    else
      some .c1
def f63 (F : Nat) (x1 x2 : List Int) : Option Bool :=
  if (((List.length x1 : Nat) : Int) != ((List.length x2 : Nat) : Int)) = true then
    some false
  else
    Option.bind (f63_p2 F x1 x2 F 0) fun
    | .c0 =>
      some false
    | .c1 =>
      some true

def f54 (F : Nat) : Option Bool :=
  Option.bind (f16 F ([2, 5] : List Int)) fun x1 =>
  Option.bind (f16 F ([3, 2] : List Int)) fun x2 =>
  Option.bind (f94 F x1 x2 11) fun (x3, x4) =>
  Option.bind (f16 F ([1, 1, 1] : List Int)) fun x5 =>
  Option.bind (f16 F ([0, 0, 0] : List Int)) fun x6 =>
  Option.bind (f10 F x5 x6) fun (x7, x8) =>
  if (x4 == 0) = true then
    if (x8 == 0) = true then
      Option.bind (f16 F ([3, 1] : List Int)) fun x9 =>
      Option.bind (f63 F x3 x9) fun x10 =>
      if x10 = true then
        Option.bind (f16 F ([0, 2, 0, 1, 0] : List Int)) fun x11 =>
        Option.bind (f63 F x7 x11) fun x12 =>
        some x12
      else
        some false
    else
      some false
  else
    some false

def f15 (F : Nat) : Option Bool :=
  Option.bind (f21 F 3 3 0) fun (x1, x2) =>
  if (x2 == 0) = true then
    if (x1 == 5) = true then
      Option.bind (f54 F) fun x3 =>
      some x3
    else
      some false
  else
    some false

inductive f4_p6_R where
  | c0
  | c1 (a0 : Int) (a1 : Int)
def f4_p6 (F : Nat) (x1 : Int) (x5 x9 : List Int) (x10 x14 : Int) (x2 x8 : Int) : Nat → Int → Int → Int → Option f4_p6_R
  | 0, _, _, _ => none
  | k + 1, x16, x17, x18 =>
    Option.bind (at? x5 1) fun x19 =>
    if (decide (x18 ≤ x19)) = true then
      Option.bind (f16 F ([x14, x18] : List Int)) fun x20 =>
      Option.bind (f20 F x9 x5 (Int.tmod (w64 (x1)) 11) x20) fun x21 =>
      if ((x21 == 0) == ((w64 (x14 + (w64 (2 * x18)))) == (Int.tmod (w64 (x1)) 11))) = true then
        if (x21 != 0) = true then
          f4_p6 F x1 x5 x9 x10 x14 x2 x8 k x16 x17 (w64 (x18 + 1))
        else
          Option.bind (f21 F x14 x18 (Int.tmod (w64 (x2)) 4)) fun (x22, x23) =>
          if (x23 != 0) = true then
            some .c0
          else
            f4_p6 F x1 x5 x9 x10 x14 x2 x8 k (w64 (x16 + x22)) (w64 (x17 + 1)) (w64 (x18 + 1))
      else
        some .c0
    else
      some (.c1 x16 x17)
inductive f4_p2_R where
  | c0
  | c1 (a0 : Int) (a1 : Int)
def f4_p2 (F : Nat) (x1 : Int) (x5 x9 : List Int) (x10 x2 x8 : Int) : Nat → Int → Int → Int → Option f4_p2_R
  | 0, _, _, _ => none
  | k + 1, x12, x13, x14 =>
    Option.bind (at? x5 0) fun x15 =>
    if (decide (x14 ≤ x15)) = true then
      Option.bind (f4_p6 F x1 x5 x9 x10 x14 x2 x8 F x12 x13 0) fun
      | .c0 =>
        some .c0
      | .c1 x24 x25 =>
        f4_p2 F x1 x5 x9 x10 x2 x8 k x24 x25 (w64 (x14 + 1))
    else
      some (.c1 x12 x13)
def f4 (F : Nat) (x1 x2 : Int) (x3 x4 : Int) : Option Bool :=
  Option.bind (f16 F ([(Int.tmod (w64 (x3)) 11), (Int.tmod (w64 (x4)) 6)] : List Int)) fun x5 =>
  Option.bind (at? x5 0) fun x6 =>
  Option.bind (at? x5 1) fun x7 =>
  Option.bind (f17 F F (⟨#[]⟩) (Int.tmod (w64 (x1)) 11) x6 x7 (Int.tmod (w64 (x2)) 4) 0) fun x8 =>
  Option.bind (f16 F ([1, 2] : List Int)) fun x9 =>
  Option.bind (f19 F x9 x5 (Int.tmod (w64 (x1)) 11)) fun (x10, x11) =>
  if (x11 != 0) = true then
    none
  else
    Option.bind (f4_p2 F x1 x5 x9 x10 x2 x8 F 0 0 0) fun
    | .c0 =>
      none
    | .c1 x26 x27 =>
      if (x27 != x10) = true then
        none
      else
      if (x26 != x8) = true then
        none
      else
        Option.bind (f22 F x9 x5 (Int.tmod (w64 (x1)) 11) 0) fun (x28, x29, x30) =>
        if (x10 == 0) = true then
          if (x30 == 12) = true then
            Option.bind (f15 F) fun x31 =>
            some x31
          else
            none
        else
        if (x30 == 0) = true then
          if (decide (x28 ≤ x29)) = true then
            Option.bind (f16 F ([x29, (w64 (Int.tdiv (w64 ((Int.tmod (w64 (x1)) 11) - x29)) 2))] : List Int)) fun x32 =>
            Option.bind (f20 F x9 x5 (Int.tmod (w64 (x1)) 11) x32) fun x33 =>
            if (x33 == 0) = true then
              Option.bind (f15 F) fun x34 =>
              some x34
            else
              none
          else
            none
        else
          none

end Go.Gh.Top
