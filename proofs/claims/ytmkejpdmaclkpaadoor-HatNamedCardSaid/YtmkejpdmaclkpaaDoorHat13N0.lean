/- Hat13N0: printed by wip/tool/gx.py -/
import Derived.Test.YtmkejpdmaclkpaaDoorGhPl
namespace Go.Gh.Hat
set_option linter.unusedVariables false
set_option linter.unusedSimpArgs false

def tab32 : List Int := [0, 1, 28, 2, 29, 14, 24, 3, 30, 22, 20, 15, 25, 17, 4, 8, 31, 27, 13, 23, 21, 19, 16, 7, 26, 12, 18, 6, 11, 5, 10, 9]
def tab64 : List Int := [0, 1, 56, 2, 57, 49, 28, 3, 61, 58, 42, 50, 38, 29, 17, 4, 62, 47, 59, 36, 45, 43, 51, 22, 53, 39, 33, 30, 24, 18, 12, 5, 63, 55, 48, 27, 60, 41, 37, 16, 46, 35, 44, 21, 52, 32, 23, 11, 54, 26, 40, 15, 34, 20, 31, 10, 25, 14, 19, 9, 13, 8, 7, 6]
def str0 : ByteArray := ⟨#[0, 1, 1, 2, 1, 2, 2, 3, 1, 2, 2, 3, 2, 3, 3, 4, 1, 2, 2, 3, 2, 3, 3, 4, 2, 3, 3, 4, 3, 4, 4, 5, 1, 2, 2, 3, 2, 3, 3, 4, 2, 3, 3, 4, 3, 4, 4, 5, 2, 3, 3, 4, 3, 4, 4, 5, 3, 4, 4, 5, 4, 5, 5, 6, 1, 2, 2, 3, 2, 3, 3, 4, 2, 3, 3, 4, 3, 4, 4, 5, 2, 3, 3, 4, 3, 4, 4, 5, 3, 4, 4, 5, 4, 5, 5, 6, 2, 3, 3, 4, 3, 4, 4, 5, 3, 4, 4, 5, 4, 5, 5, 6, 3, 4, 4, 5, 4, 5, 5, 6, 4, 5, 5, 6, 5, 6, 6, 7, 1, 2, 2, 3, 2, 3, 3, 4, 2, 3, 3, 4, 3, 4, 4, 5, 2, 3, 3, 4, 3, 4, 4, 5, 3, 4, 4, 5, 4, 5, 5, 6, 2, 3, 3, 4, 3, 4, 4, 5, 3, 4, 4, 5, 4, 5, 5, 6, 3, 4, 4, 5, 4, 5, 5, 6, 4, 5, 5, 6, 5, 6, 6, 7, 2, 3, 3, 4, 3, 4, 4, 5, 3, 4, 4, 5, 4, 5, 5, 6, 3, 4, 4, 5, 4, 5, 5, 6, 4, 5, 5, 6, 5, 6, 6, 7, 3, 4, 4, 5, 4, 5, 5, 6, 4, 5, 5, 6, 5, 6, 6, 7, 4, 5, 5, 6, 5, 6, 6, 7, 5, 6, 6, 7, 6, 7, 7, 8]⟩
def str1 : ByteArray := ⟨#[0, 1, 2, 2, 3, 3, 3, 3, 4, 4, 4, 4, 4, 4, 4, 4, 5, 5, 5, 5, 5, 5, 5, 5, 5, 5, 5, 5, 5, 5, 5, 5, 6, 6, 6, 6, 6, 6, 6, 6, 6, 6, 6, 6, 6, 6, 6, 6, 6, 6, 6, 6, 6, 6, 6, 6, 6, 6, 6, 6, 6, 6, 6, 6, 7, 7, 7, 7, 7, 7, 7, 7, 7, 7, 7, 7, 7, 7, 7, 7, 7, 7, 7, 7, 7, 7, 7, 7, 7, 7, 7, 7, 7, 7, 7, 7, 7, 7, 7, 7, 7, 7, 7, 7, 7, 7, 7, 7, 7, 7, 7, 7, 7, 7, 7, 7, 7, 7, 7, 7, 7, 7, 7, 7, 7, 7, 7, 7, 8, 8, 8, 8, 8, 8, 8, 8, 8, 8, 8, 8, 8, 8, 8, 8, 8, 8, 8, 8, 8, 8, 8, 8, 8, 8, 8, 8, 8, 8, 8, 8, 8, 8, 8, 8, 8, 8, 8, 8, 8, 8, 8, 8, 8, 8, 8, 8, 8, 8, 8, 8, 8, 8, 8, 8, 8, 8, 8, 8, 8, 8, 8, 8, 8, 8, 8, 8, 8, 8, 8, 8, 8, 8, 8, 8, 8, 8, 8, 8, 8, 8, 8, 8, 8, 8, 8, 8, 8, 8, 8, 8, 8, 8, 8, 8, 8, 8, 8, 8, 8, 8, 8, 8, 8, 8, 8, 8, 8, 8, 8, 8, 8, 8, 8, 8, 8, 8, 8, 8, 8, 8, 8, 8, 8, 8, 8, 8]⟩
def f74 (F : Nat) (x1 : Int) : Option Bool :=
  if (decide (x1 ≥ 1)) = true then
    some (decide (x1 ≤ 7))
  else
    some false

def f64 (F : Nat) (x1 : Int) (x2 : Int) : Option Int :=
  req ((0 : Int) ≤ x2) <|
  req ((0 : Int) ≤ (w64 (x2 + 1))) <|
  some (iOr .i64 (iAnd .i64 x1 (w64 ((iShl .i64 1 x2) - 1))) (iShl .i64 (iShr .i64 x1 (w64 (x2 + 1))) x2))

def f40 (F : Nat) (x1 : Int) (x2 : Int) (x3 : Int) : Option (Int × Int) :=
  Option.bind (f74 F x1) fun x4 =>
  if x4 = true then
    if (decide (x2 < 0)) = true then
      some (0, 2)
    else
      req ((0 : Int) ≤ x1) <|
      if (decide (x2 ≥ (iShl .i64 1 x1))) = true then
        some (0, 2)
      else
      if (decide (x3 < 0)) = true then
        some (0, 2)
      else
      if (decide (x3 ≥ x1)) = true then
        some (0, 2)
      else
        Option.bind (f64 F x2 x3) fun x5 =>
        some (x5, 0)
  else
    some (0, 1)

def f42 (F : Nat) (x1 : List Int) : Option (List Int) :=
  some x1

def f51 (F : Nat) (x1 : List (List Int)) : Option (List (List Int)) :=
  some x1

def f58 (F : Nat) : Option (Int × (List (List Int))) :=
  Option.bind (f42 F ([1, 1] : List Int)) fun x1 =>
  Option.bind (f42 F ([2, 2] : List Int)) fun x2 =>
  Option.bind (f51 F ([x1, x2] : List (List Int))) fun x3 =>
  some (2, x3)

def f92 (F : Nat) (x1 : Int) : Option Bool :=
  if (decide (x1 < 0)) = true then
    some true
  else
    some (decide (x1 > 2))

inductive f108_p1_R where
  | c0 (a0 : Int)
  | c1
def f108_p1 (F : Nat) (x1 : List Int) : Nat → Int → Option f108_p1_R
  | 0, _ => none
  | k + 1, x2 =>
    if (decide (x2 < ((List.length x1 : Nat) : Int))) = true then
      Option.bind (at? x1 x2) fun x3 =>
      Option.bind (f92 F x3) fun x4 =>
      if x4 = true then
        some (.c0 x2)
      else
        f108_p1 F x1 k (w64 (x2 + 1))
    else
      some .c1
def f108 (F : Nat) (x1 : List Int) : Option Int :=
  Option.bind (f108_p1 F x1 F 0) fun
  | .c0 x5 =>
    some x5
  | .c1 =>
    some (-1)

def f91 (F : Nat) (x1 : List Int) : Option Bool :=
  Option.bind (f108 F x1) fun x2 =>
  some (decide (x2 ≥ 0))

inductive f78_p4_R where
  | c0 (a0 : Int)
  | c1 (a0 : Int) (a1 : Int)
def f78_p4 (F : Nat) (x2 : List (List Int)) (x1 : Int) : Nat → Int → Int → Int → Option f78_p4_R
  | 0, _, _, _ => none
  | k + 1, x7, x8, x9 =>
    if (decide (x7 < ((List.length x2 : Nat) : Int))) = true then
      Option.bind (at? x2 x7) fun x10 =>
      if ((w64 (2 * ((List.length x10 : Nat) : Int))) != (iShl .i64 1 x1)) = true then
        some (.c0 5)
      else
        Option.bind (f91 F x10) fun x11 =>
        if x11 = true then
          some (.c0 1)
        else
          f78_p4 F x2 x1 k (w64 (x7 + 1)) x8 x9
    else
      some (.c1 x8 x9)
def f78 (F : Nat) (x1 : Int) (x2 : List (List Int)) : Option (Int × (List (List Int)) × Int × Int) :=
  Option.bind (f74 F x1) fun x3 =>
  if x3 = true then
    if (((List.length x2 : Nat) : Int) != x1) = true then
      some (0, ([] : List (List Int)), 0, 5)
    else
      req ((0 : Int) ≤ x1) <|
      Option.bind (f78_p4 F x2 x1 F 0 0 0) fun
      | .c0 x12 =>
        some (0, ([] : List (List Int)), 0, x12)
      | .c1 x13 x14 =>
        some (x1, x2, (iShl .i64 1 x1), 0)
  else
    some (0, ([] : List (List Int)), 0, 1)

def f39_p4 (F : Nat) (x3 : Int) (x5 : List (List Int)) : Nat → Int → (List Int) → Option (List Int)
  | 0, _, _ => none
  | k + 1, x13, x12 =>
    if (decide (x13 < ((List.length x5 : Nat) : Int))) = true then
      Option.bind (at? x5 x13) fun x14 =>
      Option.bind (f64 F x3 x13) fun x15 =>
      Option.bind (at? x14 x15) fun x16 =>
      req (List.length x12 + List.length ([x16] : List Int) ≤ 1099511627776) <|
      f39_p4 F x3 x5 k (w64 (x13 + 1)) (x12 ++ ([x16] : List Int))
    else
      some x12
def f39 (F : Nat) (x1 : Int) (x2 : List (List Int)) (x3 : Int) : Option ((List Int) × Int) :=
  Option.bind (f78 F x1 x2) fun (x4, x5, x6, x7) =>
  if (x7 != 0) = true then
    some (([] : List Int), x7)
  else
  if (decide (x3 < 0)) = true then
    some (([] : List Int), 2)
  else
  if (decide (x3 ≥ x6)) = true then
    some (([] : List Int), 2)
  else
    Option.bind (f39_p4 F x3 x5 F 0 ([] : List Int)) fun x17 =>
    some ((List.drop 0 (List.take (0 + (List.length x17)) x17)), 0)

def f79_p6 (F : Nat) (x4 : Int) (x5 : Int) (x6 : Int) (x1 : Int) (x7 : Int) (x10 : Int) (x2 : List (List Int)) (x3 : Int) : Option (Int × Int) :=
  if (x10 == (iAnd .i64 (iShr .i64 x4 x7) 1)) = true then
    some ((w64 (x5 + 1)), x6)
  else
    some (x5, (w64 (x6 + 1)))
def f79_p5 (F : Nat) (x4 : Int) (x5 : Int) (x6 : Int) (x7 : Int) (x1 : Int) (x10 : Int) (x2 : List (List Int)) (x3 : Int) : Option (Int × Int) :=
  if (x10 == 2) = true then
    some (x5, x6)
  else
    req ((0 : Int) ≤ x7) <|
    Option.bind (f79_p6 F x4 x5 x6 x1 x7 x10 x2 x3) fun (x11, x12) =>
    some (x11, x12)
def f79_p1 (F : Nat) (x4 : Int) (x1 : Int) (x2 : List (List Int)) (x3 : Int) : Nat → Int → Int → Int → Option (Int × Int)
  | 0, _, _, _ => none
  | k + 1, x5, x6, x7 =>
    if (decide (x7 < x1)) = true then
      Option.bind (at? x2 x7) fun x8 =>
      Option.bind (f64 F x4 x7) fun x9 =>
      Option.bind (at? x8 x9) fun x10 =>
      Option.bind (f79_p5 F x4 x5 x6 x7 x1 x10 x2 x3) fun (x13, x14) =>
      f79_p1 F x4 x1 x2 x3 k x13 x14 (w64 (x7 + 1))
    else
      some (x5, x6)
def f79 (F : Nat) (x1 : Int) (x2 : List (List Int)) (x3 : Int) (x4 : Int) : Option (Int × Int) :=
  Option.bind (f79_p1 F x4 x1 x2 x3 F 0 0 0) fun (x15, x16) =>
  some (x15, x16)

def f32_p5_1 (F : Nat) (x10 : List Int) (x11 : Int) (x5 : Int) (x13 : Int) (x3 : Int) (x4 : List (List Int)) : Option (List Int) :=
  if (x13 == 0) = true then
    req (List.length x10 + List.length ([x11] : List Int) ≤ 1099511627776) <|
    some (x10 ++ ([x11] : List Int))
  else
    some x10
def f32_p2 (F : Nat) (x5 : Int) (x3 : Int) (x4 : List (List Int)) : Nat → Int → (List Int) → Option (List Int)
  | 0, _, _ => none
  | k + 1, x11, x10 =>
    if (decide (x11 < x5)) = true then
      Option.bind (f79 F x3 x4 x5 x11) fun (x12, x13) =>
      if (decide (x12 > 0)) = true then
        Option.bind (f32_p5_1 F x10 x11 x5 x13 x3 x4) fun x14 =>
        f32_p2 F x5 x3 x4 k (w64 (x11 + 1)) x14
      else
        f32_p2 F x5 x3 x4 k (w64 (x11 + 1)) x10
    else
      some x10
def f32 (F : Nat) (x1 : Int) (x2 : List (List Int)) : Option ((List Int) × Int) :=
  Option.bind (f78 F x1 x2) fun (x3, x4, x5, x6) =>
  if (x6 != 0) = true then
    some (([] : List Int), x6)
  else
    Option.bind (f32_p2 F x5 x3 x4 F 0 ([] : List Int)) fun x15 =>
    some ((List.drop 0 (List.take (0 + (List.length x15)) x15)), 0)

def f37_p2 (F : Nat) (x5 : Int) (x3 : Int) (x4 : List (List Int)) : Nat → Int → Int → Int → Option (Int × Int)
  | 0, _, _, _ => none
  | k + 1, x7, x8, x9 =>
    if (decide (x9 < x5)) = true then
      Option.bind (f79 F x3 x4 x5 x9) fun (x10, x11) =>
      f37_p2 F x5 x3 x4 k (w64 (x7 + x10)) (w64 (x8 + x11)) (w64 (x9 + 1))
    else
      some (x7, x8)
def f37 (F : Nat) (x1 : Int) (x2 : List (List Int)) : Option (Int × Int × Int) :=
  Option.bind (f78 F x1 x2) fun (x3, x4, x5, x6) =>
  if (x6 != 0) = true then
    some (0, 0, x6)
  else
    Option.bind (f37_p2 F x5 x3 x4 F 0 0 0) fun (x12, x13) =>
    some (x12, x13, 0)

def f59_p9_1 (F : Nat) (x1 : Int) (x17 : Int) (x2 : List Int) (x16 : Int) : Nat → Int → (List Int) → Option (List Int)
  | 0, _, _ => none
  | k + 1, x22, x21 =>
    if (decide (x22 < x1)) = true then
      req ((0 : Int) ≤ x22) <|
      req ((0 : Int) ≤ (iXor .i64 x17 (iShl .i64 1 x22)) ∧ ((iXor .i64 x17 (iShl .i64 1 x22)) : Int) < (((Int.toNat (iShl .i64 1 x1)) : Nat) : Int)) <|
      Option.bind ((x21)[(0 + (Int.toNat (iXor .i64 x17 (iShl .i64 1 x22))))]?) fun x23 =>
      req ((0 + (Int.toNat (iXor .i64 x17 (iShl .i64 1 x22)))) < List.length x21) <|
      f59_p9_1 F x1 x17 x2 x16 k (w64 (x22 + 1)) (List.set x21 (0 + (Int.toNat (iXor .i64 x17 (iShl .i64 1 x22)))) (w64 (x23 + 1)))
    else
      some x21
inductive f59_p2_R where
  | c0 (a0 : Int)
  | c1 (a0 : List Int)
def f59_p2 (F : Nat) (x1 : Int) (x2 : List Int) : Nat → Int → Int → (List Int) → Option f59_p2_R
  | 0, _, _, _ => none
  | k + 1, x15, x16, x14 =>
    if (decide (x16 < ((List.length x2 : Nat) : Int))) = true then
      Option.bind (at? x2 x16) fun x17 =>
      if (decide (x17 < 0)) = true then
        some (.c0 2)
      else
      if (decide (x17 ≥ (((Int.toNat (iShl .i64 1 x1)) : Nat) : Int))) = true then
        some (.c0 2)
      else
      if (decide (x17 ≤ x15)) = true then
        some (.c0 7)
      else
        req ((0 : Int) ≤ x17 ∧ (x17 : Int) < (((Int.toNat (iShl .i64 1 x1)) : Nat) : Int)) <|
        Option.bind ((x14)[(0 + (Int.toNat x17))]?) fun x18 =>
        req ((0 + (Int.toNat x17)) < List.length x14) <|
        Option.bind (f59_p9_1 F x1 x17 x2 x16 F 0 (List.set x14 (0 + (Int.toNat x17)) (w64 (x18 + 1)))) fun x24 =>
        f59_p2 F x1 x2 k x17 (w64 (x16 + 1)) x24
    else
      some (.c1 x14)
def f59 (F : Nat) (x1 : Int) (x2 : List Int) : Option ((List Int) × Int) :=
  Option.bind (f74 F x1) fun x3 =>
  if x3 = true then
    req ((0 : Int) ≤ x1) <|
    req ((0 : Int) ≤ (iShl .i64 1 x1) ∧ ((iShl .i64 1 x1) : Int) ≤ (iShl .i64 1 x1) ∧ ((iShl .i64 1 x1) : Int) ≤ 1099511627776) <|
    Option.bind (f59_p2 F x1 x2 F (-1) 0 (List.replicate (Int.toNat (iShl .i64 1 x1)) (0 : Int))) fun
    | .c0 x25 =>
      some (([] : List Int), x25)
    | .c1 x26 =>
      req ((0 + (Int.toNat (iShl .i64 1 x1))) ≤ List.length x26) <|
      some ((List.drop 0 (List.take (0 + (Int.toNat (iShl .i64 1 x1))) x26)), 0)
  else
    some (([] : List Int), 1)

def f15 (F : Nat) (x1 : Int) (x2 : List Int) : Option ((List Int) × Int) :=
  Option.bind (f59 F x1 x2) fun (x3, x4) =>
  some (x3, x4)

def f17_p5_1 (F : Nat) (x7 : List Int) (x8 : Int) (x3 : List Int) (x9 : Int) : Option (List Int) :=
  if (x9 == 0) = true then
    req (List.length x7 + List.length ([x8] : List Int) ≤ 1099511627776) <|
    some (x7 ++ ([x8] : List Int))
  else
    some x7
def f17_p2 (F : Nat) (x3 : List Int) : Nat → Int → (List Int) → Option (List Int)
  | 0, _, _ => none
  | k + 1, x8, x7 =>
    if (decide (x8 < ((List.length x3 : Nat) : Int))) = true then
      Option.bind (at? x3 x8) fun x9 =>
      Option.bind (f17_p5_1 F x7 x8 x3 x9) fun x10 =>
      f17_p2 F x3 k (w64 (x8 + 1)) x10
    else
      some x7
def f17 (F : Nat) (x1 : Int) (x2 : List Int) : Option ((List Int) × Int) :=
  Option.bind (f59 F x1 x2) fun (x3, x4) =>
  if (x4 != 0) = true then
    some (([] : List Int), x4)
  else
    Option.bind (f17_p2 F x3 F 0 ([] : List Int)) fun x11 =>
    some ((List.drop 0 (List.take (0 + (List.length x11)) x11)), 0)

def f105 (F : Nat) (x1 : Int) (x2 : Int) : Option (Int × Int) :=
  some ((IntKind.wrap .u64 ((IntKind.wrap .u64 ((IntKind.wrap .u64 ((iShr .u64 x1 32) * (iShr .u64 x2 32))) + (iShr .u64 (IntKind.wrap .u64 ((IntKind.wrap .u64 ((iShr .u64 x1 32) * (iAnd .u64 x2 4294967295))) + (iShr .u64 (IntKind.wrap .u64 ((iAnd .u64 x1 4294967295) * (iAnd .u64 x2 4294967295))) 32))) 32))) + (iShr .u64 (IntKind.wrap .u64 ((iAnd .u64 (IntKind.wrap .u64 ((IntKind.wrap .u64 ((iShr .u64 x1 32) * (iAnd .u64 x2 4294967295))) + (iShr .u64 (IntKind.wrap .u64 ((iAnd .u64 x1 4294967295) * (iAnd .u64 x2 4294967295))) 32))) 4294967295) + (IntKind.wrap .u64 ((iAnd .u64 x1 4294967295) * (iShr .u64 x2 32))))) 32))), (IntKind.wrap .u64 (x1 * x2)))

def f87 (F : Nat) (x1 : Int) (x2 : Int) : Option (Int × Int) :=
  Option.bind (f105 F x1 x2) fun (x3, x4) =>
  some (x3, x4)

def f57_p0 (F : Nat) (x1 : List Int) (x2 : Int) : Option Unit :=
  if (decide (x2 < 0)) = true then
    none
  else
    some ()
def f57_p1 (F : Nat) (x1 : List Int) (x4 : Int) : Option Unit :=
  if (decide (x4 > 9223372036854775807)) = true then
    none
  else
    some ()
def f57_p3 (F : Nat) (x4 : Int) : Nat → Int → (List Int) → Option (List Int)
  | 0, _, _ => none
  | k + 1, x7, x6 =>
    if (decide (x7 < (((Int.toNat (w64 (x4))) : Nat) : Int))) = true then
      req ((0 : Int) ≤ x7 ∧ (x7 : Int) ≤ (((Int.toNat (w64 (x4))) : Nat) : Int) ∧ ((((Int.toNat (w64 (x4))) : Nat) : Int) : Int) ≤ (((Int.toNat (w64 (x4))) : Nat) : Int) ∧ 0 < (Int.toNat (w64 (x4)))) <|
      req ((0 : Int) ≤ 0 ∧ (0 : Int) ≤ x7 ∧ (x7 : Int) ≤ (((Int.toNat (w64 (x4))) : Nat) : Int) ∧ 0 < (Int.toNat (w64 (x4)))) <|
      req ((0 + (Int.toNat x7)) ≤ List.length x6) <|
      req (((0 + (Int.toNat x7)) + ((Int.toNat (w64 (x4))) - (Int.toNat x7))) ≤ List.length x6) <|
      f57_p3 F x4 k (w64 (x7 + (((Nat.min (List.length (List.drop 0 (List.take (0 + (Int.toNat x7)) x6))) ((Int.toNat (w64 (x4))) - (Int.toNat x7))) : Nat) : Int))) (List.take (0 + (Int.toNat x7)) x6 ++ List.take (Nat.min (List.length (List.drop 0 (List.take (0 + (Int.toNat x7)) x6))) ((Int.toNat (w64 (x4))) - (Int.toNat x7))) (List.drop 0 (List.take (0 + (Int.toNat x7)) x6)) ++ List.drop ((0 + (Int.toNat x7)) + (Nat.min (List.length (List.drop 0 (List.take (0 + (Int.toNat x7)) x6))) ((Int.toNat (w64 (x4))) - (Int.toNat x7)))) x6)
    else
      some x6
def f57 (F : Nat) (x1 : List Int) (x2 : Int) : Option (Nat × Nat × (List Int)) :=
  Option.bind (f57_p0 F x1 x2) fun _ =>
  Option.bind (f87 F (IntKind.wrap .u64 (((List.length x1 : Nat) : Int))) (IntKind.wrap .u64 (x2))) fun (x3, x4) =>
  if (decide (x3 > 0)) = true then
    none
  else
    Option.bind (f57_p1 F x1 x4) fun _ =>
    req ((0 : Int) ≤ (w64 (x4)) ∧ ((w64 (x4)) : Int) ≤ (w64 (x4)) ∧ ((w64 (x4)) : Int) ≤ 1099511627776) <|
    req ((0 + (Int.toNat (w64 (x4)))) ≤ List.length (List.replicate (Int.toNat (w64 (x4))) (0 : Int))) <|
    Option.bind (f57_p3 F x4 F (((Nat.min (List.length x1) (Int.toNat (w64 (x4)))) : Nat) : Int) (List.take 0 (List.replicate (Int.toNat (w64 (x4))) (0 : Int)) ++ List.take (Nat.min (List.length x1) (Int.toNat (w64 (x4)))) x1 ++ List.drop (0 + (Nat.min (List.length x1) (Int.toNat (w64 (x4))))) (List.replicate (Int.toNat (w64 (x4))) (0 : Int)))) fun x8 =>
    some (0, (Int.toNat (w64 (x4))), x8)

inductive f80_p1_R where
  | c0 (a0 : Int)
  | c1
def f80_p1 (F : Nat) (x1 : List Int) (x2 : Int) : Nat → Int → Option f80_p1_R
  | 0, _ => none
  | k + 1, x3 =>
    if (decide (x3 < ((List.length x1 : Nat) : Int))) = true then
      Option.bind (at? x1 x3) fun x4 =>
      if (x2 == x4) = true then
        some (.c0 x3)
      else
        f80_p1 F x1 x2 k (w64 (x3 + 1))
    else
      some .c1
def f80 (F : Nat) (x1 : List Int) (x2 : Int) : Option Int :=
  Option.bind (f80_p1 F x1 x2 F 0) fun
  | .c0 x5 =>
    some x5
  | .c1 =>
    some (-1)

def f36 (F : Nat) (x1 : List Int) (x2 : Int) : Option Bool :=
  Option.bind (f80 F x1 x2) fun x3 =>
  some (decide (x3 ≥ 0))

def f19_p9_5 (F : Nat) (x1 : Int) (x2 : List Int) (x39 : Int) (x41 : Nat) (x42 : Nat) (x51 : Int) (x50 : Int) (x52 : Bool) (x40 : Int) (x38 : List (List Int)) (x49 : List Int) : Option (List Int) :=
  if x52 = true then
    some x49
  else
    Option.bind (f64 F x51 x39) fun x53 =>
    req ((0 : Int) ≤ x39) <|
    req ((0 : Int) ≤ x53 ∧ (x53 : Int) < ((x42 : Nat) : Int)) <|
    req ((x41 + (Int.toNat x53)) < List.length x49) <|
    some (List.set x49 (x41 + (Int.toNat x53)) (w64 (1 - (iAnd .i64 (iShr .i64 x51 x39) 1))))
def f19_p6_2 (F : Nat) (x1 : Int) (x2 : List Int) (x39 : Int) (x41 : Nat) (x42 : Nat) (x40 : Int) (x38 : List (List Int)) : Nat → Int → (List Int) → Option (List Int)
  | 0, _, _ => none
  | k + 1, x50, x49 =>
    if (decide (x50 < ((List.length x2 : Nat) : Int))) = true then
      Option.bind (at? x2 x50) fun x51 =>
      req ((0 : Int) ≤ x39) <|
      Option.bind (f36 F x2 (iXor .i64 x51 (iShl .i64 1 x39))) fun x52 =>
      Option.bind (f19_p9_5 F x1 x2 x39 x41 x42 x51 x50 x52 x40 x38 x49) fun x54 =>
      f19_p6_2 F x1 x2 x39 x41 x42 x40 x38 k (w64 (x50 + 1)) x54
    else
      some x49
def f19_p2 (F : Nat) (x1 : Int) (x2 : List Int) : Nat → Int → Int → (List (List Int)) → Option (Int × (List (List Int)))
  | 0, _, _, _ => none
  | k + 1, x39, x40, x38 =>
    if (decide (x39 < x1)) = true then
      req ((0 : Int) ≤ (w64 (x1 - 1))) <|
      Option.bind (f57 F ([2] : List Int) (iShl .i64 1 (w64 (x1 - 1)))) fun (x41, x42, x43) =>
      Option.bind (f19_p6_2 F x1 x2 x39 x41 x42 x40 x38 F 0 x43) fun x55 =>
      req ((x41 + x42) ≤ List.length x55) <|
      req (List.length x38 + List.length ([(List.drop x41 (List.take (x41 + x42) x55))] : List (List Int)) ≤ 1099511627776) <|
      f19_p2 F x1 x2 k (w64 (x39 + 1)) x40 (x38 ++ ([(List.drop x41 (List.take (x41 + x42) x55))] : List (List Int)))
    else
      some (x40, x38)
def f19 (F : Nat) (x1 : Int) (x2 : List Int) : Option (Int × (List (List Int)) × Int) :=
  Option.bind (f59 F x1 x2) fun (x3, x4) =>
  if (x4 != 0) = true then
    some (0, ([] : List (List Int)), x4)
  else
    Option.bind (f19_p2 F x1 x2 F 0 x1 ([] : List (List Int))) fun (x56, x57) =>
    some (x56, (List.drop 0 (List.take (0 + (List.length x57)) x57)), 0)

def f69 (F : Nat) (x1 : Int) : Option Int :=
  Option.bind (f74 F x1) fun x2 =>
  if x2 = true then
    if ((iAnd .i64 x1 (w64 (x1 + 1))) != 0) = true then
      some 12
    else
      some 0
  else
    some 1

def f107 (F : Nat) (x1 : Int) : Option Int :=
  if (x1 == 0) = true then
    some 64
  else
    Option.bind (at? tab64 (iShr .u64 (IntKind.wrap .u64 ((iAnd .u64 x1 (IntKind.wrap .u64 (0 - x1))) * 285870213051353865)) 58)) fun x2 =>
    some (w64 (x2))

def f88 (F : Nat) (x1 : Int) : Option Int :=
  Option.bind (f107 F x1) fun x2 =>
  some x2

def f70_p1 (F : Nat) : Nat → Int → Int → Option Int
  | 0, _, _ => none
  | k + 1, x2, x3 =>
    if (x3 != 0) = true then
      Option.bind (f88 F x3) fun x4 =>
      f70_p1 F k (iXor .i64 x2 (w64 (x4 + 1))) (iAnd .u64 x3 (IntKind.wrap .u64 (x3 - 1)))
    else
      some x2
def f70 (F : Nat) (x1 : Int) : Option Int :=
  Option.bind (f70_p1 F F 0 (IntKind.wrap .u64 (x1))) fun x5 =>
  some x5

def f23_p5_1 (F : Nat) (x5 : List Int) (x6 : Int) (x1 : Int) (x7 : Int) : Option (List Int) :=
  if (x7 == 0) = true then
    req (List.length x5 + List.length ([x6] : List Int) ≤ 1099511627776) <|
    some (x5 ++ ([x6] : List Int))
  else
    some x5
def f23_p2 (F : Nat) (x1 : Int) : Nat → Int → (List Int) → Option (List Int)
  | 0, _, _ => none
  | k + 1, x6, x5 =>
    if (decide (x6 < (iShl .i64 1 x1))) = true then
      Option.bind (f70 F x6) fun x7 =>
      Option.bind (f23_p5_1 F x5 x6 x1 x7) fun x8 =>
      f23_p2 F x1 k (w64 (x6 + 1)) x8
    else
      some x5
def f23 (F : Nat) (x1 : Int) : Option ((List Int) × Int) :=
  Option.bind (f69 F x1) fun x2 =>
  if (x2 != 0) = true then
    some (([] : List Int), x2)
  else
    req ((0 : Int) ≤ x1) <|
    Option.bind (f23_p2 F x1 F 0 ([] : List Int)) fun x9 =>
    some ((List.drop 0 (List.take (0 + (List.length x9)) x9)), 0)

def f25 (F : Nat) (x1 : Int) (x2 : Int) : Option (Int × Int) :=
  Option.bind (f69 F x1) fun x3 =>
  if (x3 != 0) = true then
    some (0, x3)
  else
  if (decide (x2 < 0)) = true then
    some (0, 2)
  else
    req ((0 : Int) ≤ x1) <|
    if (decide (x2 ≥ (iShl .i64 1 x1))) = true then
      some (0, 2)
    else
      Option.bind (f70 F x2) fun x4 =>
      if (decide (x4 > 0)) = true then
        req ((0 : Int) ≤ (w64 (x4 - 1))) <|
        some ((iXor .i64 x2 (iShl .i64 1 (w64 (x4 - 1)))), 0)
      else
        some (x2, 0)

def f89 (F : Nat) (x1 : Int) : Option Int :=
  req ((0 : Int) ≤ (iShr .u16 x1 8) ∧ ((iShr .u16 x1 8) : Int) < ((256 : Nat) : Int)) <|
  req ((0 : Int) ≤ (iAnd .u16 x1 255) ∧ ((iAnd .u16 x1 255) : Int) < ((256 : Nat) : Int)) <|
  some (w64 ((IntKind.wrap .u8 ((strAt str0 (iShr .u16 x1 8)) + (strAt str0 (iAnd .u16 x1 255))))))

def f90 (F : Nat) (x1 : List Int) : Option (List Int) :=
  req ((0 : Int) ≤ 0 ∧ (0 : Int) ≤ ((List.length x1 : Nat) : Int) ∧ (((List.length x1 : Nat) : Int) : Int) ≤ ((List.length x1 : Nat) : Int) ∧ ((List.length x1 : Nat) : Int) = ((List.length x1 : Nat) : Int)) <|
  some (List.drop 0 (List.take (List.length x1) x1))

def f75_p2 (F : Nat) (x4 : List Int) (x5 : Int) (x6 : Int) (x1 : Int) (x2 : List Int) (x3 : Int) : Option Int :=
  if (decide (((List.length x4 : Nat) : Int) > 0)) = true then
    Option.bind (at? x4 (w64 (((List.length x4 : Nat) : Int) - 1))) fun x8 =>
    some (w64 (x8 + 1))
  else
    some 0
inductive f75_p4_R where
  | c0 (a0 : List Int)
  | c1
def f75_p4 (F : Nat) (rec : Int → (List Int) → Int → (List Int) → Int → Int → Option ((List Int) × Bool)) (x4 : List Int) (x5 : Int) (x6 : Int) (x1 : Int) (x2 : List Int) (x3 : Int) : Nat → Int → Option f75_p4_R
  | 0, _ => none
  | k + 1, x10 =>
    if (decide (x10 < ((List.length x2 : Nat) : Int))) = true then
      Option.bind (f90 F x4) fun x11 =>
      req (List.length x11 + List.length ([x10] : List Int) ≤ 1099511627776) <|
      Option.bind (at? x2 x10) fun x12 =>
      Option.bind (rec x1 x2 x3 (x11 ++ ([x10] : List Int)) (iOr .u16 x5 x12) (w64 (x6 - 1))) fun (x13, x14) =>
      if x14 = true then
        some (.c0 x13)
      else
        f75_p4 F rec x4 x5 x6 x1 x2 x3 k (w64 (x10 + 1))
    else
      some .c1
def f75_b (F : Nat) (rec : Int → (List Int) → Int → (List Int) → Int → Int → Option ((List Int) × Bool)) (x1 : Int) (x2 : List Int) (x3 : Int) (x4 : List Int) (x5 : Int) (x6 : Int) : Option ((List Int) × Bool) :=
  if (x6 == 0) = true then
    some (x4, (x5 == x3))
  else
    Option.bind (f89 F (iAndNot .u16 x3 x5)) fun x7 =>
    if (decide (x7 > (w64 (x6 * (w64 (x1 + 1)))))) = true then
      some (([] : List Int), false)
    else
      Option.bind (f75_p2 F x4 x5 x6 x1 x2 x3) fun x9 =>
      Option.bind (f75_p4 F rec x4 x5 x6 x1 x2 x3 F x9) fun
      | .c0 x15 =>
        some (x15, true)
      | .c1 =>
        some (([] : List Int), false)
def f75 (F : Nat) : Nat → Int → (List Int) → Int → (List Int) → Int → Int → Option ((List Int) × Bool)
  | 0 => fun _ _ _ _ _ _ => none
  | k + 1 => f75_b F (f75 F k)

def f27_p8_2 (F : Nat) (x1 : Int) (x14 : Int) (x15 : Int) (x13 : List Int) (x16 : Int) : Nat → Int → Int → Option Int
  | 0, _, _ => none
  | k + 1, x17, x18 =>
    if (decide (x18 < x1)) = true then
      req ((0 : Int) ≤ x18) <|
      req ((0 : Int) ≤ (iXor .i64 x14 (iShl .i64 1 x18))) <|
      f27_p8_2 F x1 x14 x15 x13 x16 k (iOr .u16 x17 (iShl .u16 1 (iXor .i64 x14 (iShl .i64 1 x18)))) (w64 (x18 + 1))
    else
      some x17
def f27_p4 (F : Nat) (x1 : Int) : Nat → Int → Int → Int → (List Int) → Option (Int × Int × (List Int))
  | 0, _, _, _, _ => none
  | k + 1, x14, x15, x16, x13 =>
    if (decide (x14 < (iShl .i64 1 x1))) = true then
      req ((0 : Int) ≤ x14) <|
      Option.bind (f27_p8_2 F x1 x14 x15 x13 x16 F (iShl .u16 1 x14) 0) fun x19 =>
      req (List.length x13 + List.length ([x19] : List Int) ≤ 1099511627776) <|
      f27_p4 F x1 k (w64 (x14 + 1)) x15 x16 (x13 ++ ([x19] : List Int))
    else
      some (x15, x16, x13)
inductive f27_p12_R where
  | c0 (a0 : List Int)
  | c1
def f27_p12 (F : Nat) (x20 : Int) (x22 : List Int) (x21 : Int) : Nat → Int → Option f27_p12_R
  | 0, _ => none
  | k + 1, x26 =>
    if (decide (x26 ≤ ((List.length (List.drop 0 (List.take (0 + (List.length x22)) x22)) : Nat) : Int))) = true then
      Option.bind (f75 F F x20 (List.drop 0 (List.take (0 + (List.length x22)) x22)) x21 ([] : List Int) 0 x26) fun (x27, x28) =>
      if x28 = true then
        some (.c0 x27)
      else
        f27_p12 F x20 x22 x21 k (w64 (x26 + 1))
    else
      some .c1
def f27 (F : Nat) (x1 : Int) : Option ((List Int) × Int) :=
  Option.bind (f74 F x1) fun x2 =>
  if x2 = true then
    if (decide (x1 > 4)) = true then
      some (([] : List Int), 3)
    else
      req ((0 : Int) ≤ x1) <|
      req ((0 : Int) ≤ (iShl .u64 1 x1)) <|
      Option.bind (f27_p4 F x1 F 0 x1 (IntKind.wrap .u16 ((iShl .u16 1 (iShl .u64 1 x1)) - 1)) ([] : List Int)) fun (x20, x21, x22) =>
      Option.bind (f27_p12 F x20 x22 x21 F 1) fun
      | .c0 x29 =>
        some (x29, 0)
      | .c1 =>
        some (([] : List Int), 12)
  else
    some (([] : List Int), 1)

def f29 (F : Nat) (x1 : Int) : Option (Int × Int) :=
  Option.bind (f27 F x1) fun (x2, x3) =>
  if (x3 != 0) = true then
    some (0, x3)
  else
    req ((0 : Int) ≤ x1) <|
    some ((w64 ((iShl .i64 1 x1) - ((List.length x2 : Nat) : Int))), 0)

inductive f21_p2_R where
  | c0
  | c1
def f21_p2 (F : Nat) (x1 : List Int) (x2 : List Int) : Nat → Int → Option f21_p2_R
  | 0, _ => none
  | k + 1, x3 =>
    if (decide (x3 < ((List.length x1 : Nat) : Int))) = true then
      Option.bind (at? x1 x3) fun x4 =>
      Option.bind (at? x2 x3) fun x5 =>
      if (x4 != x5) = true then
        some .c0
      else
        f21_p2 F x1 x2 k (w64 (x3 + 1))
    else
      some .c1
def f21 (F : Nat) (x1 : List Int) (x2 : List Int) : Option Bool :=
  if (((List.length x1 : Nat) : Int) != ((List.length x2 : Nat) : Int)) = true then
    some false
  else
    Option.bind (f21_p2 F x1 x2 F 0) fun
    | .c0 =>
      some false
    | .c1 =>
      some true

inductive f22_p2_R where
  | c0
  | c1
def f22_p2 (F : Nat) (x1 : List (List Int)) (x2 : List (List Int)) : Nat → Int → Option f22_p2_R
  | 0, _ => none
  | k + 1, x3 =>
    if (decide (x3 < ((List.length x1 : Nat) : Int))) = true then
      Option.bind (at? x1 x3) fun x4 =>
      Option.bind (at? x2 x3) fun x5 =>
      Option.bind (f21 F x4 x5) fun x6 =>
      if x6 = true then
        f22_p2 F x1 x2 k (w64 (x3 + 1))
      else
        some .c0
    else
      some .c1
def f22 (F : Nat) (x1 : List (List Int)) (x2 : List (List Int)) : Option Bool :=
  if (((List.length x1 : Nat) : Int) != ((List.length x2 : Nat) : Int)) = true then
    some false
  else
    Option.bind (f22_p2 F x1 x2 F 0) fun
    | .c0 =>
      some false
    | .c1 =>
      some true

def f14 (F : Nat) : Option Bool :=
  Option.bind (f40 F 3 6 1) fun (x1, x2) =>
  Option.bind (f58 F) fun (x3, x4) =>
  Option.bind (f39 F x3 x4 2) fun (x5, x6) =>
  Option.bind (f58 F) fun (x7, x8) =>
  Option.bind (f32 F x7 x8) fun (x9, x10) =>
  Option.bind (f58 F) fun (x11, x12) =>
  Option.bind (f37 F x11 x12) fun (x13, x14, x15) =>
  Option.bind (f42 F ([0] : List Int)) fun x16 =>
  Option.bind (f15 F 2 x16) fun (x17, x18) =>
  Option.bind (f42 F ([0] : List Int)) fun x19 =>
  Option.bind (f17 F 2 x19) fun (x20, x21) =>
  Option.bind (f42 F ([0, 7] : List Int)) fun x22 =>
  Option.bind (f19 F 3 x22) fun (x23, x24, x25) =>
  if (x2 != 0) = true then
    none
  else
  if (x6 != 0) = true then
    none
  else
  if (x10 != 0) = true then
    none
  else
  if (x15 != 0) = true then
    none
  else
  if (x18 != 0) = true then
    none
  else
  if (x21 != 0) = true then
    none
  else
  if (x25 != 0) = true then
    none
  else
  if (x23 != 3) = true then
    none
  else
  if (((List.length x24 : Nat) : Int) != 3) = true then
    none
  else
    Option.bind (f23 F 3) fun (x26, x27) =>
    Option.bind (f25 F 3 6) fun (x28, x29) =>
    Option.bind (f27 F 4) fun (x30, x31) =>
    Option.bind (f29 F 4) fun (x32, x33) =>
    Option.bind (f23 F 4) fun (x34, x35) =>
    Option.bind (f27 F 5) fun (x36, x37) =>
    if (x27 == 0) = true then
      if (x29 == 0) = true then
        if (x31 == 0) = true then
          if (x33 == 0) = true then
            if (x35 == 12) = true then
              if (x37 == 3) = true then
                if (x1 == 2) = true then
                  if (x13 == 2) = true then
                    if (x14 == 2) = true then
                      if (x28 == 7) = true then
                        if (x32 == 12) = true then
                          Option.bind (f42 F ([1, 2] : List Int)) fun x38 =>
                          Option.bind (f21 F x5 x38) fun x39 =>
                          if x39 = true then
                            Option.bind (f42 F ([1, 3] : List Int)) fun x40 =>
                            Option.bind (f21 F x9 x40) fun x41 =>
                            if x41 = true then
                              Option.bind (f42 F ([1, 1, 1, 0] : List Int)) fun x42 =>
                              Option.bind (f21 F x17 x42) fun x43 =>
                              if x43 = true then
                                Option.bind (f42 F ([3] : List Int)) fun x44 =>
                                Option.bind (f21 F x20 x44) fun x45 =>
                                if x45 = true then
                                  Option.bind (f42 F ([1, 2, 2, 0] : List Int)) fun x46 =>
                                  Option.bind (f42 F ([1, 2, 2, 0] : List Int)) fun x47 =>
                                  Option.bind (f42 F ([1, 2, 2, 0] : List Int)) fun x48 =>
                                  Option.bind (f51 F ([x46, x47, x48] : List (List Int))) fun x49 =>
                                  Option.bind (f22 F x24 x49) fun x50 =>
                                  if x50 = true then
                                    Option.bind (f42 F ([0, 7] : List Int)) fun x51 =>
                                    Option.bind (f21 F x26 x51) fun x52 =>
                                    if x52 = true then
                                      Option.bind (f42 F ([0, 1, 14, 15] : List Int)) fun x53 =>
                                      Option.bind (f21 F x30 x53) fun x54 =>
                                      some x54
                                    else
                                      none
                                  else
                                    none
                                else
                                  none
                              else
                                none
                            else
                              none
                          else
                            none
                        else
                          none
                      else
                        none
                    else
                      none
                  else
                    none
                else
                  none
              else
                none
            else
              none
          else
            none
        else
          none
      else
        none
    else
      none

def f31_p5_2 (F : Nat) (x20 : Int) (x1 : Int) (x3 : Int) (x21 : Int) (x2 : List Int) (x19 : List (List Int)) : Nat → Int → (List Int) → Option (List Int)
  | 0, _, _ => none
  | k + 1, x25, x24 =>
    if (decide (x25 < (iShl .i64 1 (w64 (x21 - 1))))) = true then
      req ((0 : Int) ≤ x20 ∧ (x20 : Int) < ((4 : Nat) : Int)) <|
      req ((0 : Int) ≤ x25 ∧ (x25 : Int) < ((8 : Nat) : Int)) <|
      Option.bind ((x2)[((0 + ((Int.toNat x20) * 8)) + ((Int.toNat x25) * 1))]?) fun x26 =>
      req (List.length x24 + List.length ([(Int.tmod (w64 (x26)) 3)] : List Int) ≤ 1099511627776) <|
      f31_p5_2 F x20 x1 x3 x21 x2 x19 k (w64 (x25 + 1)) (x24 ++ ([(Int.tmod (w64 (x26)) 3)] : List Int))
    else
      some x24
def f31_p1 (F : Nat) (x1 : Int) (x3 : Int) (x2 : List Int) : Nat → Int → Int → (List (List Int)) → Option (Int × (List (List Int)))
  | 0, _, _, _ => none
  | k + 1, x20, x21, x19 =>
    if (decide (x20 < (w64 (1 + (Int.tmod (w64 (x1)) x3))))) = true then
      req ((0 : Int) ≤ (w64 (x21 - 1))) <|
      Option.bind (f31_p5_2 F x20 x1 x3 x21 x2 x19 F 0 ([] : List Int)) fun x27 =>
      req (List.length x19 + List.length ([(List.drop 0 (List.take (0 + (List.length x27)) x27))] : List (List Int)) ≤ 1099511627776) <|
      f31_p1 F x1 x3 x2 k (w64 (x20 + 1)) x21 (x19 ++ ([(List.drop 0 (List.take (0 + (List.length x27)) x27))] : List (List Int)))
    else
      some (x21, x19)
def f31 (F : Nat) (x1 : Int) (x2 : List Int) (x3 : Int) : Option (Int × (List (List Int))) :=
  req ((x3 : Int) ≠ 0) <|
  Option.bind (f31_p1 F x1 x3 x2 F 0 (w64 (1 + (Int.tmod (w64 (x1)) x3))) ([] : List (List Int))) fun (x28, x29) =>
  some (x28, (List.drop 0 (List.take (0 + (List.length x29)) x29)))

def f41_p4 (F : Nat) (x2 : Int) (x3 : Int) (x4 : Int) (x5 : Int) : Option Int :=
  if (x5 != x3) = true then
    req ((0 : Int) ≤ x5) <|
    some (w64 ((w64 (2 * x4)) + (iAnd .i64 (iShr .i64 x2 x5) 1)))
  else
    some x4
def f41_p1 (F : Nat) (x2 : Int) (x3 : Int) : Nat → Int → Int → Option Int
  | 0, _, _ => none
  | k + 1, x4, x5 =>
    if (decide (x5 ≥ 0)) = true then
      Option.bind (f41_p4 F x2 x3 x4 x5) fun x6 =>
      f41_p1 F x2 x3 k x6 (w64 (x5 - 1))
    else
      some x4
def f41 (F : Nat) (x1 : Int) (x2 : Int) (x3 : Int) : Option Int :=
  Option.bind (f41_p1 F x2 x3 F 0 (w64 (x1 - 1))) fun x7 =>
  some x7

def f43_p4_1 (F : Nat) (x1 : Int) (x3 : List Int) (x4 : Int) : Option (List Int) :=
  if ((iAnd .i64 (iShr .i64 x1 x4) 1) == 1) = true then
    req (List.length x3 + List.length ([x4] : List Int) ≤ 1099511627776) <|
    some (x3 ++ ([x4] : List Int))
  else
    some x3
def f43_p1 (F : Nat) (x1 : Int) : Nat → Int → (List Int) → Option (List Int)
  | 0, _, _ => none
  | k + 1, x4, x3 =>
    req ((0 : Int) ≤ x4) <|
    if ((iShr .i64 x1 x4) != 0) = true then
      Option.bind (f43_p4_1 F x1 x3 x4) fun x5 =>
      f43_p1 F x1 k (w64 (x4 + 1)) x5
    else
      some x3
def f43 (F : Nat) (x1 : Int) : Option (List Int) :=
  Option.bind (f43_p1 F x1 F 0 ([] : List Int)) fun x6 =>
  some (List.drop 0 (List.take (0 + (List.length x6)) x6))

def f93 (F : Nat) (x1 : Int) : Option Bool :=
  some (x1 != x1)

def f83 (F : Nat) (x1 : Int) (x2 : Int) : Option Bool :=
  Option.bind (f93 F x1) fun x3 =>
  if x3 = true then
    Option.bind (f93 F x2) fun x4 =>
    if x4 = true then
      some (decide (x1 < x2))
    else
      some true
  else
    some (decide (x1 < x2))

def f103_p0 (F : Nat) (x1 : Int) : Option (Int × Int) :=
  if (decide (x1 ≥ 4294967296)) = true then
    some ((iShr .u64 x1 32), 32)
  else
    some (x1, 0)
def f103_p1 (F : Nat) (x2 : Int) (x3 : Int) : Option (Int × Int) :=
  if (decide (x2 ≥ 65536)) = true then
    some ((iShr .u64 x2 16), (w64 (x3 + 16)))
  else
    some (x2, x3)
def f103_p2 (F : Nat) (x4 : Int) (x5 : Int) : Option (Int × Int) :=
  if (decide (x4 ≥ 256)) = true then
    some ((iShr .u64 x4 8), (w64 (x5 + 8)))
  else
    some (x4, x5)
def f103 (F : Nat) (x1 : Int) : Option Int :=
  Option.bind (f103_p0 F x1) fun (x2, x3) =>
  Option.bind (f103_p1 F x2 x3) fun (x4, x5) =>
  Option.bind (f103_p2 F x4 x5) fun (x6, x7) =>
  req ((0 : Int) ≤ (IntKind.wrap .u8 (x6)) ∧ ((IntKind.wrap .u8 (x6)) : Int) < ((256 : Nat) : Int)) <|
  some (w64 (x7 + (w64 ((strAt str1 (IntKind.wrap .u8 (x6)))))))

def f86 (F : Nat) (x1 : Int) : Option Int :=
  Option.bind (f103 F x1) fun x2 =>
  some x2

def f94_p5_1 (F : Nat) (x1 : Nat) (x2 : Nat) (x3 : Int) (x4 : Int) (x18 : Int) : Nat → Int → (List Int) → Option (List Int)
  | 0, _, _ => none
  | k + 1, x24, x23 =>
    if (decide (x24 > x3)) = true then
      req ((0 : Int) ≤ x24 ∧ (x24 : Int) < ((x2 : Nat) : Int)) <|
      Option.bind ((x23)[(x1 + (Int.toNat x24))]?) fun x25 =>
      req ((0 : Int) ≤ (w64 (x24 - 1)) ∧ ((w64 (x24 - 1)) : Int) < ((x2 : Nat) : Int)) <|
      Option.bind ((x23)[(x1 + (Int.toNat (w64 (x24 - 1))))]?) fun x26 =>
      Option.bind (f83 F x25 x26) fun x27 =>
      if x27 = true then
        req ((x1 + (Int.toNat x24)) < List.length x23) <|
        req ((x1 + (Int.toNat (w64 (x24 - 1)))) < List.length (List.set x23 (x1 + (Int.toNat x24)) x26)) <|
        f94_p5_1 F x1 x2 x3 x4 x18 k (w64 (x24 - 1)) (List.set (List.set x23 (x1 + (Int.toNat x24)) x26) (x1 + (Int.toNat (w64 (x24 - 1)))) x25)
      else
        some x23
    else
      some x23
def f94_p1 (F : Nat) (x1 : Nat) (x2 : Nat) (x3 : Int) (x4 : Int) : Nat → Int → (List Int) → Option (List Int)
  | 0, _, _ => none
  | k + 1, x18, x17 =>
    if (decide (x18 < x4)) = true then
      Option.bind (f94_p5_1 F x1 x2 x3 x4 x18 F x18 x17) fun x28 =>
      f94_p1 F x1 x2 x3 x4 k (w64 (x18 + 1)) x28
    else
      some x17
def f94 (F : Nat) (x1 : Nat) (x2 : Nat) (x3 : Int) (x4 : Int) (x5 : List Int) : Option (List Int) :=
  Option.bind (f94_p1 F x1 x2 x3 x4 F (w64 (x3 + 1)) x5) fun x29 =>
  some x29

def f85_p5_1 (F : Nat) (x1 : Nat) (x2 : Nat) (x14 : Int) (x15 : Int) (x16 : Int) (x17 : Bool) (x18 : Bool) (x13 : List Int) : Option Unit :=
  if x17 = true then
    some ()
  else
    none
def f85_p1 (F : Nat) (x1 : Nat) (x2 : Nat) : Nat → Int → Int → Int → Bool → Bool → (List Int) → Option (List Int)
  | 0, _, _, _, _, _, _ => none
  | k + 1, x14, x15, x16, x17, x18, x13 =>
    if (decide ((w64 (x15 - x14)) ≤ 12)) = true then
      Option.bind (f94 F x1 x2 x14 x15 x13) fun x19 =>
      some x19
    else
    if (x16 == 0) = true then
      none
    else
      Option.bind (f85_p5_1 F x1 x2 x14 x15 x16 x17 x18 x13) fun _ =>
      none
def f85 (F : Nat) (x1 : Nat) (x2 : Nat) (x3 : Int) (x4 : Int) (x5 : Int) (x6 : List Int) : Option (List Int) :=
  Option.bind (f85_p1 F x1 x2 F x3 x4 x5 true true x6) fun x20 =>
  some x20

def f55 (F : Nat) (x1 : Nat) (x2 : Nat) (x3 : List Int) : Option (List Int) :=
  Option.bind (f86 F (IntKind.wrap .u64 (((x2 : Nat) : Int)))) fun x4 =>
  Option.bind (f85 F x1 x2 0 ((x2 : Nat) : Int) x4 x3) fun x5 =>
  some x5

def f94_1_p5_1 (F : Nat) (x1 : Nat) (x2 : Nat) (x3 : Int) (x4 : Int) (x18 : Int) : Nat → Int → (List Int) → Option (List Int)
  | 0, _, _ => none
  | k + 1, x24, x23 =>
    if (decide (x24 > x3)) = true then
      req ((0 : Int) ≤ x24 ∧ (x24 : Int) < ((x2 : Nat) : Int)) <|
      Option.bind ((x23)[(x1 + (Int.toNat x24))]?) fun x25 =>
      req ((0 : Int) ≤ (w64 (x24 - 1)) ∧ ((w64 (x24 - 1)) : Int) < ((x2 : Nat) : Int)) <|
      Option.bind ((x23)[(x1 + (Int.toNat (w64 (x24 - 1))))]?) fun x26 =>
      Option.bind (f83 F x25 x26) fun x27 =>
      if x27 = true then
        req ((x1 + (Int.toNat x24)) < List.length x23) <|
        req ((x1 + (Int.toNat (w64 (x24 - 1)))) < List.length (List.set x23 (x1 + (Int.toNat x24)) x26)) <|
        f94_1_p5_1 F x1 x2 x3 x4 x18 k (w64 (x24 - 1)) (List.set (List.set x23 (x1 + (Int.toNat x24)) x26) (x1 + (Int.toNat (w64 (x24 - 1)))) x25)
      else
        some x23
    else
      some x23
def f94_1_p1 (F : Nat) (x1 : Nat) (x2 : Nat) (x3 : Int) (x4 : Int) : Nat → Int → (List Int) → Option (List Int)
  | 0, _, _ => none
  | k + 1, x18, x17 =>
    if (decide (x18 < x4)) = true then
      Option.bind (f94_1_p5_1 F x1 x2 x3 x4 x18 F x18 x17) fun x28 =>
      f94_1_p1 F x1 x2 x3 x4 k (w64 (x18 + 1)) x28
    else
      some x17
def f94_1 (F : Nat) (x1 : Nat) (x2 : Nat) (x3 : Int) (x4 : Int) (x5 : List Int) : Option (List Int) :=
  Option.bind (f94_1_p1 F x1 x2 x3 x4 F (w64 (x3 + 1)) x5) fun x29 =>
  some x29

def f85_1_p5_1 (F : Nat) (x1 : Nat) (x2 : Nat) (x14 : Int) (x15 : Int) (x16 : Int) (x17 : Bool) (x18 : Bool) (x13 : List Int) : Option Unit :=
  if x17 = true then
    some ()
  else
    none
def f85_1_p1 (F : Nat) (x1 : Nat) (x2 : Nat) : Nat → Int → Int → Int → Bool → Bool → (List Int) → Option (List Int)
  | 0, _, _, _, _, _, _ => none
  | k + 1, x14, x15, x16, x17, x18, x13 =>
    if (decide ((w64 (x15 - x14)) ≤ 12)) = true then
      Option.bind (f94_1 F x1 x2 x14 x15 x13) fun x19 =>
      some x19
    else
    if (x16 == 0) = true then
      none
    else
      Option.bind (f85_1_p5_1 F x1 x2 x14 x15 x16 x17 x18 x13) fun _ =>
      none
def f85_1 (F : Nat) (x1 : Nat) (x2 : Nat) (x3 : Int) (x4 : Int) (x5 : Int) (x6 : List Int) : Option (List Int) :=
  Option.bind (f85_1_p1 F x1 x2 F x3 x4 x5 true true x6) fun x20 =>
  some x20

def f55_1 (F : Nat) (x1 : Nat) (x2 : Nat) (x3 : List Int) : Option (List Int) :=
  Option.bind (f86 F (IntKind.wrap .u64 (((x2 : Nat) : Int)))) fun x4 =>
  Option.bind (f85_1 F x1 x2 0 ((x2 : Nat) : Int) x4 x3) fun x5 =>
  some x5

def f17_2_p5_1 (F : Nat) (x7 : List Int) (x8 : Int) (x3 : List Int) (x9 : Int) : Option (List Int) :=
  if (x9 == 0) = true then
    req (List.length x7 + List.length ([x8] : List Int) ≤ 1099511627776) <|
    some (x7 ++ ([x8] : List Int))
  else
    some x7
def f17_2_p2 (F : Nat) (x3 : List Int) : Nat → Int → (List Int) → Option (List Int)
  | 0, _, _ => none
  | k + 1, x8, x7 =>
    if (decide (x8 < ((List.length x3 : Nat) : Int))) = true then
      Option.bind (at? x3 x8) fun x9 =>
      Option.bind (f17_2_p5_1 F x7 x8 x3 x9) fun x10 =>
      f17_2_p2 F x3 k (w64 (x8 + 1)) x10
    else
      some x7
def f17_2 (F : Nat) (x1 : Int) (x2 : List Int) : Option (Int × (List Int)) :=
  Option.bind (f59 F x1 x2) fun (x3, x4) =>
  if (x4 != 0) = true then
    some (x4, ([] : List Int))
  else
    Option.bind (f17_2_p2 F x3 F 0 ([] : List Int)) fun x11 =>
    some (0, x11)

def f17_3_p5_1 (F : Nat) (x7 : List Int) (x8 : Int) (x3 : List Int) (x9 : Int) : Option (List Int) :=
  if (x9 == 0) = true then
    req (List.length x7 + List.length ([x8] : List Int) ≤ 1099511627776) <|
    some (x7 ++ ([x8] : List Int))
  else
    some x7
def f17_3_p2 (F : Nat) (x3 : List Int) : Nat → Int → (List Int) → Option (List Int)
  | 0, _, _ => none
  | k + 1, x8, x7 =>
    if (decide (x8 < ((List.length x3 : Nat) : Int))) = true then
      Option.bind (at? x3 x8) fun x9 =>
      Option.bind (f17_3_p5_1 F x7 x8 x3 x9) fun x10 =>
      f17_3_p2 F x3 k (w64 (x8 + 1)) x10
    else
      some x7
def f17_3 (F : Nat) (x1 : Int) (x2 : List Int) : Option (Int × (List Int)) :=
  Option.bind (f59 F x1 x2) fun (x3, x4) =>
  if (x4 != 0) = true then
    some (x4, ([] : List Int))
  else
    Option.bind (f17_3_p2 F x3 F 0 ([] : List Int)) fun x11 =>
    some (0, x11)

def f56 (F : Nat) (x1 : List Int) : Option (List Int) :=
  req (x1 ≠ []) <|
  req (List.length ([] : List Int) + List.length x1 ≤ 1099511627776) <|
  some (([] : List Int) ++ x1)

def f57_1_p0 (F : Nat) (x1 : List Int) (x2 : Int) : Option Unit :=
  if (decide (x2 < 0)) = true then
    none
  else
    some ()
def f57_1_p1 (F : Nat) (x1 : List Int) (x4 : Int) : Option Unit :=
  if (decide (x4 > 9223372036854775807)) = true then
    none
  else
    some ()
def f57_1_p3 (F : Nat) (x4 : Int) : Nat → Int → (List Int) → Option (List Int)
  | 0, _, _ => none
  | k + 1, x7, x6 =>
    if (decide (x7 < (((Int.toNat (w64 (x4))) : Nat) : Int))) = true then
      req ((0 : Int) ≤ x7 ∧ (x7 : Int) ≤ (((Int.toNat (w64 (x4))) : Nat) : Int) ∧ ((((Int.toNat (w64 (x4))) : Nat) : Int) : Int) ≤ (((Int.toNat (w64 (x4))) : Nat) : Int) ∧ 0 < (Int.toNat (w64 (x4)))) <|
      req ((0 : Int) ≤ 0 ∧ (0 : Int) ≤ x7 ∧ (x7 : Int) ≤ (((Int.toNat (w64 (x4))) : Nat) : Int) ∧ 0 < (Int.toNat (w64 (x4)))) <|
      req ((0 + (Int.toNat x7)) ≤ List.length x6) <|
      req (((0 + (Int.toNat x7)) + ((Int.toNat (w64 (x4))) - (Int.toNat x7))) ≤ List.length x6) <|
      f57_1_p3 F x4 k (w64 (x7 + (((Nat.min (List.length (List.drop 0 (List.take (0 + (Int.toNat x7)) x6))) ((Int.toNat (w64 (x4))) - (Int.toNat x7))) : Nat) : Int))) (List.take (0 + (Int.toNat x7)) x6 ++ List.take (Nat.min (List.length (List.drop 0 (List.take (0 + (Int.toNat x7)) x6))) ((Int.toNat (w64 (x4))) - (Int.toNat x7))) (List.drop 0 (List.take (0 + (Int.toNat x7)) x6)) ++ List.drop ((0 + (Int.toNat x7)) + (Nat.min (List.length (List.drop 0 (List.take (0 + (Int.toNat x7)) x6))) ((Int.toNat (w64 (x4))) - (Int.toNat x7)))) x6)
    else
      some x6
def f57_1 (F : Nat) (x1 : List Int) (x2 : Int) : Option (List Int) :=
  Option.bind (f57_1_p0 F x1 x2) fun _ =>
  Option.bind (f87 F (IntKind.wrap .u64 (((List.length x1 : Nat) : Int))) (IntKind.wrap .u64 (x2))) fun (x3, x4) =>
  if (decide (x3 > 0)) = true then
    none
  else
    Option.bind (f57_1_p1 F x1 x4) fun _ =>
    req ((0 : Int) ≤ (w64 (x4)) ∧ ((w64 (x4)) : Int) ≤ (w64 (x4)) ∧ ((w64 (x4)) : Int) ≤ 1099511627776) <|
    req ((0 + (Int.toNat (w64 (x4)))) ≤ List.length (List.replicate (Int.toNat (w64 (x4))) (0 : Int))) <|
    Option.bind (f57_1_p3 F x4 F (((Nat.min (List.length x1) (Int.toNat (w64 (x4)))) : Nat) : Int) (List.take 0 (List.replicate (Int.toNat (w64 (x4))) (0 : Int)) ++ List.take (Nat.min (List.length x1) (Int.toNat (w64 (x4)))) x1 ++ List.drop (0 + (Nat.min (List.length x1) (Int.toNat (w64 (x4))))) (List.replicate (Int.toNat (w64 (x4))) (0 : Int)))) fun x8 =>
    req ((0 + (Int.toNat (w64 (x4)))) ≤ List.length x8) <|
    some (List.drop 0 (List.take (0 + (Int.toNat (w64 (x4)))) x8))

def f13_p5_2 (F : Nat) (x4 : Int) (x5 : Int) (x7 : List Int) (x19 : List Int) (x20 : List Int) (x22 : Int) (x21 : Int) (x6 : List (List Int)) : Nat → Int → Int → Option Int
  | 0, _, _ => none
  | k + 1, x23, x24 =>
    if (decide (x24 < x5)) = true then
      req ((0 : Int) ≤ x24) <|
      req ((x5 : Int) ≠ 0) <|
      req ((0 : Int) ≤ (Int.tmod (w64 (x24 + (w64 (x4)))) x5)) <|
      f13_p5_2 F x4 x5 x7 x19 x20 x22 x21 x6 k (iOr .i64 x23 (iShl .i64 (iAnd .i64 (iShr .i64 x22 x24) 1) (Int.tmod (w64 (x24 + (w64 (x4)))) x5))) (w64 (x24 + 1))
    else
      some x23
def f13_p1 (F : Nat) (x4 : Int) (x5 : Int) (x7 : List Int) (x6 : List (List Int)) : Nat → Int → (List Int) → (List Int) → Option ((List Int) × (List Int))
  | 0, _, _, _ => none
  | k + 1, x21, x19, x20 =>
    if (decide (x21 < ((List.length x7 : Nat) : Int))) = true then
      Option.bind (at? x7 x21) fun x22 =>
      Option.bind (f13_p5_2 F x4 x5 x7 x19 x20 x22 x21 x6 F 0 0) fun x25 =>
      req (List.length x19 + List.length ([x25] : List Int) ≤ 1099511627776) <|
      req (List.length x20 + List.length ([(iXor .i64 x22 (Int.tmod (w64 (x4)) (iShl .i64 1 x5)))] : List Int) ≤ 1099511627776) <|
      f13_p1 F x4 x5 x7 x6 k (w64 (x21 + 1)) (x19 ++ ([x25] : List Int)) (x20 ++ ([(iXor .i64 x22 (Int.tmod (w64 (x4)) (iShl .i64 1 x5)))] : List Int))
    else
      some (x19, x20)
def f13_p17_7 (F : Nat) (x5 : Int) (x4 : Int) (x91 : Int) (x94 : (List Int)) (x101 : Int) (x103 : Int) (x6 : List (List Int)) (x92 : Int) (x89 : List (List Int)) (x93 : Int) (x90 : List (List Int)) (x100 : List Int) : Option Int :=
  if ((iAnd .i64 (iShr .i64 (Int.tmod (w64 (x4)) (iShl .i64 1 x5)) x91) 1) == 1) = true then
    some (w64 (1 - x103))
  else
    some x103
def f13_p14_3 (F : Nat) (x5 : Int) (x4 : Int) (x91 : Int) (x94 : (List Int)) (x6 : List (List Int)) (x92 : Int) (x89 : List (List Int)) (x93 : Int) (x90 : List (List Int)) : Nat → Int → (List Int) → Option (List Int)
  | 0, _, _ => none
  | k + 1, x101, x100 =>
    if (decide (x101 < (iShl .i64 1 x5))) = true then
      Option.bind (f41 F x5 x101 x91) fun x102 =>
      Option.bind (at? x94 x102) fun x103 =>
      if (decide (x103 < 2)) = true then
        req ((0 : Int) ≤ x91) <|
        Option.bind (f13_p17_7 F x5 x4 x91 x94 x101 x103 x6 x92 x89 x93 x90 x100) fun x104 =>
        Option.bind (f41 F x5 (iXor .i64 x101 (Int.tmod (w64 (x4)) (iShl .i64 1 x5))) x91) fun x105 =>
        req ((0 : Int) ≤ x105 ∧ (x105 : Int) < (((Int.toNat ((List.length x94 : Nat) : Int)) : Nat) : Int)) <|
        req ((0 + (Int.toNat x105)) < List.length x100) <|
        f13_p14_3 F x5 x4 x91 x94 x6 x92 x89 x93 x90 k (w64 (x101 + 1)) (List.set x100 (0 + (Int.toNat x105)) x104)
      else
        Option.bind (f41 F x5 (iXor .i64 x101 (Int.tmod (w64 (x4)) (iShl .i64 1 x5))) x91) fun x106 =>
        req ((0 : Int) ≤ x106 ∧ (x106 : Int) < (((Int.toNat ((List.length x94 : Nat) : Int)) : Nat) : Int)) <|
        req ((0 + (Int.toNat x106)) < List.length x100) <|
        f13_p14_3 F x5 x4 x91 x94 x6 x92 x89 x93 x90 k (w64 (x101 + 1)) (List.set x100 (0 + (Int.toNat x106)) x103)
    else
      some x100
def f13_p10 (F : Nat) (x5 : Int) (x4 : Int) (x6 : List (List Int)) : Nat → Int → Int → Int → (List (List Int)) → (List (List Int)) → Option (Int × Int × (List (List Int)) × (List (List Int)))
  | 0, _, _, _, _, _ => none
  | k + 1, x91, x92, x93, x89, x90 =>
    if (decide (x91 < ((List.length x6 : Nat) : Int))) = true then
      Option.bind (at? x6 x91) fun x94 =>
      req ((0 : Int) ≤ ((List.length x94 : Nat) : Int) ∧ (((List.length x94 : Nat) : Int) : Int) ≤ ((List.length x94 : Nat) : Int) ∧ (((List.length x94 : Nat) : Int) : Int) ≤ 1099511627776) <|
      req ((0 : Int) ≤ x5) <|
      Option.bind (f13_p14_3 F x5 x4 x91 x94 x6 x92 x89 x93 x90 F 0 (List.replicate (Int.toNat ((List.length x94 : Nat) : Int)) (0 : Int))) fun x107 =>
      req ((0 + (Int.toNat ((List.length x94 : Nat) : Int))) ≤ List.length x107) <|
      req (List.length x89 + List.length ([(List.drop 0 (List.take (0 + (Int.toNat ((List.length x94 : Nat) : Int))) x107))] : List (List Int)) ≤ 1099511627776) <|
      Option.bind (f56 F x94) fun x108 =>
      req (List.length x108 + List.length x94 ≤ 1099511627776) <|
      req (List.length x90 + List.length ([(x108 ++ x94)] : List (List Int)) ≤ 1099511627776) <|
      f13_p10 F x5 x4 x6 k (w64 (x91 + 1)) x92 x93 (x89 ++ ([(List.drop 0 (List.take (0 + (Int.toNat ((List.length x94 : Nat) : Int))) x107))] : List (List Int))) (x90 ++ ([(x108 ++ x94)] : List (List Int)))
    else
      some (x92, x93, x89, x90)
def f13 (F : Nat) (x1 : Int) (x2 : List Int) (x3 : Int) (x4 : Int) : Option Bool :=
  Option.bind (f31 F x1 x2 3) fun (x5, x6) =>
  req ((0 : Int) ≤ x5) <|
  req ((0 : Int) ≤ (iShl .u64 1 x5)) <|
  req (((iShl .i64 1 (iShl .u64 1 x5)) : Int) ≠ 0) <|
  Option.bind (f43 F (Int.tmod (w64 (x3)) (iShl .i64 1 (iShl .u64 1 x5)))) fun x7 =>
  req (((iShl .i64 1 x5) : Int) ≠ 0) <|
  Option.bind (f13_p1 F x4 x5 x7 x6 F 0 ([] : List Int) ([] : List Int)) fun (x26, x27) =>
  Option.bind (f55 F 0 (List.length x26) x26) fun x28 =>
  Option.bind (f55_1 F 0 (List.length x27) x27) fun x29 =>
  Option.bind (f17 F x5 x7) fun (x30, x31) =>
  Option.bind (f17_2 F x5 (List.drop 0 (List.take (0 + (List.length x26)) x28))) fun (x32, x33) =>
  req ((0 + (List.length x26)) ≤ List.length x28) <|
  Option.bind (f17_3 F x5 (List.drop 0 (List.take (0 + (List.length x27)) x29))) fun (x34, x35) =>
  req ((0 + (List.length x27)) ≤ List.length x29) <|
  if (x31 != 0) = true then
    none
  else
  if (x32 != 0) = true then
    none
  else
  if (x34 != 0) = true then
    none
  else
  if (((List.length x30 : Nat) : Int) != (((List.length x33) : Nat) : Int)) = true then
    none
  else
  if (((List.length x30 : Nat) : Int) != (((List.length x35) : Nat) : Int)) = true then
    none
  else
    Option.bind (f13_p10 F x5 x4 x6 F 0 x5 (w64 (x5 + 1)) ([] : List (List Int)) ([] : List (List Int))) fun (x109, x110, x111, x112) =>
    Option.bind (f57_1 F ([2] : List Int) (iShl .i64 1 x5)) fun x113 =>
    req (List.length x112 + List.length ([x113] : List (List Int)) ≤ 1099511627776) <|
    Option.bind (f32 F x5 x6) fun (x114, x115) =>
    Option.bind (f32 F x109 (List.drop 0 (List.take (0 + (List.length x111)) x111))) fun (x116, x117) =>
    Option.bind (f32 F x110 (List.drop 0 (List.take (0 + (List.length (x112 ++ ([x113] : List (List Int))))) (x112 ++ ([x113] : List (List Int)))))) fun (x118, x119) =>
    if (x115 == 0) = true then
      if (x117 == 0) = true then
        if (x119 == 0) = true then
          if (((List.length x114 : Nat) : Int) == ((List.length x116 : Nat) : Int)) = true then
            if (((List.length x118 : Nat) : Int) == (w64 (2 * ((List.length x114 : Nat) : Int)))) = true then
              Option.bind (f14 F) fun x120 =>
              some x120
            else
              none
          else
            none
        else
          none
      else
        none
    else
      none

end Go.Gh.Hat
