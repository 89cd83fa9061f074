/- Near3N0: printed by wip/tool/gx.py -/
import Derived.Test.YtcaphjiiaclndaaGhPl
namespace Go.Gh.Near
set_option linter.unusedVariables false
set_option linter.unusedSimpArgs false

abbrev Mm : Type := List ((Int × (Int × (Int × Unit))) × (Int × (Int × Unit)))
def str0 : ByteArray := ⟨#[0, 1, 2, 2, 3, 3, 3, 3, 4, 4, 4, 4, 4, 4, 4, 4, 5, 5, 5, 5, 5, 5, 5, 5, 5, 5, 5, 5, 5, 5, 5, 5, 6, 6, 6, 6, 6, 6, 6, 6, 6, 6, 6, 6, 6, 6, 6, 6, 6, 6, 6, 6, 6, 6, 6, 6, 6, 6, 6, 6, 6, 6, 6, 6, 7, 7, 7, 7, 7, 7, 7, 7, 7, 7, 7, 7, 7, 7, 7, 7, 7, 7, 7, 7, 7, 7, 7, 7, 7, 7, 7, 7, 7, 7, 7, 7, 7, 7, 7, 7, 7, 7, 7, 7, 7, 7, 7, 7, 7, 7, 7, 7, 7, 7, 7, 7, 7, 7, 7, 7, 7, 7, 7, 7, 7, 7, 7, 7, 8, 8, 8, 8, 8, 8, 8, 8, 8, 8, 8, 8, 8, 8, 8, 8, 8, 8, 8, 8, 8, 8, 8, 8, 8, 8, 8, 8, 8, 8, 8, 8, 8, 8, 8, 8, 8, 8, 8, 8, 8, 8, 8, 8, 8, 8, 8, 8, 8, 8, 8, 8, 8, 8, 8, 8, 8, 8, 8, 8, 8, 8, 8, 8, 8, 8, 8, 8, 8, 8, 8, 8, 8, 8, 8, 8, 8, 8, 8, 8, 8, 8, 8, 8, 8, 8, 8, 8, 8, 8, 8, 8, 8, 8, 8, 8, 8, 8, 8, 8, 8, 8, 8, 8, 8, 8, 8, 8, 8, 8, 8, 8, 8, 8, 8, 8, 8, 8, 8, 8, 8, 8, 8, 8, 8, 8, 8, 8]⟩
def str1 : ByteArray := ⟨#[8, 0, 1, 0, 2, 0, 1, 0, 3, 0, 1, 0, 2, 0, 1, 0, 4, 0, 1, 0, 2, 0, 1, 0, 3, 0, 1, 0, 2, 0, 1, 0, 5, 0, 1, 0, 2, 0, 1, 0, 3, 0, 1, 0, 2, 0, 1, 0, 4, 0, 1, 0, 2, 0, 1, 0, 3, 0, 1, 0, 2, 0, 1, 0, 6, 0, 1, 0, 2, 0, 1, 0, 3, 0, 1, 0, 2, 0, 1, 0, 4, 0, 1, 0, 2, 0, 1, 0, 3, 0, 1, 0, 2, 0, 1, 0, 5, 0, 1, 0, 2, 0, 1, 0, 3, 0, 1, 0, 2, 0, 1, 0, 4, 0, 1, 0, 2, 0, 1, 0, 3, 0, 1, 0, 2, 0, 1, 0, 7, 0, 1, 0, 2, 0, 1, 0, 3, 0, 1, 0, 2, 0, 1, 0, 4, 0, 1, 0, 2, 0, 1, 0, 3, 0, 1, 0, 2, 0, 1, 0, 5, 0, 1, 0, 2, 0, 1, 0, 3, 0, 1, 0, 2, 0, 1, 0, 4, 0, 1, 0, 2, 0, 1, 0, 3, 0, 1, 0, 2, 0, 1, 0, 6, 0, 1, 0, 2, 0, 1, 0, 3, 0, 1, 0, 2, 0, 1, 0, 4, 0, 1, 0, 2, 0, 1, 0, 3, 0, 1, 0, 2, 0, 1, 0, 5, 0, 1, 0, 2, 0, 1, 0, 3, 0, 1, 0, 2, 0, 1, 0, 4, 0, 1, 0, 2, 0, 1, 0, 3, 0, 1, 0, 2, 0, 1, 0]⟩
def f13_p1 (F : Nat) (x2 x1 : Int) : Nat → Int → Int → (List Bool) → Option (Int × (List Bool))
  | 0, _, _, _ => none
  | k + 1, x4, x5, x6 =>
    if (decide (x4 < x1)) = true then
      req ((0 : Int) ≤ x4) <|
      req ((0 : Int) ≤ x4 ∧ (x4 : Int) < ((16 : Nat) : Int)) <|
      req ((0 + ((Int.toNat x4) * 1)) < 16) <|
      f13_p1 F x2 x1 k (w64 (x4 + 1)) x5 (List.set x6 (0 + ((Int.toNat x4) * 1)) ((iAnd .i64 (iShr .i64 (iXor .i64 x2 (iShr .i64 x2 1)) x4) 1) == 1))
    else
      some (x5, x6)
def f13 (F : Nat) (x1 x2 : Int) : Option (Int × (List Bool)) :=
  Option.bind (f13_p1 F x2 x1 F 0 x1 (List.replicate 16 false)) fun (x7, x8) =>
  some (x7, x8)

def f14_p4_1 (F : Nat) (x1 x7 : Int) (x8 : Bool) (x2 : List Bool) (x6 : List Int) : Option (List Int) :=
  if x8 = true then
    req ((0 : Int) ≤ x7 ∧ (x7 : Int) < (((Int.toNat x1) : Nat) : Int)) <|
    req ((0 + (Int.toNat x7)) < List.length x6) <|
    some (List.set x6 (0 + (Int.toNat x7)) 1)
  else
    some x6
def f14_p1 (F : Nat) (x1 : Int) (x2 : List Bool) : Nat → Int → (List Int) → Option (List Int)
  | 0, _, _ => none
  | k + 1, x7, x6 =>
    if (decide (x7 < (((Int.toNat x1) : Nat) : Int))) = true then
      req ((0 : Int) ≤ x7 ∧ (x7 : Int) < ((16 : Nat) : Int)) <|
      Option.bind ((x2)[(0 + ((Int.toNat x7) * 1))]?) fun x8 =>
      Option.bind (f14_p4_1 F x1 x7 x8 x2 x6) fun x9 =>
      f14_p1 F x1 x2 k (w64 (x7 + 1)) x9
    else
      some x6
def f14 (F : Nat) (x1 : Int) (x2 : List Bool) : Option (List Int) :=
  req ((0 : Int) ≤ x1 ∧ (x1 : Int) ≤ x1 ∧ (x1 : Int) ≤ 1099511627776) <|
  Option.bind (f14_p1 F x1 x2 F 0 (List.replicate (Int.toNat x1) (0 : Int))) fun x10 =>
  req ((0 + (Int.toNat x1)) ≤ List.length x10) <|
  some (List.drop 0 (List.take (0 + (Int.toNat x1)) x10))

def f4 (F : Nat) (x1 x2 : Int) : Option ((List Int) × Int) :=
  if (decide (x1 < 1)) = true then
    some (([] : List Int), 1)
  else
  if (decide (x1 > 16)) = true then
    some (([] : List Int), 1)
  else
  if (decide (x2 < 0)) = true then
    some (([] : List Int), 1)
  else
    req ((0 : Int) ≤ x1) <|
    if (decide ((iShr .i64 x2 x1) > 0)) = true then
      some (([] : List Int), 1)
    else
      Option.bind (f13 F x1 x2) fun (x3, x4) =>
      Option.bind (f14 F x3 x4) fun x5 =>
      some (x5, 0)

def f34_p8_2 (F : Nat) (x10 x15 : Int) (x1 : List Int) (x11 : Int) (x12 : List Bool) (x13 : Int) (x14 : List Bool) : Option Bool :=
  if (x15 == 0) = true then
    some (x15 == 0)
  else
    some (x15 == 1)
inductive f34_p4_R where
  | c0
  | c1 (a0 : Int) (a1 : List Bool) (a2 : Int) (a3 : List Bool)
def f34_p4 (F : Nat) (x1 : List Int) : Nat → Int → Int → (List Bool) → Int → (List Bool) → Option f34_p4_R
  | 0, _, _, _, _, _ => none
  | k + 1, x10, x11, x12, x13, x14 =>
    if (decide (x10 < ((List.length x1 : Nat) : Int))) = true then
      Option.bind (at? x1 x10) fun x15 =>
      Option.bind (f34_p8_2 F x10 x15 x1 x11 x12 x13 x14) fun x16 =>
      if x16 = true then
        req ((0 : Int) ≤ x10 ∧ (x10 : Int) < ((16 : Nat) : Int)) <|
        req ((0 + ((Int.toNat x10) * 1)) < 16) <|
        f34_p4 F x1 k (w64 (x10 + 1)) x11 x12 x13 (List.set x14 (0 + ((Int.toNat x10) * 1)) (x15 == 1))
      else
        some .c0
    else
      some (.c1 x11 x12 x13 x14)
def f34 (F : Nat) (x1 : List Int) : Option (Int × (List Bool) × Int) :=
  if (((List.length x1 : Nat) : Int) == 0) = true then
    some (0, (List.replicate 16 false), 4)
  else
  if (decide (((List.length x1 : Nat) : Int) > 16)) = true then
    some (0, (List.replicate 16 false), 3)
  else
    Option.bind (f34_p4 F x1 F 0 0 (List.replicate 16 false) ((List.length x1 : Nat) : Int) (List.replicate 16 false)) fun
    | .c0 =>
      some (0, (List.replicate 16 false), 1)
    | .c1 x17 x18 x19 x20 =>
      some (x19, x20, 0)

def f35_p4 (F : Nat) (x3 x4 : Int) (x2 : List Bool) : Option Int :=
  if ((x2)[(Int.toNat x4)]?.getD false) = true then
    req ((0 : Int) ≤ x4) <|
    some (iOr .i64 x3 (iShl .i64 1 x4))
  else
    some x3
def f35_p1 (F : Nat) (x2 : List Bool) : Nat → Int → Int → Option Int
  | 0, _, _ => none
  | k + 1, x3, x4 =>
    if (decide (x4 < 16)) = true then
      req ((0 : Int) ≤ x4 ∧ (x4 : Int) < ((16 : Nat) : Int)) <|
      Option.bind (f35_p4 F x3 x4 x2) fun x5 =>
      f35_p1 F x2 k x5 (w64 (x4 + 1))
    else
      some x3
def f35_p6 (F : Nat) : Nat → Int → Int → Option Int
  | 0, _, _ => none
  | k + 1, x7, x8 =>
    if (decide (x8 < 16)) = true then
      req ((0 : Int) ≤ x8) <|
      f35_p6 F k (iXor .i64 x7 (iShr .i64 x7 x8)) (w64 (x8 * 2))
    else
      some x7
def f35 (F : Nat) (x1 : Int) (x2 : List Bool) : Option Int :=
  Option.bind (f35_p1 F x2 F 0 0) fun x6 =>
  Option.bind (f35_p6 F F x6 1) fun x9 =>
  some x9

def f15 (F : Nat) (x1 x2 : List Int) : Option (Int × Int × Int × Int) :=
  Option.bind (f34 F x1) fun (x3, x4, x5) =>
  if (x5 != 0) = true then
    some (0, 0, 0, x5)
  else
    Option.bind (f34 F x2) fun (x6, x7, x8) =>
    if (x8 != 0) = true then
      some (0, 0, 0, x8)
    else
    if (x3 != x6) = true then
      some (0, 0, 0, 5)
    else
      Option.bind (f35 F x3 x4) fun x9 =>
      Option.bind (f35 F x6 x7) fun x10 =>
      some (x3, x9, x10, 0)

def f16 (F : Nat) (x1 x2 x3 : Int) : Option Int :=
  some (if (w64 (x3 - x2)) > (w64 (x2 - x3)) then (w64 (x3 - x2)) else (w64 (x2 - x3)))

def f5 (F : Nat) (x1 x2 : List Int) : Option (Int × Int) :=
  Option.bind (f15 F x1 x2) fun (x3, x4, x5, x6) =>
  if (x6 != 0) = true then
    some (0, x6)
  else
    Option.bind (f16 F x3 x4 x5) fun x7 =>
    some (x7, 0)

def f20 (F : Nat) (x1 x2 x3 : Int) : Option Bool :=
  if (decide (x1 ≤ x2)) = true then
    some (decide (x2 ≤ x3))
  else
    some false

def f61 (F : Nat) (x1 : Int) : Option Bool :=
  Option.bind (f20 F 0 x1 99) fun x2 =>
  some (!x2)

inductive f68_p1_R where
  | c0 (a0 : Int)
  | c1
def f68_p1 (F : Nat) (x1 : List Int) : Nat → Int → Option f68_p1_R
  | 0, _ => none
  | k + 1, x2 =>
    if (decide (x2 < ((List.length x1 : Nat) : Int))) = true then
      Option.bind (at? x1 x2) fun x3 =>
      Option.bind (f61 F x3) fun x4 =>
      if x4 = true then
        some (.c0 x2)
      else
        f68_p1 F x1 k (w64 (x2 + 1))
    else
      some .c1
def f68 (F : Nat) (x1 : List Int) : Option Int :=
  Option.bind (f68_p1 F x1 F 0) fun
  | .c0 x5 =>
    some x5
  | .c1 =>
    some (-1)

def f60 (F : Nat) (x1 : List Int) : Option Bool :=
  Option.bind (f68 F x1) fun x2 =>
  some (decide (x2 ≥ 0))

def f49 (F : Nat) (x1 : List Int) (x2 : Int) : Option Int :=
  if (((List.length x1 : Nat) : Int) != x2) = true then
    some 5
  else
    Option.bind (f60 F x1) fun x3 =>
    if x3 = true then
      some 1
    else
      some 0

inductive f36_p4_R where
  | c0 (a0 : Int)
  | c1
def f36_p4 (F : Nat) (x1 : List (List Int)) : Nat → Int → Option f36_p4_R
  | 0, _ => none
  | k + 1, x3 =>
    if (decide (x3 < ((List.length x1 : Nat) : Int))) = true then
      Option.bind (at? x1 x3) fun x4 =>
      Option.bind (at? x1 0) fun x5 =>
      Option.bind (f49 F x4 ((List.length x5 : Nat) : Int)) fun x6 =>
      if (x6 != 0) = true then
        some (.c0 x6)
      else
        f36_p4 F x1 k (w64 (x3 + 1))
    else
      some .c1
def f36 (F : Nat) (x1 : List (List Int)) : Option Int :=
  if (((List.length x1 : Nat) : Int) == 0) = true then
    some 4
  else
  if (decide (((List.length x1 : Nat) : Int) > 5)) = true then
    some 3
  else
    Option.bind (at? x1 0) fun x2 =>
    if (decide (((List.length x2 : Nat) : Int) > 5)) = true then
      some 3
    else
      Option.bind (f36_p4 F x1 F 0) fun
      | .c0 x7 =>
        some x7
      | .c1 =>
        some 0

inductive f17_R where
  | c0 (a0 : Int)
  | c1 (a0 : Int) (a1 : Mm) (a2 : List (List Int)) (a3 : Int)
def f17 (F : Nat) (x1 : List (List Int)) : Option f17_R :=
  Option.bind (f36 F x1) fun x2 =>
  if (x2 != 0) = true then
    some (.c0 x2)
  else
    Option.bind (at? x1 0) fun x3 =>
    some (.c1 0 ([] : Mm) x1 ((List.length x3 : Nat) : Int))

inductive f19_R where
def f19 (F : Nat) : Option f19_R :=
  none

inductive f18_R where
def f18 (F : Nat) : Option f18_R :=
  Option.bind (f19 F) fun _ => none

def f19_1 (F : Nat) (x1 : Mm) (x2 : List (List Int)) (x3 : Int) : Option Int :=
  req ((0 : Int) ≤ x3) <|
  some (IntKind.wrap .u8 ((iShl .u8 1 x3) - 1))

def f21 (F : Nat) (x1 x2 : Int) : Option (Int × Bool) :=
  if (decide (x2 < 0)) = true then
    some (x1, true)
  else
    req ((0 : Int) ≤ x2) <|
    some ((iAndNot .u8 x1 (iShl .u8 1 x2)), ((iAnd .u8 (iShr .u8 x1 x2) 1) == 1))

def f22 (F : Nat) (x1 x2 : Int) (x3 : Mm) (x4 : List (List Int)) (x5 : Int) : Option Int :=
  if (decide (x2 < 0)) = true then
    some 0
  else
    Option.bind (at? x4 x1) fun x6 =>
    Option.bind (at? x6 x2) fun x7 =>
    some x7

def f37_p9_1 (F : Nat) (x17 x23 : Int) (x26 x19 : Int) (x25 : Mm) (x5 : List (List Int)) (x6 x1 : Int) (x2 x3 : Int) (x20 x24 : Int) : Option Int :=
  if ((w64 (x23 + x26)) == x19) = true then
    some (w64 (x20 + x24))
  else
    some x20
def f37_p8_1 (F : Nat) (x17 x23 : Int) (x26 x19 : Int) (x25 : Mm) (x5 : List (List Int)) (x6 x1 : Int) (x2 x3 : Int) (x20 x24 : Int) : Option (Int × Int) :=
  if (decide ((w64 (x23 + x26)) > x19)) = true then
    some ((w64 (x23 + x26)), x24)
  else
    Option.bind (f37_p9_1 F x17 x23 x26 x19 x25 x5 x6 x1 x2 x3 x20 x24) fun x27 =>
    some (x19, x27)
def f37_p9_2 (F : Nat) (x17 x30 : Int) (x33 x19 : Int) (x32 : Mm) (x5 : List (List Int)) (x6 x1 : Int) (x2 x3 : Int) (x20 x31 : Int) : Option Int :=
  if ((w64 (x30 + x33)) == x19) = true then
    some (w64 (x20 + x31))
  else
    some x20
def f37_p8_2 (F : Nat) (x17 x30 : Int) (x33 x19 : Int) (x32 : Mm) (x5 : List (List Int)) (x6 x1 : Int) (x2 x3 : Int) (x20 x31 : Int) : Option (Int × Int) :=
  if (decide ((w64 (x30 + x33)) > x19)) = true then
    some ((w64 (x30 + x33)), x31)
  else
    Option.bind (f37_p9_2 F x17 x30 x33 x19 x32 x5 x6 x1 x2 x3 x20 x31) fun x34 =>
    some (x19, x34)
def f37_p3 (F : Nat) (rec : Int → Int → Int → Mm → (List (List Int)) → Int → Option (Int × Int × Mm)) (x5 : List (List Int)) (x6 x1 : Int) (x2 x3 : Int) : Nat → Int → Mm → Int → Int → Option (Mm × Int × Int)
  | 0, _, _, _, _ => none
  | k + 1, x17, x18, x19, x20 =>
    if (decide (x17 < x6)) = true then
      Option.bind (f21 F x3 x17) fun (x21, x22) =>
      if x22 = true then
        if (decide (x17 ≥ 0)) = true then
          if (x1 == x2) = true then
            f37_p3 F rec x5 x6 x1 x2 x3 k (w64 (x17 + 1)) x18 x19 x20
          else
            Option.bind (rec (w64 (x1 + 1)) x2 x21 x18 x5 x6) fun (x23, x24, x25) =>
            Option.bind (f22 F x1 x17 x25 x5 x6) fun x26 =>
            Option.bind (f37_p8_1 F x17 x23 x26 x19 x25 x5 x6 x1 x2 x3 x20 x24) fun (x28, x29) =>
            f37_p3 F rec x5 x6 x1 x2 x3 k (w64 (x17 + 1)) x25 x28 x29
        else
          Option.bind (rec (w64 (x1 + 1)) x2 x21 x18 x5 x6) fun (x30, x31, x32) =>
          Option.bind (f22 F x1 x17 x32 x5 x6) fun x33 =>
          Option.bind (f37_p8_2 F x17 x30 x33 x19 x32 x5 x6 x1 x2 x3 x20 x31) fun (x35, x36) =>
          f37_p3 F rec x5 x6 x1 x2 x3 k (w64 (x17 + 1)) x32 x35 x36
      else
        f37_p3 F rec x5 x6 x1 x2 x3 k (w64 (x17 + 1)) x18 x19 x20
    else
      some (x18, x19, x20)
def f37_b (F : Nat) (rec : Int → Int → Int → Mm → (List (List Int)) → Int → Option (Int × Int × Mm)) (x1 x2 x3 : Int) (x4 : Mm) (x5 : List (List Int)) (x6 : Int) : Option (Int × Int × Mm) :=
  if (x1 == ((List.length x5 : Nat) : Int)) = true then
    some (0, 1, x4)
  else
  if (Option.isSome (mget x4 (x1, (x2, (x3, ()))))) = true then
    some ((Option.getD (mget x4 (x1, (x2, (x3, ())))) (0, (0, ()))).1, (Option.getD (mget x4 (x1, (x2, (x3, ())))) (0, (0, ()))).2.1, x4)
  else
    Option.bind (f37_p3 F rec x5 x6 x1 x2 x3 F (-1) x4 (-1) 0) fun (x37, x38, x39) =>
    some (x38, x39, (mset x37 (x1, (x2, (x3, ()))) (x38, (x39, ()))))
def f37 (F : Nat) : Nat → Int → Int → Int → Mm → (List (List Int)) → Int → Option (Int × Int × Mm)
  | 0 => fun _ _ _ _ _ _ => none
  | k + 1 => f37_b F (f37 F k)

def f18_1_p5_2 (F : Nat) (x64 : Int) (x2 : List (List Int)) (x3 : Int) : Nat → Int → Int → Mm → (List Int) → Option (Int × Mm × (List Int))
  | 0, _, _, _, _ => none
  | k + 1, x79, x80, x81, x78 =>
    if (decide (x80 < x3)) = true then
      Option.bind (f21 F x79 x80) fun (x82, x83) =>
      if x83 = true then
        Option.bind (f37 F F (w64 (x64 + 1)) (-1) x82 x81 x2 x3) fun (x84, x85, x86) =>
        Option.bind (f22 F x64 x80 x86 x2 x3) fun x87 =>
        Option.bind (f37 F F x64 (-1) x79 x86 x2 x3) fun (x88, x89, x90) =>
        if ((w64 (x84 + x87)) == x88) = true then
          req (List.length x78 + List.length ([x80] : List Int) ≤ 1099511627776) <|
          some (x82, x90, (x78 ++ ([x80] : List Int)))
        else
          f18_1_p5_2 F x64 x2 x3 k x79 (w64 (x80 + 1)) x90 x78
      else
        f18_1_p5_2 F x64 x2 x3 k x79 (w64 (x80 + 1)) x81 x78
    else
      some (x79, x81, x78)
def f18_1_p1 (F : Nat) (x2 : List (List Int)) (x3 : Int) : Nat → Int → Int → Mm → (List Int) → Option (Mm × (List Int))
  | 0, _, _, _, _ => none
  | k + 1, x63, x64, x65, x62 =>
    if (decide (x64 < ((List.length x2 : Nat) : Int))) = true then
      Option.bind (f18_1_p5_2 F x64 x2 x3 F x63 (-1) x65 x62) fun (x91, x92, x93) =>
      f18_1_p1 F x2 x3 k x91 (w64 (x64 + 1)) x92 x93
    else
      some (x65, x62)
def f18_1 (F : Nat) (x1 : Mm) (x2 : List (List Int)) (x3 : Int) : Option ((List Int) × Mm) :=
  Option.bind (f19_1 F x1 x2 x3) fun x4 =>
  Option.bind (f18_1_p1 F x2 x3 F x4 0 x1 ([] : List Int)) fun (x94, x95) =>
  some ((List.drop 0 (List.take (0 + (List.length x95)) x95)), x94)

def f6_1 (F : Nat) (x1 : List (List Int)) : Option ((List Int) × Int) :=
  Option.bind (f17 F x1) fun
  | .c0 x2 =>
    if (x2 != 0) = true then
      some (([] : List Int), x2)
    else
      Option.bind (f18 F) fun _ => none
  | .c1 x3 x4 x5 x6 =>
    if (x3 != 0) = true then
      some (([] : List Int), x3)
    else
      Option.bind (f18_1 F x4 x5 x6) fun (x7, x8) =>
      some (x7, 0)

inductive f7_p4_R where
  | c0 (a0 : Int)
  | c1 (a0 : Int)
def f7_p4 (F : Nat) (x2 : List Int) (x5 : Mm) (x6 : List (List Int)) (x7 : Int) : Nat → Int → Int → Int → Option f7_p4_R
  | 0, _, _, _ => none
  | k + 1, x9, x10, x11 =>
    if (decide (x11 < ((List.length x2 : Nat) : Int))) = true then
      Option.bind (at? x2 x11) fun x12 =>
      Option.bind (f20 F (-1) x12 (w64 (x7 - 1))) fun x13 =>
      if x13 = true then
        Option.bind (f21 F x9 x12) fun (x14, x15) =>
        if x15 = true then
          Option.bind (f22 F x11 x12 x5 x6 x7) fun x16 =>
          f7_p4 F x2 x5 x6 x7 k x14 (w64 (x10 + x16)) (w64 (x11 + 1))
        else
          some (.c0 6)
      else
        some (.c0 2)
    else
      some (.c1 x10)
def f7 (F : Nat) (x1 : List (List Int)) (x2 : List Int) : Option (Int × Int) :=
  Option.bind (f17 F x1) fun
  | .c0 x3 =>
    if (x3 != 0) = true then
      some (0, x3)
    else
    if (((List.length x2 : Nat) : Int) != ((List.length x1 : Nat) : Int)) = true then
      some (0, 5)
    else
      Option.bind (f19 F) fun _ => none
  | .c1 x4 x5 x6 x7 =>
    if (x4 != 0) = true then
      some (0, x4)
    else
    if (((List.length x2 : Nat) : Int) != ((List.length x1 : Nat) : Int)) = true then
      some (0, 5)
    else
      Option.bind (f19_1 F x5 x6 x7) fun x8 =>
      Option.bind (f7_p4 F x2 x5 x6 x7 F x8 0 0) fun
      | .c0 x17 =>
        some (0, x17)
      | .c1 x18 =>
        some (x18, 0)

inductive f23_p1_R where
  | c0 (a0 : Int)
  | c1
def f23_p1 (F : Nat) (x1 : List Int) (x2 : Int) : Nat → Int → Option f23_p1_R
  | 0, _ => none
  | k + 1, x3 =>
    if (decide (x3 < ((List.length x1 : Nat) : Int))) = true then
      Option.bind (at? x1 x3) fun x4 =>
      if (x2 == x4) = true then
        some (.c0 x3)
      else
        f23_p1 F x1 x2 k (w64 (x3 + 1))
    else
      some .c1
def f23 (F : Nat) (x1 : List Int) (x2 : Int) : Option Int :=
  Option.bind (f23_p1 F x1 x2 F 0) fun
  | .c0 x5 =>
    some x5
  | .c1 =>
    some (-1)

def f8 (F : Nat) (x1 : List Int) (x2 : Int) : Option Bool :=
  Option.bind (f23 F x1 x2) fun x3 =>
  some (decide (x3 ≥ 0))

def f48_p0 (F : Nat) (x1 : Int) : Option (Int × Int) :=
  if (decide (x1 ≥ 4294967296)) = true then
    some ((iShr .u64 x1 32), 32)
  else
    some (x1, 0)
def f48_p1 (F : Nat) (x2 x3 : Int) : Option (Int × Int) :=
  if (decide (x2 ≥ 65536)) = true then
    some ((iShr .u64 x2 16), (w64 (x3 + 16)))
  else
    some (x2, x3)
def f48_p2 (F : Nat) (x4 x5 : Int) : Option (Int × Int) :=
  if (decide (x4 ≥ 256)) = true then
    some ((iShr .u64 x4 8), (w64 (x5 + 8)))
  else
    some (x4, x5)
def f48 (F : Nat) (x1 : Int) : Option Int :=
  Option.bind (f48_p0 F x1) fun (x2, x3) =>
  Option.bind (f48_p1 F x2 x3) fun (x4, x5) =>
  Option.bind (f48_p2 F x4 x5) fun (x6, x7) =>
  req ((0 : Int) ≤ (IntKind.wrap .u8 (x6)) ∧ ((IntKind.wrap .u8 (x6)) : Int) < ((256 : Nat) : Int)) <|
  some (w64 (x7 + (w64 ((strAt str0 (IntKind.wrap .u8 (x6)))))))

def f25 (F : Nat) (x1 : Int) : Option Int :=
  Option.bind (f48 F x1) fun x2 =>
  some x2

def f59 (F : Nat) (x1 : Int) : Option Bool :=
  some (x1 != x1)

def f44 (F : Nat) (x1 x2 : Int) : Option Bool :=
  Option.bind (f59 F x1) fun x3 =>
  if x3 = true then
    Option.bind (f59 F x2) fun x4 =>
    if x4 = true then
      some (decide (x1 < x2))
    else
      some true
  else
    some (decide (x1 < x2))

def f38_p5_2 (F : Nat) (x3 : List Int) (x1 x2 x38 : Int) : Nat → Int → (List Int) → Option (List Int)
  | 0, _, _ => none
  | k + 1, x44, x43 =>
    if (decide (x44 > x1)) = true then
      req ((0 : Int) ≤ x44 ∧ (x44 : Int) < (((List.length x3) : Nat) : Int)) <|
      Option.bind ((x43)[(0 + (Int.toNat x44))]?) fun x45 =>
      req ((0 : Int) ≤ (w64 (x44 - 1)) ∧ ((w64 (x44 - 1)) : Int) < (((List.length x3) : Nat) : Int)) <|
      Option.bind ((x43)[(0 + (Int.toNat (w64 (x44 - 1))))]?) fun x46 =>
      Option.bind (f44 F x45 x46) fun x47 =>
      if x47 = true then
        req ((0 + (Int.toNat x44)) < List.length x43) <|
        req ((0 + (Int.toNat (w64 (x44 - 1)))) < List.length (List.set x43 (0 + (Int.toNat x44)) x46)) <|
        f38_p5_2 F x3 x1 x2 x38 k (w64 (x44 - 1)) (List.set (List.set x43 (0 + (Int.toNat x44)) x46) (0 + (Int.toNat (w64 (x44 - 1)))) x45)
      else
        some x43
    else
      some x43
def f38_p1 (F : Nat) (x3 : List Int) (x1 x2 : Int) : Nat → Int → (List Int) → Option (List Int)
  | 0, _, _ => none
  | k + 1, x38, x37 =>
    if (decide (x38 < x2)) = true then
      Option.bind (f38_p5_2 F x3 x1 x2 x38 F x38 x37) fun x48 =>
      f38_p1 F x3 x1 x2 k (w64 (x38 + 1)) x48
    else
      some x37
def f38 (F : Nat) (x1 x2 : Int) (x3 : List Int) : Option (List Int) :=
  Option.bind (f38_p1 F x3 x1 x2 F (w64 (x1 + 1)) x3) fun x49 =>
  some x49

def f24_p5_1 (F : Nat) (x11 : List Int) (x12 x13 x14 : Int) (x15 x16 : Bool) : Option Unit :=
  if x15 = true then
    some ()
  else
    none
def f24_p1 (F : Nat) : Nat → Int → Int → Int → Bool → Bool → (List Int) → Option (List Int)
  | 0, _, _, _, _, _, _ => none
  | k + 1, x12, x13, x14, x15, x16, x11 =>
    if (decide ((w64 (x13 - x12)) ≤ 12)) = true then
      Option.bind (f38 F x12 x13 x11) fun x17 =>
      some x17
    else
    if (x14 == 0) = true then
      none
    else
      Option.bind (f24_p5_1 F x11 x12 x13 x14 x15 x16) fun _ =>
      none
def f24 (F : Nat) (x1 x2 x3 : Int) (x4 : List Int) : Option (List Int) :=
  Option.bind (f24_p1 F F x1 x2 x3 true true x4) fun x18 =>
  some x18

def f9 (F : Nat) (x1 : List Int) : Option (List Int) :=
  Option.bind (f25 F (IntKind.wrap .u64 ((((List.length x1) : Nat) : Int)))) fun x2 =>
  Option.bind (f24 F 0 (((List.length x1) : Nat) : Int) x2 x1) fun x3 =>
  some x3

def f38_1_p5_2 (F : Nat) (x3 : List Int) (x1 x2 x38 : Int) : Nat → Int → (List Int) → Option (List Int)
  | 0, _, _ => none
  | k + 1, x44, x43 =>
    if (decide (x44 > x1)) = true then
      req ((0 : Int) ≤ x44 ∧ (x44 : Int) < (((List.length x3) : Nat) : Int)) <|
      Option.bind ((x43)[(0 + (Int.toNat x44))]?) fun x45 =>
      req ((0 : Int) ≤ (w64 (x44 - 1)) ∧ ((w64 (x44 - 1)) : Int) < (((List.length x3) : Nat) : Int)) <|
      Option.bind ((x43)[(0 + (Int.toNat (w64 (x44 - 1))))]?) fun x46 =>
      Option.bind (f44 F x45 x46) fun x47 =>
      if x47 = true then
        req ((0 + (Int.toNat x44)) < List.length x43) <|
        req ((0 + (Int.toNat (w64 (x44 - 1)))) < List.length (List.set x43 (0 + (Int.toNat x44)) x46)) <|
        f38_1_p5_2 F x3 x1 x2 x38 k (w64 (x44 - 1)) (List.set (List.set x43 (0 + (Int.toNat x44)) x46) (0 + (Int.toNat (w64 (x44 - 1)))) x45)
      else
        some x43
    else
      some x43
def f38_1_p1 (F : Nat) (x3 : List Int) (x1 x2 : Int) : Nat → Int → (List Int) → Option (List Int)
  | 0, _, _ => none
  | k + 1, x38, x37 =>
    if (decide (x38 < x2)) = true then
      Option.bind (f38_1_p5_2 F x3 x1 x2 x38 F x38 x37) fun x48 =>
      f38_1_p1 F x3 x1 x2 k (w64 (x38 + 1)) x48
    else
      some x37
def f38_1 (F : Nat) (x1 x2 : Int) (x3 : List Int) : Option (List Int) :=
  Option.bind (f38_1_p1 F x3 x1 x2 F (w64 (x1 + 1)) x3) fun x49 =>
  some x49

def f24_1_p5_1 (F : Nat) (x11 : List Int) (x12 x13 x14 : Int) (x15 x16 : Bool) : Option Unit :=
  if x15 = true then
    some ()
  else
    none
def f24_1_p1 (F : Nat) : Nat → Int → Int → Int → Bool → Bool → (List Int) → Option (List Int)
  | 0, _, _, _, _, _, _ => none
  | k + 1, x12, x13, x14, x15, x16, x11 =>
    if (decide ((w64 (x13 - x12)) ≤ 12)) = true then
      Option.bind (f38_1 F x12 x13 x11) fun x17 =>
      some x17
    else
    if (x14 == 0) = true then
      none
    else
      Option.bind (f24_1_p5_1 F x11 x12 x13 x14 x15 x16) fun _ =>
      none
def f24_1 (F : Nat) (x1 x2 x3 : Int) (x4 : List Int) : Option (List Int) :=
  Option.bind (f24_1_p1 F F x1 x2 x3 true true x4) fun x18 =>
  some x18

def f9_1 (F : Nat) (x1 : List Int) : Option (List Int) :=
  Option.bind (f25 F (IntKind.wrap .u64 ((((List.length x1) : Nat) : Int)))) fun x2 =>
  Option.bind (f24_1 F 0 (((List.length x1) : Nat) : Int) x2 x1) fun x3 =>
  some x3

def f27 (F : Nat) (x1 x2 : Nat) (x3 : Int) (x4 : List Int) : Option (Bool × (List Int)) :=
  Option.bind ((x4)[x2]?) fun x5 =>
  Option.bind ((x4)[x1]?) fun x6 =>
  if (decide (x5 ≥ (w64 (x6 + x3)))) = true then
    some (false, x4)
  else
    req (x2 < List.length x4) <|
    some (true, (List.set x4 x2 (w64 (x6 + x3))))

def f27_1 (F : Nat) (x1 : Nat) (x2 : Int) (x3 : List Int) (x4 : Int) : Option (Bool × (List Int)) :=
  Option.bind ((x3)[x1]?) fun x5 =>
  if (decide (x5 ≥ (w64 (x4 + x2)))) = true then
    some (false, x3)
  else
    req (x1 < List.length x3) <|
    some (true, (List.set x3 x1 (w64 (x4 + x2))))

inductive f26_p8_3_R where
  | c0
  | c1
def f26_p8_3 (F : Nat) (x1 x2 : Nat) (x7 : List Int) (x101 : Bool) (x102 x103 : Int) (x8 : Mm) (x4 : List (List Int)) (x5 : Int) (x100 : List Int) : Option f26_p8_3_R :=
  if (decide (x103 ≥ 0)) = true then
    req ((0 : Int) ≤ x103 ∧ (x103 : Int) < ((x2 : Nat) : Int)) <|
    some .c0
  else
    some .c1
def f26_p13_9 (F : Nat) (x1 x2 : Nat) (x7 : List Int) (x113 : Bool) (x102 x103 x114 : Int) (x118 : Bool) (x8 : Mm) (x4 : List (List Int)) (x5 : Int) (x119 : List Int) : Option Bool :=
  if x118 = true then
    some true
  else
    some x113
def f26_p10_4 (F : Nat) (x1 x2 : Nat) (x7 : List Int) (x102 x103 : Int) (x8 : Mm) (x4 : List (List Int)) (x5 : Int) : Nat → Bool → Int → (List Int) → Option (Bool × (List Int))
  | 0, _, _, _ => none
  | k + 1, x113, x114, x112 =>
    if (decide (x114 < ((x2 : Nat) : Int))) = true then
      if (x114 != x103) = true then
        req ((0 : Int) ≤ x114 ∧ (x114 : Int) < ((x2 : Nat) : Int)) <|
        Option.bind (at? x4 x102) fun x115 =>
        Option.bind (at? x115 x114) fun x116 =>
        Option.bind (f22 F x102 x103 x8 x4 x5) fun x117 =>
        Option.bind (f27 F (x1 + (Int.toNat x103)) (x1 + (Int.toNat x114)) (w64 (x116 - x117)) x112) fun (x118, x119) =>
        Option.bind (f26_p13_9 F x1 x2 x7 x113 x102 x103 x114 x118 x8 x4 x5 x119) fun x120 =>
        f26_p10_4 F x1 x2 x7 x102 x103 x8 x4 x5 k x120 (w64 (x114 + 1)) x119
      else
        f26_p10_4 F x1 x2 x7 x102 x103 x8 x4 x5 k x113 (w64 (x114 + 1)) x112
    else
      some (x113, x112)
def f26_p13_11 (F : Nat) (x1 x2 : Nat) (x7 : List Int) (x132 : Bool) (x102 x103 x133 : Int) (x137 : Bool) (x8 : Mm) (x4 : List (List Int)) (x5 : Int) (x138 : List Int) : Option Bool :=
  if x137 = true then
    some true
  else
    some x132
def f26_p10_5 (F : Nat) (x1 x2 : Nat) (x7 : List Int) (x102 x103 : Int) (x8 : Mm) (x4 : List (List Int)) (x5 : Int) : Nat → Bool → Int → (List Int) → Option (Bool × (List Int))
  | 0, _, _, _ => none
  | k + 1, x132, x133, x131 =>
    if (decide (x133 < ((x2 : Nat) : Int))) = true then
      if (x133 != x103) = true then
        req ((0 : Int) ≤ x133 ∧ (x133 : Int) < ((x2 : Nat) : Int)) <|
        Option.bind (at? x4 x102) fun x134 =>
        Option.bind (at? x134 x133) fun x135 =>
        Option.bind (f22 F x102 x103 x8 x4 x5) fun x136 =>
        Option.bind (f27_1 F (x1 + (Int.toNat x133)) (w64 (x135 - x136)) x131 0) fun (x137, x138) =>
        Option.bind (f26_p13_11 F x1 x2 x7 x132 x102 x103 x133 x137 x8 x4 x5 x138) fun x139 =>
        f26_p10_5 F x1 x2 x7 x102 x103 x8 x4 x5 k x139 (w64 (x133 + 1)) x138
      else
        f26_p10_5 F x1 x2 x7 x102 x103 x8 x4 x5 k x132 (w64 (x133 + 1)) x131
    else
      some (x132, x131)
def f26_p5_1 (F : Nat) (x1 x2 : Nat) (x7 : List Int) (x8 : Mm) (x4 : List (List Int)) (x5 : Int) : Nat → Bool → Int → (List Int) → Option (Bool × (List Int))
  | 0, _, _, _ => none
  | k + 1, x101, x102, x100 =>
    if (decide (x102 < ((List.length x7 : Nat) : Int))) = true then
      Option.bind (at? x7 x102) fun x103 =>
      Option.bind (f26_p8_3 F x1 x2 x7 x101 x102 x103 x8 x4 x5 x100) fun
      | .c0 =>
        Option.bind (f26_p10_4 F x1 x2 x7 x102 x103 x8 x4 x5 F x101 0 x100) fun (x121, x122) =>
        f26_p5_1 F x1 x2 x7 x8 x4 x5 k x121 (w64 (x102 + 1)) x122
      | .c1 =>
        Option.bind (f26_p10_5 F x1 x2 x7 x102 x103 x8 x4 x5 F x101 0 x100) fun (x140, x141) =>
        f26_p5_1 F x1 x2 x7 x8 x4 x5 k x140 (w64 (x102 + 1)) x141
    else
      some (x101, x100)
def f26_p1_18 (F : Nat) (x1 x2 : Nat) (x7 : List Int) (x8 : Mm) (x4 : List (List Int)) (x5 : Int) : Nat → Bool → (List Int) → Option (List Int)
  | 0, _, _ => none
  | k + 1, x77, x76 =>
    if x77 = true then
      Option.bind (f26_p5_1 F x1 x2 x7 x8 x4 x5 F false 0 x76) fun (x142, x143) =>
      f26_p1_18 F x1 x2 x7 x8 x4 x5 k x142 x143
    else
      some x76
def f26 (F : Nat) (x1 x2 : Nat) (x3 : Mm) (x4 : List (List Int)) (x5 : Int) (x6 : List Int) : Option (Nat × Nat × Mm × (List Int)) :=
  Option.bind (f18_1 F x3 x4 x5) fun (x7, x8) =>
  Option.bind (f26_p1_18 F x1 x2 x7 x8 x4 x5 F true x6) fun x144 =>
  some (x1, x2, x8, x144)

def f10 (F : Nat) (x1 : List (List Int)) : Option ((List Int) × Int) :=
  Option.bind (f17 F x1) fun
  | .c0 x2 =>
    if (x2 != 0) = true then
      some (([] : List Int), x2)
    else
      none
  | .c1 x3 x4 x5 x6 =>
    if (x3 != 0) = true then
      some (([] : List Int), x3)
    else
      req ((0 : Int) ≤ x6 ∧ (x6 : Int) ≤ x6 ∧ (x6 : Int) ≤ 1099511627776) <|
      Option.bind (f26 F 0 (Int.toNat x6) x4 x5 x6 (List.replicate (Int.toNat x6) (0 : Int))) fun (x7, x8, x9, x10) =>
      req ((x7 + x8) ≤ List.length x10) <|
      some ((List.drop x7 (List.take (x7 + x8) x10)), 0)

def f28_p0 (F : Nat) (x2 : List Int) (x3 : Int) : Option Unit :=
  if (x3 == 0) = true then
    none
  else
    some ()
def f28_p0_1 (F : Nat) (x2 : List Int) (x4 : Int) (x5 : Mm) (x6 : List (List Int)) (x7 : Int) : Option Int :=
  if (x4 == 0) = true then
    Option.bind (f49 F x2 x7) fun x8 =>
    some x8
  else
    some x4
inductive f28_R where
  | c0 (a0 : Int)
  | c1 (a0 : Int) (a1 : Mm) (a2 : List (List Int)) (a3 : Int)
def f28 (F : Nat) (x1 : List (List Int)) (x2 : List Int) : Option f28_R :=
  Option.bind (f17 F x1) fun
  | .c0 x3 =>
    Option.bind (f28_p0 F x2 x3) fun _ =>
    some (.c0 x3)
  | .c1 x4 x5 x6 x7 =>
    Option.bind (f28_p0_1 F x2 x4 x5 x6 x7) fun x9 =>
    some (.c1 x9 x5 x6 x7)

def f29_p1 (F : Nat) (x2 : Int) (x1 : List Int) : Nat → Int → Int → Int → Option (Int × Int)
  | 0, _, _, _ => none
  | k + 1, x3, x4, x5 =>
    if (decide (x5 < ((List.length x1 : Nat) : Int))) = true then
      Option.bind (at? x1 x5) fun x6 =>
      none
    else
      some (x3, x4)
def f29 (F : Nat) (x1 : List Int) (x2 : Int) : Option (Int × Bool) :=
  Option.bind (f29_p1 F x2 x1 F 0 0 0) fun (x7, x8) =>
  some (x8, (x7 == 0))

def f29_1_p6 (F : Nat) (x2 x6 : Int) (x7 x8 : Int) (x1 : List Int) (x11 x9 : Int) (x3 : Mm) (x4 : List (List Int)) (x5 : Int) : Option Int :=
  if ((w64 (x11 - x9)) == x6) = true then
    req ((0 : Int) ≤ x8) <|
    some (iOr .u8 x7 (iShl .u8 1 x8))
  else
    some x7
def f29_1_p5 (F : Nat) (x2 x6 : Int) (x7 x8 : Int) (x11 x9 : Int) (x1 : List Int) (x3 : Mm) (x4 : List (List Int)) (x5 : Int) : Option (Int × Int) :=
  if (decide ((w64 (x11 - x9)) > x6)) = true then
    req ((0 : Int) ≤ x8) <|
    some ((w64 (x11 - x9)), (iShl .u8 1 x8))
  else
    Option.bind (f29_1_p6 F x2 x6 x7 x8 x1 x11 x9 x3 x4 x5) fun x12 =>
    some (x6, x12)
def f29_1_p1 (F : Nat) (x2 : Int) (x1 : List Int) (x3 : Mm) (x4 : List (List Int)) (x5 : Int) : Nat → Int → Int → Int → Option (Int × Int)
  | 0, _, _, _ => none
  | k + 1, x6, x7, x8 =>
    if (decide (x8 < ((List.length x1 : Nat) : Int))) = true then
      Option.bind (at? x1 x8) fun x9 =>
      Option.bind (at? x4 x2) fun x10 =>
      Option.bind (at? x10 x8) fun x11 =>
      Option.bind (f29_1_p5 F x2 x6 x7 x8 x11 x9 x1 x3 x4 x5) fun (x13, x14) =>
      f29_1_p1 F x2 x1 x3 x4 x5 k x13 x14 (w64 (x8 + 1))
    else
      some (x6, x7)
def f29_1 (F : Nat) (x1 : List Int) (x2 : Int) (x3 : Mm) (x4 : List (List Int)) (x5 : Int) : Option (Int × Bool) :=
  Option.bind (f29_1_p1 F x2 x1 x3 x4 x5 F 0 0 0) fun (x15, x16) =>
  some (x16, (x15 == 0))

def f11_p0 (F : Nat) (x1 : List (List Int)) (x2 x3 : List Int) (x4 : Int) : Option Int :=
  if (x4 == 0) = true then
    Option.bind (f7 F x1 x3) fun (x5, x6) =>
    some x6
  else
    some x4
inductive f11_p3_R where
  | c0
  | c1
def f11_p3 (F : Nat) (x2 x3 : List Int) : Nat → Int → Option f11_p3_R
  | 0, _ => none
  | k + 1, x8 =>
    if (decide (x8 < ((List.length x3 : Nat) : Int))) = true then
      Option.bind (at? x3 x8) fun x9 =>
      Option.bind (f29 F x2 x8) fun (x10, x11) =>
      if (decide (x9 < 0)) = true then
        if x11 = true then
          if (decide (x9 ≥ 0)) = true then
            req ((0 : Int) ≤ x9) <|
            if ((iAnd .u8 (iShr .u8 x10 x9) 1) == 0) = true then
              some .c0
            else
              f11_p3 F x2 x3 k (w64 (x8 + 1))
          else
            f11_p3 F x2 x3 k (w64 (x8 + 1))
        else
          some .c0
      else
      if (decide (x9 ≥ 0)) = true then
        req ((0 : Int) ≤ x9) <|
        if ((iAnd .u8 (iShr .u8 x10 x9) 1) == 0) = true then
          some .c0
        else
          f11_p3 F x2 x3 k (w64 (x8 + 1))
      else
        f11_p3 F x2 x3 k (w64 (x8 + 1))
    else
      some .c1
inductive f11_p8_R where
  | c0
  | c1
def f11_p8 (F : Nat) (x3 x2 : List Int) : Nat → Int → Option f11_p8_R
  | 0, _ => none
  | k + 1, x12 =>
    if (decide (x12 < ((List.length x2 : Nat) : Int))) = true then
      Option.bind (at? x2 x12) fun x13 =>
      if (decide (x13 > 0)) = true then
        Option.bind (f8 F x3 x12) fun x14 =>
        if x14 = true then
          f11_p8 F x3 x2 k (w64 (x12 + 1))
        else
          some .c0
      else
        f11_p8 F x3 x2 k (w64 (x12 + 1))
    else
      some .c1
def f11_p0_1 (F : Nat) (x1 : List (List Int)) (x2 x3 : List Int) (x15 : Int) (x16 : Mm) (x17 : List (List Int)) (x18 : Int) : Option Int :=
  if (x15 == 0) = true then
    Option.bind (f7 F x1 x3) fun (x19, x20) =>
    some x20
  else
    some x15
inductive f11_p3_1_R where
  | c0
  | c1
def f11_p3_1 (F : Nat) (x2 x3 : List Int) (x16 : Mm) (x17 : List (List Int)) (x18 : Int) : Nat → Int → Option f11_p3_1_R
  | 0, _ => none
  | k + 1, x22 =>
    if (decide (x22 < ((List.length x3 : Nat) : Int))) = true then
      Option.bind (at? x3 x22) fun x23 =>
      Option.bind (f29_1 F x2 x22 x16 x17 x18) fun (x24, x25) =>
      if (decide (x23 < 0)) = true then
        if x25 = true then
          if (decide (x23 ≥ 0)) = true then
            req ((0 : Int) ≤ x23) <|
            if ((iAnd .u8 (iShr .u8 x24 x23) 1) == 0) = true then
              some .c0
            else
              f11_p3_1 F x2 x3 x16 x17 x18 k (w64 (x22 + 1))
          else
            f11_p3_1 F x2 x3 x16 x17 x18 k (w64 (x22 + 1))
        else
          some .c0
      else
      if (decide (x23 ≥ 0)) = true then
        req ((0 : Int) ≤ x23) <|
        if ((iAnd .u8 (iShr .u8 x24 x23) 1) == 0) = true then
          some .c0
        else
          f11_p3_1 F x2 x3 x16 x17 x18 k (w64 (x22 + 1))
      else
        f11_p3_1 F x2 x3 x16 x17 x18 k (w64 (x22 + 1))
    else
      some .c1
inductive f11_p8_1_R where
  | c0
  | c1
def f11_p8_1 (F : Nat) (x3 x2 : List Int) : Nat → Int → Option f11_p8_1_R
  | 0, _ => none
  | k + 1, x26 =>
    if (decide (x26 < ((List.length x2 : Nat) : Int))) = true then
      Option.bind (at? x2 x26) fun x27 =>
      if (decide (x27 > 0)) = true then
        Option.bind (f8 F x3 x26) fun x28 =>
        if x28 = true then
          f11_p8_1 F x3 x2 k (w64 (x26 + 1))
        else
          some .c0
      else
        f11_p8_1 F x3 x2 k (w64 (x26 + 1))
    else
      some .c1
def f11 (F : Nat) (x1 : List (List Int)) (x2 x3 : List Int) : Option Int :=
  Option.bind (f28 F x1 x2) fun
  | .c0 x4 =>
    Option.bind (f11_p0 F x1 x2 x3 x4) fun x7 =>
    if (x7 != 0) = true then
      some x7
    else
      Option.bind (f11_p3 F x2 x3 F 0) fun
      | .c0 =>
        some 14
      | .c1 =>
        Option.bind (f11_p8 F x3 x2 F 0) fun
        | .c0 =>
          some 14
        | .c1 =>
          some 0
  | .c1 x15 x16 x17 x18 =>
    Option.bind (f11_p0_1 F x1 x2 x3 x15 x16 x17 x18) fun x21 =>
    if (x21 != 0) = true then
      some x21
    else
      Option.bind (f11_p3_1 F x2 x3 x16 x17 x18 F 0) fun
      | .c0 =>
        some 14
      | .c1 =>
        Option.bind (f11_p8_1 F x3 x2 F 0) fun
        | .c0 =>
          some 14
        | .c1 =>
          some 0

def f51 (F : Nat) (x1 x2 : Int) (x3 : Mm) (x4 : List (List Int)) (x5 : Int) : Option (Int × Mm) :=
  Option.bind (f19_1 F x3 x4 x5) fun x6 =>
  Option.bind (f37 F F 0 (-1) x6 x3 x4 x5) fun (x7, x8, x9) =>
  Option.bind (f22 F x1 x2 x9 x4 x5) fun x10 =>
  Option.bind (f19_1 F x9 x4 x5) fun x11 =>
  Option.bind (f37 F F 0 x1 x11 x9 x4 x5) fun (x12, x13, x14) =>
  some ((w64 (x12 - (w64 (x7 - x10)))), x14)

def f50_p2 (F : Nat) (x7 : List Int) (x5 : List (List Int)) (x6 : Int) : Nat → Int → Mm → (List Int) → Option (List Int)
  | 0, _, _, _ => none
  | k + 1, x19, x20, x18 =>
    if (decide (x19 < ((List.length x7 : Nat) : Int))) = true then
      Option.bind (at? x7 x19) fun x21 =>
      Option.bind (f51 F x19 x21 x20 x5 x6) fun (x22, x23) =>
      req (List.length x18 + List.length ([x22] : List Int) ≤ 1099511627776) <|
      f50_p2 F x7 x5 x6 k (w64 (x19 + 1)) x23 (x18 ++ ([x22] : List Int))
    else
      some x18
def f50 (F : Nat) (x1 : List (List Int)) : Option ((List Int) × Int) :=
  Option.bind (f17 F x1) fun
  | .c0 x2 =>
    if (x2 != 0) = true then
      some (([] : List Int), x2)
    else
      Option.bind (f18 F) fun _ => none
  | .c1 x3 x4 x5 x6 =>
    if (x3 != 0) = true then
      some (([] : List Int), x3)
    else
      Option.bind (f18_1 F x4 x5 x6) fun (x7, x8) =>
      Option.bind (f50_p2 F x7 x5 x6 F 0 x8 ([] : List Int)) fun x24 =>
      some ((List.drop 0 (List.take (0 + (List.length x24)) x24)), 0)

def f30 (F : Nat) (x1 : List (List Int)) : Option ((List Int) × Int) :=
  Option.bind (f50 F x1) fun (x2, x3) =>
  some (x2, x3)

def f32 (F : Nat) (x1 : List Int) : Option (List Int) :=
  some x1

inductive f31_p2_R where
  | c0
  | c1
def f31_p2 (F : Nat) (x1 x2 : List Int) : Nat → Int → Option f31_p2_R
  | 0, _ => none
  | k + 1, x3 =>
    if (decide (x3 < ((List.length x1 : Nat) : Int))) = true then
      Option.bind (at? x1 x3) fun x4 =>
      Option.bind (at? x2 x3) fun x5 =>
      if (x4 != x5) = true then
        some .c0
      else
        f31_p2 F x1 x2 k (w64 (x3 + 1))
    else
      some .c1
def f31 (F : Nat) (x1 x2 : List Int) : Option Bool :=
  if (((List.length x1 : Nat) : Int) != ((List.length x2 : Nat) : Int)) = true then
    some false
  else
    Option.bind (f31_p2 F x1 x2 F 0) fun
    | .c0 =>
      some false
    | .c1 =>
      some true

def f64 (F : Nat) (x1 x2 x3 : Int) : Option Bool :=
  if (decide (x1 ≤ x2)) = true then
    some (decide (x2 ≤ x3))
  else
    some false

def f70_p0 (F : Nat) (x1 : Int) (x2 : Bool) : Option Int :=
  if x2 = true then
    some (w64 (x1 + 1))
  else
    some x1
def f70 (F : Nat) (x1 : Int) (x2 : Bool) : Option Int :=
  Option.bind (f70_p0 F x1 x2) fun x3 =>
  some x3

def f63 (F : Nat) (x1 x2 : Int) (x3 : Bool) (x4 x5 : List Int) : Option Int :=
  req ((0 : Int) ≤ x1 ∧ (x1 : Int) < ((9 : Nat) : Int)) <|
  Option.bind ((x5)[(0 + ((Int.toNat x1) * 1))]?) fun x6 =>
  Option.bind (f70 F x1 x3) fun x7 =>
  some (w64 (x6 + x7))

def f69_p4 (F : Nat) (x1 : Int) (x2 : Bool) (x3 : List Int) : Nat → Int → Int → Bool → (List Int) → (List Int) → Option (Int × Bool × (List Int) × (List Int))
  | 0, _, _, _, _, _ => none
  | k + 1, x6, x7, x8, x9, x10 =>
    if (decide (x6 < 9)) = true then
      req ((0 : Int) ≤ x6 ∧ (x6 : Int) < ((9 : Nat) : Int)) <|
      req ((0 + ((Int.toNat x6) * 1)) < 9) <|
      f69_p4 F x1 x2 x3 k (w64 (x6 + 1)) x7 x8 x9 (List.set x10 (0 + ((Int.toNat x6) * 1)) (-1))
    else
      some (x7, x8, x9, x10)
def f69_p12_1 (F : Nat) (x21 x28 : Int) (x3 : List Int) (x31 x1 : Int) (x2 : Bool) (x22 : Int) (x23 : Bool) (x24 x25 x26 : List Int) (x30 : Int) (x27 : List Int) : Option (List Int) :=
  if (x31 == 1) = true then
    req ((0 : Int) ≤ x28 ∧ (x28 : Int) < ((9 : Nat) : Int)) <|
    req ((0 + ((Int.toNat x28) * 1)) < 9) <|
    some (List.set x25 (0 + ((Int.toNat x28) * 1)) x21)
  else
    some x25
inductive f69_p8_R where
  | c0
  | c1 (a0 : Int) (a1 : Bool) (a2 : List Int) (a3 : List Int) (a4 : List Int) (a5 : List Int)
def f69_p8 (F : Nat) (x3 : List Int) (x1 : Int) (x2 : Bool) : Nat → Int → Int → Bool → (List Int) → (List Int) → (List Int) → (List Int) → Option f69_p8_R
  | 0, _, _, _, _, _, _, _ => none
  | k + 1, x21, x22, x23, x24, x25, x26, x27 =>
    if (decide (x21 < ((List.length x3 : Nat) : Int))) = true then
      Option.bind (at? x3 x21) fun x28 =>
      Option.bind (f64 F 0 x28 x1) fun x29 =>
      if x29 = true then
        req ((0 : Int) ≤ x28 ∧ (x28 : Int) < ((9 : Nat) : Int)) <|
        Option.bind ((x26)[(0 + ((Int.toNat x28) * 1))]?) fun x30 =>
        req ((0 + ((Int.toNat x28) * 1)) < 9) <|
        Option.bind (((List.set x26 (0 + ((Int.toNat x28) * 1)) (w64 (x30 + 1))))[(0 + ((Int.toNat x28) * 1))]?) fun x31 =>
        Option.bind (f69_p12_1 F x21 x28 x3 x31 x1 x2 x22 x23 x24 x25 x26 x30 x27) fun x32 =>
        req ((0 : Int) ≤ x21 ∧ (x21 : Int) < ((16 : Nat) : Int)) <|
        req ((0 + ((Int.toNat x21) * 1)) < 16) <|
        f69_p8 F x3 x1 x2 k (w64 (x21 + 1)) x22 x23 (List.set x24 (0 + ((Int.toNat x21) * 1)) x28) x32 (List.set x26 (0 + ((Int.toNat x28) * 1)) (w64 (x30 + 1))) (List.set x27 (0 + ((Int.toNat x28) * 1)) x21)
      else
        some .c0
    else
      some (.c1 x22 x23 x24 x25 x26 x27)
inductive f69_p14_R where
  | c0 (a0 : Int)
  | c1
def f69_p14 (F : Nat) (x1 : Int) (x2 : Bool) (x3 : List Int) (x33 : Int) (x34 : Bool) (x35 x36 : List Int) (x37 x38 : List Int) : Nat → Int → Option f69_p14_R
  | 0, _ => none
  | k + 1, x39 =>
    if (decide (x39 ≤ x1)) = true then
      req ((0 : Int) ≤ x39 ∧ (x39 : Int) < ((9 : Nat) : Int)) <|
      Option.bind ((x37)[(0 + ((Int.toNat x39) * 1))]?) fun x40 =>
      if (decide (x40 > 2)) = true then
        some (.c0 3)
      else
      if (x40 == 1) = true then
        some (.c0 21)
      else
      if (x40 == 2) = true then
        Option.bind ((x38)[(0 + ((Int.toNat x39) * 1))]?) fun x41 =>
        Option.bind (f63 F x39 x33 x34 x35 x36) fun x42 =>
        if (x41 != x42) = true then
          some (.c0 13)
        else
          f69_p14 F x1 x2 x3 x33 x34 x35 x36 x37 x38 k (w64 (x39 + 1))
      else
        f69_p14 F x1 x2 x3 x33 x34 x35 x36 x37 x38 k (w64 (x39 + 1))
    else
      some .c1
inductive f69_R where
  | c0 (a0 : Int)
  | c1 (a0 : Int) (a1 : Int) (a2 : Bool) (a3 : List Int) (a4 : List Int)
def f69 (F : Nat) (x1 : Int) (x2 : Bool) (x3 : List Int) : Option f69_R :=
  Option.bind (f64 F 1 x1 8) fun x4 =>
  if x4 = true then
    if (((List.length x3 : Nat) : Int) != (w64 (2 * x1))) = true then
      some (.c0 5)
    else
      Option.bind (f69_p4 F x1 x2 x3 F 0 x1 x2 (List.replicate 16 0) (List.replicate 9 0)) fun (x11, x12, x13, x14) =>
      Option.bind (f69_p8 F x3 x1 x2 F 0 x11 x12 x13 x14 (List.replicate 9 0) (List.replicate 9 0)) fun
      | .c0 =>
        some (.c0 2)
      | .c1 x33 x34 x35 x36 x37 x38 =>
        Option.bind (f69_p14 F x1 x2 x3 x33 x34 x35 x36 x37 x38 F 1) fun
        | .c0 x43 =>
          some (.c0 x43)
        | .c1 =>
          some (.c1 0 x33 x34 x35 x36)
  else
    some (.c0 1)

inductive f62_R where
  | c0 (a0 : Int)
  | c1 (a0 : Int) (a1 : Int) (a2 : Bool) (a3 : List Int) (a4 : List Int)
def f62 (F : Nat) (x1 : Int) (x2 : Bool) (x3 : List Int) (x4 : Int) : Option f62_R :=
  Option.bind (f69 F x1 x2 x3) fun
  | .c0 x5 =>
    if (x5 != 0) = true then
      some (.c0 x5)
    else
      none
  | .c1 x6 x7 x8 x9 x10 =>
    if (x6 != 0) = true then
      some (.c0 x6)
    else
      Option.bind (f64 F 1 x4 x7) fun x11 =>
      if x11 = true then
        req ((0 : Int) ≤ x4 ∧ (x4 : Int) < ((9 : Nat) : Int)) <|
        Option.bind ((x10)[(0 + ((Int.toNat x4) * 1))]?) fun x12 =>
        if (decide (x12 < 0)) = true then
          some (.c0 12)
        else
          some (.c1 0 x7 x8 x9 x10)
      else
        some (.c0 2)

def f52_p6_1 (F : Nat) (x4 x11 x12 : Int) (x18 : List Int) (x19 : Int) (x22 x23 : Bool) (x7 : Int) (x8 : Bool) (x9 x10 : List Int) : Option (List Int) :=
  if (x22 == x23) = true then
    some x18
  else
    req (List.length x18 + List.length ([x19] : List Int) ≤ 1099511627776) <|
    some (x18 ++ ([x19] : List Int))
def f52_p2 (F : Nat) (x4 x11 : Int) (x12 x7 : Int) (x8 : Bool) (x9 x10 : List Int) : Nat → Int → (List Int) → Option (List Int)
  | 0, _, _ => none
  | k + 1, x19, x18 =>
    if (decide (x19 ≤ x7)) = true then
      req ((0 : Int) ≤ x19 ∧ (x19 : Int) < ((9 : Nat) : Int)) <|
      Option.bind ((x10)[(0 + ((Int.toNat x19) * 1))]?) fun x20 =>
      if (decide (x20 < 0)) = true then
        f52_p2 F x4 x11 x12 x7 x8 x9 x10 k (w64 (x19 + 1)) x18
      else
      if (x19 == x4) = true then
        f52_p2 F x4 x11 x12 x7 x8 x9 x10 k (w64 (x19 + 1)) x18
      else
        Option.bind (f63 F x19 x7 x8 x9 x10) fun x21 =>
        Option.bind (f64 F x11 x20 x12) fun x22 =>
        Option.bind (f64 F x11 x21 x12) fun x23 =>
        Option.bind (f52_p6_1 F x4 x11 x12 x18 x19 x22 x23 x7 x8 x9 x10) fun x24 =>
        f52_p2 F x4 x11 x12 x7 x8 x9 x10 k (w64 (x19 + 1)) x24
    else
      some x18
def f52 (F : Nat) (x1 : Int) (x2 : Bool) (x3 : List Int) (x4 : Int) : Option ((List Int) × Int) :=
  Option.bind (f62 F x1 x2 x3 x4) fun
  | .c0 x5 =>
    if (x5 != 0) = true then
      some (([] : List Int), x5)
    else
      none
  | .c1 x6 x7 x8 x9 x10 =>
    if (x6 != 0) = true then
      some (([] : List Int), x6)
    else
      req ((0 : Int) ≤ x4 ∧ (x4 : Int) < ((9 : Nat) : Int)) <|
      Option.bind ((x10)[(0 + ((Int.toNat x4) * 1))]?) fun x11 =>
      Option.bind (f63 F x4 x7 x8 x9 x10) fun x12 =>
      Option.bind (f52_p2 F x4 x11 x12 x7 x8 x9 x10 F 1 ([] : List Int)) fun x25 =>
      some ((List.drop 0 (List.take (0 + (List.length x25)) x25)), 0)

def f78 (F : Nat) (x1 x2 x3 : Int) : Option Bool :=
  if (decide (x1 ≥ x2)) = true then
    some (decide (x1 ≤ x3))
  else
    some false

inductive f84_p4_R where
  | c0 (a0 : Int)
  | c1
def f84_p4 (F : Nat) (x1 : List Int) : Nat → Int → Int → Option f84_p4_R
  | 0, _, _ => none
  | k + 1, x2, x3 =>
    if (decide (x3 < ((List.length x1 : Nat) : Int))) = true then
      Option.bind (at? x1 x3) fun x4 =>
      Option.bind (f78 F x4 1 30) fun x5 =>
      if x5 = true then
        if (decide (x4 ≤ x2)) = true then
          some (.c0 7)
        else
          f84_p4 F x1 k x4 (w64 (x3 + 1))
      else
        some (.c0 1)
    else
      some .c1
def f84 (F : Nat) (x1 : List Int) : Option Int :=
  if (((List.length x1 : Nat) : Int) == 0) = true then
    some 4
  else
  if (decide (((List.length x1 : Nat) : Int) > 5)) = true then
    some 3
  else
    Option.bind (f84_p4 F x1 F 0 0) fun
    | .c0 x6 =>
      some x6
    | .c1 =>
      some 0

def f85_p0 (F : Nat) (x1 : List Int) : Option Unit :=
  if (decide (((List.length x1 : Nat) : Int) < 1)) = true then
    none
  else
    some ()
def f85_p2 (F : Nat) (x1 : List Int) : Nat → Int → Int → Option Int
  | 0, _, _ => none
  | k + 1, x3, x4 =>
    if (decide (x4 < ((List.length x1 : Nat) : Int))) = true then
      Option.bind (at? x1 x4) fun x5 =>
      f85_p2 F x1 k (if x5 < x3 then x5 else x3) (w64 (x4 + 1))
    else
      some x3
def f85 (F : Nat) (x1 : List Int) : Option Int :=
  Option.bind (f85_p0 F x1) fun _ =>
  Option.bind (at? x1 0) fun x2 =>
  Option.bind (f85_p2 F x1 F x2 1) fun x6 =>
  some x6

def f86_p0 (F : Nat) (x1 : List Int) : Option Unit :=
  if (decide (((List.length x1 : Nat) : Int) < 1)) = true then
    none
  else
    some ()
def f86_p2 (F : Nat) (x1 : List Int) : Nat → Int → Int → Option Int
  | 0, _, _ => none
  | k + 1, x3, x4 =>
    if (decide (x4 < ((List.length x1 : Nat) : Int))) = true then
      Option.bind (at? x1 x4) fun x5 =>
      f86_p2 F x1 k (if x5 > x3 then x5 else x3) (w64 (x4 + 1))
    else
      some x3
def f86 (F : Nat) (x1 : List Int) : Option Int :=
  Option.bind (f86_p0 F x1) fun _ =>
  Option.bind (at? x1 0) fun x2 =>
  Option.bind (f86_p2 F x1 F x2 1) fun x6 =>
  some x6

def f77 (F : Nat) (x1 x2 : List Int) : Option ((List Int) × (List Int) × Int) :=
  Option.bind (f84 F x1) fun x3 =>
  if (x3 != 0) = true then
    some (([] : List Int), ([] : List Int), x3)
  else
  if (((List.length x2 : Nat) : Int) != ((List.length x1 : Nat) : Int)) = true then
    some (([] : List Int), ([] : List Int), 5)
  else
    Option.bind (f85 F x2) fun x4 =>
    if (decide (x4 < 0)) = true then
      some (([] : List Int), ([] : List Int), 1)
    else
      Option.bind (f86 F x2) fun x5 =>
      if (decide (x5 > 40)) = true then
        some (([] : List Int), ([] : List Int), 1)
      else
        some (x1, x2, 0)

def f71_p0 (F : Nat) (x6 : Int) (x7 : Bool) (x4 x5 : List Int) : Option Int :=
  if x7 = true then
    some x6
  else
    some 1
def f71 (F : Nat) (x1 x2 : List Int) (x3 : Int) : Option ((List Int) × (List Int) × Int) :=
  Option.bind (f77 F x1 x2) fun (x4, x5, x6) =>
  if (x6 == 0) = true then
    Option.bind (f78 F x3 0 1000) fun x7 =>
    Option.bind (f71_p0 F x6 x7 x4 x5) fun x8 =>
    some (x4, x5, x8)
  else
    some (x4, x5, x6)

def f79_1 (F : Nat) (x1 : Int) (x2 : List Int) (x3 x4 x5 : Int) : Option Int :=
  Option.bind (at? x2 (w64 (x4 + (w64 (x1 * x3))))) fun x6 =>
  some (w64 ((w64 (x6 + x5)) - x1))

def f72_p1 (F : Nat) (x3 : Int) (x1 x2 : List Int) : Nat → Int → (List Int) → Option (List Int)
  | 0, _, _ => none
  | k + 1, x6, x5 =>
    if (decide (x6 < (((Int.toNat (w64 (x3 + 1))) : Nat) : Int))) = true then
      req ((0 : Int) ≤ x6 ∧ (x6 : Int) < (((Int.toNat (w64 (x3 + 1))) : Nat) : Int)) <|
      req ((0 + (Int.toNat x6)) < List.length x5) <|
      f72_p1 F x3 x1 x2 k (w64 (x6 + 1)) (List.set x5 (0 + (Int.toNat x6)) 1001)
    else
      some x5
def f72_p17_17 (F : Nat) (x3 : Int) (x1 : List Int) (x134 x137 : Int) (x136 x167 : Int) (x2 x135 : List Int) (x133 : List (List Int)) (x179 x180 : List Int) (x182 : Int) : Nat → (List Int) → Option (List Int)
  | 0, _ => none
  | k + 1, x183 =>
    if (decide ((((List.length x183) : Nat) : Int) > 0)) = true then
      req ((0 : Int) ≤ (w64 ((((List.length x183) : Nat) : Int) - 1)) ∧ ((w64 ((((List.length x183) : Nat) : Int) - 1)) : Int) < (((List.length x183) : Nat) : Int)) <|
      Option.bind ((x183)[(0 + (Int.toNat (w64 ((((List.length x183) : Nat) : Int) - 1))))]?) fun x184 =>
      Option.bind (f79_1 F x184 x135 x136 x167 x182) fun x185 =>
      Option.bind (f79_1 F x182 x135 x136 x167 x182) fun x186 =>
      if (decide (x185 ≥ x186)) = true then
        req ((0 : Int) ≤ 0 ∧ (0 : Int) ≤ (w64 ((((List.length x183) : Nat) : Int) - 1)) ∧ ((w64 ((((List.length x183) : Nat) : Int) - 1)) : Int) ≤ (((List.length x183) : Nat) : Int) ∧ 0 < (List.length x183)) <|
        req ((0 : Int) < (w64 ((((List.length x183) : Nat) : Int) - 1)) ∨ (0 : Int) = 0) <|
        f72_p17_17 F x3 x1 x134 x137 x136 x167 x2 x135 x133 x179 x180 x182 k (List.drop 0 (List.take (Int.toNat (w64 ((((List.length x183) : Nat) : Int) - 1))) x183))
      else
        some x183
    else
      some x183
def f72_p20_17 (F : Nat) (x3 : Int) (x1 : List Int) (x134 x137 : Int) (x187 : List Int) (x182 x136 : Int) (x167 x188 : Int) (x2 x135 : List Int) (x133 : List (List Int)) (x179 x180 : List Int) : Option (List Int) :=
  if (decide (x188 < (w64 (x182 - x137)))) = true then
    req ((0 : Int) ≤ 1 ∧ (1 : Int) ≤ (((List.length (x187 ++ ([x182] : List Int))) : Nat) : Int) ∧ ((((List.length (x187 ++ ([x182] : List Int))) : Nat) : Int) : Int) ≤ (((List.length (x187 ++ ([x182] : List Int))) : Nat) : Int) ∧ 0 < (List.length (x187 ++ ([x182] : List Int)))) <|
    req ((1 : Int) < (((List.length (x187 ++ ([x182] : List Int))) : Nat) : Int) ∨ (1 : Int) = 0) <|
    some (List.drop 1 (List.take (List.length (x187 ++ ([x182] : List Int))) (x187 ++ ([x182] : List Int))))
  else
    some (x187 ++ ([x182] : List Int))
def f72_p13_5 (F : Nat) (x3 : Int) (x1 : List Int) (x134 x137 : Int) (x136 x167 : Int) (x2 x135 : List Int) (x133 : List (List Int)) : Nat → (List Int) → (List Int) → Int → (List Int) → Option ((List Int) × (List Int))
  | 0, _, _, _, _ => none
  | k + 1, x179, x180, x182, x181 =>
    if (decide ((w64 (x167 + (w64 (x182 * x136)))) ≤ x3)) = true then
      Option.bind (f72_p17_17 F x3 x1 x134 x137 x136 x167 x2 x135 x133 x179 x180 x182 F x181) fun x187 =>
      req (List.length x187 + List.length ([x182] : List Int) ≤ 1099511627776) <|
      req ((0 : Int) ≤ 0 ∧ (0 : Int) < (((List.length (x187 ++ ([x182] : List Int))) : Nat) : Int)) <|
      Option.bind (((x187 ++ ([x182] : List Int)))[0]?) fun x188 =>
      Option.bind (f72_p20_17 F x3 x1 x134 x137 x187 x182 x136 x167 x188 x2 x135 x133 x179 x180) fun x189 =>
      req ((0 : Int) ≤ 0 ∧ (0 : Int) < (((List.length x189) : Nat) : Int)) <|
      Option.bind ((x189)[0]?) fun x190 =>
      Option.bind (f79_1 F x190 x135 x136 x167 x182) fun x191 =>
      req ((0 : Int) ≤ (w64 (x167 + (w64 (x182 * x136)))) ∧ ((w64 (x167 + (w64 (x182 * x136)))) : Int) < (((Int.toNat (w64 (x3 + 1))) : Nat) : Int)) <|
      req ((0 + (Int.toNat (w64 (x167 + (w64 (x182 * x136)))))) < List.length x179) <|
      req ((0 + (Int.toNat (w64 (x167 + (w64 (x182 * x136)))))) < List.length x180) <|
      f72_p13_5 F x3 x1 x134 x137 x136 x167 x2 x135 x133 k (List.set x179 (0 + (Int.toNat (w64 (x167 + (w64 (x182 * x136)))))) (if x191 < 1001 then x191 else 1001)) (List.set x180 (0 + (Int.toNat (w64 (x167 + (w64 (x182 * x136)))))) (w64 (x182 - x190))) (w64 (x182 + 1)) x189
    else
      some (x179, x180)
def f72_p9_2 (F : Nat) (x3 : Int) (x1 : List Int) (x134 x137 x136 : Int) (x2 x135 : List Int) (x133 : List (List Int)) : Nat → Int → (List Int) → (List Int) → Option ((List Int) × (List Int))
  | 0, _, _, _ => none
  | k + 1, x167, x165, x166 =>
    if (decide (x167 < (if (w64 (x3 + 1)) < x136 then (w64 (x3 + 1)) else x136))) = true then
      Option.bind (f72_p13_5 F x3 x1 x134 x137 x136 x167 x2 x135 x133 F x165 x166 0 ([] : List Int)) fun (x192, x193) =>
      f72_p9_2 F x3 x1 x134 x137 x136 x2 x135 x133 k (w64 (x167 + 1)) x192 x193
    else
      some (x165, x166)
def f72_p5 (F : Nat) (x3 : Int) (x1 x2 : List Int) : Nat → Int → (List Int) → (List (List Int)) → Option ((List Int) × (List (List Int)))
  | 0, _, _, _ => none
  | k + 1, x134, x135, x133 =>
    if (decide (x134 ≥ 0)) = true then
      Option.bind (at? x1 x134) fun x136 =>
      Option.bind (at? x2 x134) fun x137 =>
      req ((0 : Int) ≤ (w64 (x3 + 1)) ∧ ((w64 (x3 + 1)) : Int) ≤ (w64 (x3 + 1)) ∧ ((w64 (x3 + 1)) : Int) ≤ 1099511627776) <|
      Option.bind (f72_p9_2 F x3 x1 x134 x137 x136 x2 x135 x133 F 0 (List.replicate (Int.toNat (w64 (x3 + 1))) (0 : Int)) (List.replicate (Int.toNat (w64 (x3 + 1))) (0 : Int))) fun (x194, x195) =>
      req ((0 + (Int.toNat (w64 (x3 + 1)))) ≤ List.length x194) <|
      req ((0 + (Int.toNat (w64 (x3 + 1)))) ≤ List.length x195) <|
      req ((0 : Int) ≤ x134 ∧ (x134 : Int) < (((Int.toNat ((List.length x1 : Nat) : Int)) : Nat) : Int)) <|
      req ((0 + (Int.toNat x134)) < List.length x133) <|
      f72_p5 F x3 x1 x2 k (w64 (x134 - 1)) (List.drop 0 (List.take (0 + (Int.toNat (w64 (x3 + 1)))) x194)) (List.set x133 (0 + (Int.toNat x134)) (List.drop 0 (List.take (0 + (Int.toNat (w64 (x3 + 1)))) x195)))
    else
      some (x135, x133)
def f72_p23 (F : Nat) (x1 x2 : List Int) (x197 : List (List Int)) : Nat → Int → Int → (List Int) → Option (List Int)
  | 0, _, _, _ => none
  | k + 1, x205, x206, x204 =>
    if (decide (x206 < (((Int.toNat ((List.length x1 : Nat) : Int)) : Nat) : Int))) = true then
      req ((0 : Int) ≤ x206 ∧ (x206 : Int) < (((Int.toNat ((List.length x1 : Nat) : Int)) : Nat) : Int)) <|
      Option.bind ((x197)[(0 + (Int.toNat x206))]?) fun x207 =>
      Option.bind (at? x207 x205) fun x208 =>
      req (List.length x204 + List.length ([x208] : List Int) ≤ 1099511627776) <|
      Option.bind (at? x1 x206) fun x209 =>
      f72_p23 F x1 x2 x197 k (w64 (x205 - (w64 (x208 * x209)))) (w64 (x206 + 1)) (x204 ++ ([x208] : List Int))
    else
      some x204
def f72 (F : Nat) (x1 x2 : List Int) (x3 : Int) : Option ((List Int) × Int) :=
  req ((0 : Int) ≤ (w64 (x3 + 1)) ∧ ((w64 (x3 + 1)) : Int) ≤ (w64 (x3 + 1)) ∧ ((w64 (x3 + 1)) : Int) ≤ 1099511627776) <|
  Option.bind (f72_p1 F x3 x1 x2 F 0 (List.replicate (Int.toNat (w64 (x3 + 1))) (0 : Int))) fun x7 =>
  req ((0 : Int) ≤ 0 ∧ (0 : Int) < (((Int.toNat (w64 (x3 + 1))) : Nat) : Int)) <|
  req (0 < List.length x7) <|
  req ((0 : Int) ≤ ((List.length x1 : Nat) : Int) ∧ (((List.length x1 : Nat) : Int) : Int) ≤ ((List.length x1 : Nat) : Int) ∧ (((List.length x1 : Nat) : Int) : Int) ≤ 1099511627776) <|
  req ((0 + (Int.toNat (w64 (x3 + 1)))) ≤ List.length (List.set x7 0 0)) <|
  Option.bind (f72_p5 F x3 x1 x2 F (w64 (((List.length x1 : Nat) : Int) - 1)) (List.drop 0 (List.take (0 + (Int.toNat (w64 (x3 + 1)))) (List.set x7 0 0))) (List.replicate (Int.toNat ((List.length x1 : Nat) : Int)) ([] : (List Int)))) fun (x196, x197) =>
  Option.bind (at? x196 x3) fun x198 =>
  if (x198 == 1001) = true then
    some (([] : List Int), 12)
  else
    Option.bind (f72_p23 F x1 x2 x197 F x3 0 ([] : List Int)) fun x210 =>
    some ((List.drop 0 (List.take (0 + (List.length x210)) x210)), 0)

def f65 (F : Nat) (x1 x2 : List Int) (x3 : Int) : Option ((List Int) × Int) :=
  Option.bind (f71 F x1 x2 x3) fun (x4, x5, x6) =>
  if (x6 != 0) = true then
    some (([] : List Int), x6)
  else
    Option.bind (f72 F x4 x5 x3) fun (x7, x8) =>
    some (x7, x8)

def f81 (F : Nat) (x1 x2 x3 : Int) : Option Bool :=
  if (decide (x1 ≤ x2)) = true then
    some (decide (x2 ≤ x3))
  else
    some false

def f80 (F : Nat) (x1 x2 : Int) : Option Bool :=
  Option.bind (f81 F 0 x1 (w64 (x2 - 1))) fun x3 =>
  some (!x3)

inductive f68_1_p1_R where
  | c0 (a0 : Int)
  | c1
def f68_1_p1 (F : Nat) (x1 : List Int) (x2 : Int) : Nat → Int → Option f68_1_p1_R
  | 0, _ => none
  | k + 1, x3 =>
    if (decide (x3 < ((List.length x1 : Nat) : Int))) = true then
      Option.bind (at? x1 x3) fun x4 =>
      Option.bind (f80 F x4 x2) fun x5 =>
      if x5 = true then
        some (.c0 x3)
      else
        f68_1_p1 F x1 x2 k (w64 (x3 + 1))
    else
      some .c1
def f68_1 (F : Nat) (x1 : List Int) (x2 : Int) : Option Int :=
  Option.bind (f68_1_p1 F x1 x2 F 0) fun
  | .c0 x6 =>
    some x6
  | .c1 =>
    some (-1)

def f60_1 (F : Nat) (x1 : List Int) (x2 : Int) : Option Bool :=
  Option.bind (f68_1 F x1 x2) fun x3 =>
  some (decide (x3 ≥ 0))

def f73_p5 (F : Nat) (x1 : List Int) : Nat → Int → Int → Option Int
  | 0, _, _ => none
  | k + 1, x5, x6 =>
    if (decide (x5 < ((List.length x1 : Nat) : Int))) = true then
      Option.bind (at? x1 x5) fun x7 =>
      f73_p5 F x1 k (w64 (x5 + 1)) (w64 (x6 - x7))
    else
      some x6
def f73 (F : Nat) (x1 : List Int) : Option Int :=
  if (((List.length x1 : Nat) : Int) == 0) = true then
    some 4
  else
  if (decide (((List.length x1 : Nat) : Int) > 7)) = true then
    some 3
  else
    Option.bind (f60_1 F x1 ((List.length x1 : Nat) : Int)) fun x2 =>
    if x2 = true then
      some 1
    else
      Option.bind (f73_p5 F x1 F 0 ((List.length x1 : Nat) : Int)) fun x8 =>
      if ((w64 (((List.length x1 : Nat) : Int) - x8)) != (w64 (Int.tdiv (w64 (((List.length x1 : Nat) : Int) * (w64 (((List.length x1 : Nat) : Int) - 1)))) 2))) = true then
        some 17
      else
        some 0

def f82 (F : Nat) (x1 : Int) : Option Int :=
  req ((0 : Int) ≤ x1 ∧ (x1 : Int) < ((256 : Nat) : Int)) <|
  some (w64 ((strAt str1 x1)))

def f75_p1 (F : Nat) : Nat → Int → (List Int) → Option (List Int)
  | 0, _, _ => none
  | k + 1, x5, x4 =>
    if (x5 != 0) = true then
      Option.bind (f82 F x5) fun x6 =>
      req (List.length x4 + List.length ([x6] : List Int) ≤ 1099511627776) <|
      f75_p1 F k (iAnd .u8 x5 (IntKind.wrap .u8 (x5 - 1))) (x4 ++ ([x6] : List Int))
    else
      some x4
def f75 (F : Nat) (x1 : Int) : Option (List Int) :=
  Option.bind (f75_p1 F F x1 ([] : List Int)) fun x7 =>
  some (List.drop 0 (List.take (0 + (List.length x7)) x7))

def f74_p1 (F : Nat) (x1 x3 : List Int) : Nat → Int → Int → Option Int
  | 0, _, _ => none
  | k + 1, x4, x5 =>
    if (decide (x5 < ((List.length x3 : Nat) : Int))) = true then
      Option.bind (at? x3 x5) fun x6 =>
      Option.bind (at? x1 x6) fun x7 =>
      f74_p1 F x1 x3 k (w64 (x4 - x7)) (w64 (x5 + 1))
    else
      some x4
def f74 (F : Nat) (x1 : List Int) (x2 : Int) : Option Int :=
  Option.bind (f75 F x2) fun x3 =>
  Option.bind (f74_p1 F x1 x3 F (w64 (Int.tdiv (w64 (((List.length x3 : Nat) : Int) * (w64 (((List.length x3 : Nat) : Int) - 1)))) 2)) 0) fun x8 =>
  some x8

def f83 (F : Nat) (x1 x2 : Int) : Option Int :=
  Option.bind (f59 F x1) fun x3 =>
  Option.bind (f59 F x2) fun x4 =>
  if x3 = true then
    if x4 = true then
      some 0
    else
      some (-1)
  else
  if x4 = true then
    some 1
  else
  if (decide (x1 < x2)) = true then
    some (-1)
  else
  if (decide (x1 > x2)) = true then
    some 1
  else
    some 0

inductive f76_p1_R where
  | c0 (a0 : Int)
  | c1
def f76_p1 (F : Nat) (x1 : List Int) (x2 : Option (List Int)) : Nat → Int → Option f76_p1_R
  | 0, _ => none
  | k + 1, x3 =>
    if (decide (x3 < ((List.length x1 : Nat) : Int))) = true then
      Option.bind (at? x1 x3) fun x4 =>
      if (decide (x3 ≥ ((List.length ((x2).getD []) : Nat) : Int))) = true then
        some (.c0 1)
      else
        Option.bind (at? ((x2).getD []) x3) fun x5 =>
        Option.bind (f83 F x4 x5) fun x6 =>
        if (x6 != 0) = true then
          some (.c0 x6)
        else
          f76_p1 F x1 x2 k (w64 (x3 + 1))
    else
      some .c1
def f76 (F : Nat) (x1 : List Int) (x2 : Option (List Int)) : Option Int :=
  Option.bind (f76_p1 F x1 x2 F 0) fun
  | .c0 x7 =>
    some x7
  | .c1 =>
    if (decide (((List.length x1 : Nat) : Int) < ((List.length ((x2).getD []) : Nat) : Int))) = true then
      some (-1)
    else
      some 0

def f66_p6 (F : Nat) (x1 : List Int) (x3 : Option (List Int)) (x4 : Int) (x6 : List Int) (x7 : Int) : Option (Option (List Int)) :=
  if (decide (x7 < 0)) = true then
    req (x6 ≠ []) <|
    some (some x6)
  else
    some x3
def f66_p2 (F : Nat) (x1 : List Int) : Nat → (Option (List Int)) → Int → Option (Option (List Int))
  | 0, _, _ => none
  | k + 1, x3, x4 =>
    req ((0 : Int) ≤ ((List.length x1 : Nat) : Int)) <|
    if (decide (x4 < (iShl .u8 1 ((List.length x1 : Nat) : Int)))) = true then
      Option.bind (f74 F x1 x4) fun x5 =>
      if (decide (x5 ≤ 0)) = true then
        f66_p2 F x1 k x3 (IntKind.wrap .u8 (x4 + 1))
      else
        Option.bind (f75 F x4) fun x6 =>
        if (Option.isNone x3) = true then
          req (x6 ≠ []) <|
          f66_p2 F x1 k (some x6) (IntKind.wrap .u8 (x4 + 1))
        else
        if (decide (((List.length x6 : Nat) : Int) < ((List.length ((x3).getD []) : Nat) : Int))) = true then
          req (x6 ≠ []) <|
          f66_p2 F x1 k (some x6) (IntKind.wrap .u8 (x4 + 1))
        else
        if (((List.length x6 : Nat) : Int) == ((List.length ((x3).getD []) : Nat) : Int)) = true then
          Option.bind (f76 F x6 x3) fun x7 =>
          Option.bind (f66_p6 F x1 x3 x4 x6 x7) fun x8 =>
          f66_p2 F x1 k x8 (IntKind.wrap .u8 (x4 + 1))
        else
          f66_p2 F x1 k x3 (IntKind.wrap .u8 (x4 + 1))
    else
      some x3
def f66 (F : Nat) (x1 : List Int) : Option ((List Int) × Int) :=
  Option.bind (f73 F x1) fun x2 =>
  if (x2 != 0) = true then
    some (([] : List Int), x2)
  else
    Option.bind (f66_p2 F x1 F (none : Option (List Int)) 1) fun x9 =>
    if (Option.isNone x9) = true then
      some (([] : List Int), 13)
    else
      some (((x9).getD []), 0)

def f53 (F : Nat) : Option Bool :=
  Option.bind (f32 F ([2, 5] : List Int)) fun x1 =>
  Option.bind (f32 F ([3, 2] : List Int)) fun x2 =>
  Option.bind (f65 F x1 x2 11) fun (x3, x4) =>
  Option.bind (f32 F ([0, 0, 3, 3] : List Int)) fun x5 =>
  Option.bind (f66 F x5) fun (x6, x7) =>
  if (x4 == 0) = true then
    if (x7 == 0) = true then
      Option.bind (f32 F ([3, 1] : List Int)) fun x8 =>
      Option.bind (f31 F x3 x8) fun x9 =>
      if x9 = true then
        Option.bind (f32 F ([0, 1] : List Int)) fun x10 =>
        Option.bind (f31 F x6 x10) fun x11 =>
        some x11
      else
        none
    else
      none
  else
    none

def f33 (F : Nat) : Option Bool :=
  Option.bind (f32 F ([2, 3, 1, 2, 1, 3] : List Int)) fun x1 =>
  Option.bind (f52 F 3 true x1 2) fun (x2, x3) =>
  if (x3 == 0) = true then
    Option.bind (f32 F ([1, 3] : List Int)) fun x4 =>
    Option.bind (f31 F x2 x4) fun x5 =>
    if x5 = true then
      Option.bind (f53 F) fun x6 =>
      some x6
    else
      none
  else
    none

def f12 (F : Nat) : Option Bool :=
  Option.bind (f30 F ([([9, 5] : List Int), ([8, 3] : List Int), ([4, 4] : List Int)] : List (List Int))) fun (x1, x2) =>
  if (x2 == 0) = true then
    Option.bind (f32 F ([8, 0, 4] : List Int)) fun x3 =>
    Option.bind (f31 F x1 x3) fun x4 =>
    if x4 = true then
      Option.bind (f33 F) fun x5 =>
      some x5
    else
      none
  else
    none

def f3_p1 (F : Nat) (x1 : Int) (x2 x3 : List Int) : Nat → Int → (List Int) → (List Int) → Option ((List Int) × (List Int))
  | 0, _, _, _ => none
  | k + 1, x13, x11, x12 =>
    if (decide (x13 < (w64 (1 + (Int.tmod (w64 (x1)) 5))))) = true then
      req ((0 : Int) ≤ x13 ∧ (x13 : Int) < ((5 : Nat) : Int)) <|
      Option.bind ((x2)[(0 + ((Int.toNat x13) * 1))]?) fun x14 =>
      req (List.length x11 + List.length ([(Int.tmod (w64 (x14)) 16)] : List Int) ≤ 1099511627776) <|
      Option.bind ((x3)[(0 + ((Int.toNat x13) * 1))]?) fun x15 =>
      req (List.length x12 + List.length ([(Int.tmod (w64 (x15)) 16)] : List Int) ≤ 1099511627776) <|
      f3_p1 F x1 x2 x3 k (w64 (x13 + 1)) (x11 ++ ([(Int.tmod (w64 (x14)) 16)] : List Int)) (x12 ++ ([(Int.tmod (w64 (x15)) 16)] : List Int))
    else
      some (x11, x12)
inductive f3_p9_1_R where
  | c0
  | c1 (a0 : List Int)
def f3_p9_1 (F : Nat) (x1 : Int) (x16 x17 : List Int) (x38 : List (List Int)) (x40 x39 : Int) : Nat → Int → (List Int) → Option f3_p9_1_R
  | 0, _, _ => none
  | k + 1, x50, x49 =>
    if (decide (x50 < (((List.length x17) : Nat) : Int))) = true then
      req ((0 : Int) ≤ x50 ∧ (x50 : Int) < (((List.length x17) : Nat) : Int)) <|
      Option.bind ((x17)[(0 + (Int.toNat x50))]?) fun x51 =>
      Option.bind (f4 F 4 x40) fun (x52, x53) =>
      Option.bind (f4 F 4 x51) fun (x54, x55) =>
      Option.bind (f5 F x52 x54) fun (x56, x57) =>
      if (x53 != 0) = true then
        some .c0
      else
      if (x55 != 0) = true then
        some .c0
      else
      if (x57 != 0) = true then
        some .c0
      else
      if (x56 != (if (w64 (x51 - x40)) > (w64 (x40 - x51)) then (w64 (x51 - x40)) else (w64 (x40 - x51)))) = true then
        some .c0
      else
        req (List.length x49 + List.length ([(w64 (20 - x56))] : List Int) ≤ 1099511627776) <|
        f3_p9_1 F x1 x16 x17 x38 x40 x39 k (w64 (x50 + 1)) (x49 ++ ([(w64 (20 - x56))] : List Int))
    else
      some (.c1 x49)
inductive f3_p5_R where
  | c0
  | c1 (a0 : List (List Int))
def f3_p5 (F : Nat) (x1 : Int) (x16 x17 : List Int) : Nat → Int → (List (List Int)) → Option f3_p5_R
  | 0, _, _ => none
  | k + 1, x39, x38 =>
    if (decide (x39 < (((List.length x16) : Nat) : Int))) = true then
      req ((0 : Int) ≤ x39 ∧ (x39 : Int) < (((List.length x16) : Nat) : Int)) <|
      Option.bind ((x16)[(0 + (Int.toNat x39))]?) fun x40 =>
      Option.bind (f3_p9_1 F x1 x16 x17 x38 x40 x39 F 0 ([] : List Int)) fun
      | .c0 =>
        some .c0
      | .c1 x58 =>
        req (List.length x38 + List.length ([(List.drop 0 (List.take (0 + (List.length x58)) x58))] : List (List Int)) ≤ 1099511627776) <|
        f3_p5 F x1 x16 x17 k (w64 (x39 + 1)) (x38 ++ ([(List.drop 0 (List.take (0 + (List.length x58)) x58))] : List (List Int)))
    else
      some (.c1 x38)
def f3_p15 (F : Nat) (x16 x17 : List Int) (x59 : List (List Int)) (x60 : List Int) (x62 x1 : Int) (x65 x66 : List Int) : Nat → Int → Int → Option Int
  | 0, _, _ => none
  | k + 1, x67, x68 =>
    if (decide (x68 < (w64 (1 + (Int.tmod (w64 (x1)) 5))))) = true then
      req ((0 : Int) ≤ x68 ∧ (x68 : Int) < (((List.length x16) : Nat) : Int)) <|
      Option.bind ((x65)[(0 + (Int.toNat x68))]?) fun x69 =>
      req ((0 : Int) ≤ x68 ∧ (x68 : Int) < (((List.length x17) : Nat) : Int)) <|
      Option.bind ((x66)[(0 + (Int.toNat x68))]?) fun x70 =>
      f3_p15 F x16 x17 x59 x60 x62 x1 x65 x66 k (w64 (x67 + (w64 (20 - (if (w64 (x70 - x69)) > (w64 (x69 - x70)) then (w64 (x70 - x69)) else (w64 (x69 - x70))))))) (w64 (x68 + 1))
    else
      some x67
def f3 (F : Nat) (x1 : Int) (x2 x3 : List Int) : Option Bool :=
  Option.bind (f3_p1 F x1 x2 x3 F 0 ([] : List Int) ([] : List Int)) fun (x16, x17) =>
  Option.bind (f3_p5 F x1 x16 x17 F 0 ([] : List (List Int))) fun
  | .c0 =>
    none
  | .c1 x59 =>
    Option.bind (f6_1 F (List.drop 0 (List.take (0 + (List.length x59)) x59))) fun (x60, x61) =>
    Option.bind (f7 F (List.drop 0 (List.take (0 + (List.length x59)) x59)) x60) fun (x62, x63) =>
    if (x61 != 0) = true then
      none
    else
    if (x63 != 0) = true then
      none
    else
    if (((List.length x60 : Nat) : Int) != (w64 (1 + (Int.tmod (w64 (x1)) 5)))) = true then
      none
    else
      Option.bind (f8 F x60 (-1)) fun x64 =>
      if x64 = true then
        none
      else
        Option.bind (f9 F x16) fun x65 =>
        Option.bind (f9_1 F x17) fun x66 =>
        Option.bind (f3_p15 F x16 x17 x59 x60 x62 x1 x65 x66 F 0 0) fun x71 =>
        Option.bind (f10 F (List.drop 0 (List.take (0 + (List.length x59)) x59))) fun (x72, x73) =>
        if (x73 == 0) = true then
          if (x62 == x71) = true then
            Option.bind (f11 F (List.drop 0 (List.take (0 + (List.length x59)) x59)) x72 x60) fun x74 =>
            if (x74 == 0) = true then
              Option.bind (f12 F) fun x75 =>
              some x75
            else
              none
          else
            none
        else
          none

end Go.Gh.Near
