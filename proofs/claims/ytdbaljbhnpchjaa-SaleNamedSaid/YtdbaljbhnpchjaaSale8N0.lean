/- Sale8N0: printed by wip/tool/gx.py -/
import Derived.Test.YtdbaljbhnpchjaaGhPl
namespace Go.Gh.Sale
set_option linter.unusedVariables false
set_option linter.unusedSimpArgs false

abbrev Mm : Type := List ((Int × (Int × (Int × Unit))) × (Int × (Int × Unit)))
def f45 (F : Nat) (x1 : List Int) : Option (List Int) :=
 some x1

def f46 (F : Nat) (x1 : List (List Int)) : Option (List (List Int)) :=
 some x1

def f44 (F : Nat) : Option (List (List Int)) :=
 Option.bind (f45 F ([9, 5] : List Int)) fun x1 =>
 Option.bind (f45 F ([8, 3] : List Int)) fun x2 =>
 Option.bind (f45 F ([4, 4] : List Int)) fun x3 =>
 Option.bind (f46 F ([x1, x2, x3] : List (List Int))) fun x4 =>
 some x4

def f70 (F : Nat) (x1 x2 x3 : Int) : Option Bool :=
 if (decide (x1 ≤ x2)) = true then
  some (decide (x2 ≤ x3))
 else
  some false

def f102 (F : Nat) (x1 : Int) : Option Bool :=
 Option.bind (f70 F 0 x1 99) fun x2 =>
 some (!x2)

inductive f107_p1_R where
 | c0 (a0 : Int)
 | c1
def f107_p1 (F : Nat) (x1 : List Int) : Nat → Int → Option f107_p1_R
 | 0, _ => none
 | k + 1, x2 =>
  if (decide (x2 < ((List.length x1 : Nat) : Int))) = true then
   Option.bind (at? x1 x2) fun x3 =>
   Option.bind (f102 F x3) fun x4 =>
   if x4 = true then
    some (.c0 x2)
   else
    f107_p1 F x1 k (w64 (x2 + 1))
  else
   some .c1
def f107 (F : Nat) (x1 : List Int) : Option Int :=
 Option.bind (f107_p1 F x1 F 0) fun
 | .c0 x5 =>
  some x5
 | .c1 =>
  some (-1)

def f101 (F : Nat) (x1 : List Int) : Option Bool :=
 Option.bind (f107 F x1) fun x2 =>
 some (decide (x2 ≥ 0))

def f76 (F : Nat) (x1 : List Int) (x2 : Int) : Option Int :=
 if (((List.length x1 : Nat) : Int) != x2) = true then
  some 5
 else
  Option.bind (f101 F x1) fun x3 =>
  if x3 = true then
   some 1
  else
   some 0

inductive f24_p4_R where
 | c0 (a0 : Int)
 | c1
def f24_p4 (F : Nat) (x1 : List (List Int)) : Nat → Int → Option f24_p4_R
 | 0, _ => none
 | k + 1, x3 =>
  if (decide (x3 < ((List.length x1 : Nat) : Int))) = true then
   Option.bind (at? x1 x3) fun x4 =>
   Option.bind (at? x1 0) fun x5 =>
   Option.bind (f76 F x4 ((List.length x5 : Nat) : Int)) fun x6 =>
   if (x6 != 0) = true then
    some (.c0 x6)
   else
    f24_p4 F x1 k (w64 (x3 + 1))
  else
   some .c1
def f24 (F : Nat) (x1 : List (List Int)) : Option Int :=
 if (((List.length x1 : Nat) : Int) == 0) = true then
  some 4
 else
 if (decide (((List.length x1 : Nat) : Int) > 5)) = true then
  some 3
 else
  Option.bind (at? x1 0) fun x2 =>
  if (decide (((List.length x2 : Nat) : Int) > 5)) = true then
   some 3
  else
   Option.bind (f24_p4 F x1 F 0) fun
   | .c0 x7 =>
    some x7
   | .c1 =>
    some 0

inductive f65_R where
 | c0 (a0 : Int)
 | c1 (a0 : Int) (a1 : Mm) (a2 : List (List Int)) (a3 : Int)
def f65 (F : Nat) (x1 : List (List Int)) : Option f65_R :=
 Option.bind (f24 F x1) fun x2 =>
 if (x2 != 0) = true then
  some (.c0 x2)
 else
  Option.bind (at? x1 0) fun x3 =>
  some (.c1 0 ([] : Mm) x1 ((List.length x3 : Nat) : Int))

def f69 (F : Nat) (x1 : Mm) (x2 : List (List Int)) (x3 : Int) : Option Int :=
 req ((0 : Int) ≤ x3) <|
 some (IntKind.wrap .u8 ((iShl .u8 1 x3) - 1))

def f71 (F : Nat) (x1 x2 : Int) : Option (Int × Bool) :=
 if (decide (x2 < 0)) = true then
  some (x1, true)
 else
  req ((0 : Int) ≤ x2) <|
  some ((iAndNot .u8 x1 (iShl .u8 1 x2)), ((iAnd .u8 (iShr .u8 x1 x2) 1) == 1))

def f72 (F : Nat) (x1 x2 : Int) (x3 : Mm) (x4 : List (List Int)) (x5 : Int) : Option Int :=
 if (decide (x2 < 0)) = true then
  some 0
 else
  Option.bind (at? x4 x1) fun x6 =>
  Option.bind (at? x6 x2) fun x7 =>
  some x7

def f68_p9_1 (F : Nat) (x17 x23 : Int) (x26 x19 : Int) (x25 : Mm) (x5 : List (List Int)) (x6 x1 : Int) (x2 x3 : Int) (x20 x24 : Int) : Option Int :=
 if ((w64 (x23 + x26)) == x19) = true then
  some (w64 (x20 + x24))
 else
  some x20
def f68_p8_1 (F : Nat) (x17 x23 : Int) (x26 x19 : Int) (x25 : Mm) (x5 : List (List Int)) (x6 x1 : Int) (x2 x3 : Int) (x20 x24 : Int) : Option (Int × Int) :=
 if (decide ((w64 (x23 + x26)) > x19)) = true then
  some ((w64 (x23 + x26)), x24)
 else
  Option.bind (f68_p9_1 F x17 x23 x26 x19 x25 x5 x6 x1 x2 x3 x20 x24) fun x27 =>
  some (x19, x27)
def f68_p9_2 (F : Nat) (x17 x30 : Int) (x33 x19 : Int) (x32 : Mm) (x5 : List (List Int)) (x6 x1 : Int) (x2 x3 : Int) (x20 x31 : Int) : Option Int :=
 if ((w64 (x30 + x33)) == x19) = true then
  some (w64 (x20 + x31))
 else
  some x20
def f68_p8_2 (F : Nat) (x17 x30 : Int) (x33 x19 : Int) (x32 : Mm) (x5 : List (List Int)) (x6 x1 : Int) (x2 x3 : Int) (x20 x31 : Int) : Option (Int × Int) :=
 if (decide ((w64 (x30 + x33)) > x19)) = true then
  some ((w64 (x30 + x33)), x31)
 else
  Option.bind (f68_p9_2 F x17 x30 x33 x19 x32 x5 x6 x1 x2 x3 x20 x31) fun x34 =>
  some (x19, x34)
def f68_p3 (F : Nat) (rec : Int → Int → Int → Mm → (List (List Int)) → Int → Option (Int × Int × Mm)) (x5 : List (List Int)) (x6 x1 : Int) (x2 x3 : Int) : Nat → Int → Mm → Int → Int → Option (Mm × Int × Int)
 | 0, _, _, _, _ => none
 | k + 1, x17, x18, x19, x20 =>
  if (decide (x17 < x6)) = true then
   Option.bind (f71 F x3 x17) fun (x21, x22) =>
   if x22 = true then
    if (decide (x17 ≥ 0)) = true then
     if (x1 == x2) = true then
      f68_p3 F rec x5 x6 x1 x2 x3 k (w64 (x17 + 1)) x18 x19 x20
     else
      Option.bind (rec (w64 (x1 + 1)) x2 x21 x18 x5 x6) fun (x23, x24, x25) =>
      Option.bind (f72 F x1 x17 x25 x5 x6) fun x26 =>
      Option.bind (f68_p8_1 F x17 x23 x26 x19 x25 x5 x6 x1 x2 x3 x20 x24) fun (x28, x29) =>
      f68_p3 F rec x5 x6 x1 x2 x3 k (w64 (x17 + 1)) x25 x28 x29
    else
     Option.bind (rec (w64 (x1 + 1)) x2 x21 x18 x5 x6) fun (x30, x31, x32) =>
     Option.bind (f72 F x1 x17 x32 x5 x6) fun x33 =>
     Option.bind (f68_p8_2 F x17 x30 x33 x19 x32 x5 x6 x1 x2 x3 x20 x31) fun (x35, x36) =>
     f68_p3 F rec x5 x6 x1 x2 x3 k (w64 (x17 + 1)) x32 x35 x36
   else
    f68_p3 F rec x5 x6 x1 x2 x3 k (w64 (x17 + 1)) x18 x19 x20
  else
   some (x18, x19, x20)
def f68_b (F : Nat) (rec : Int → Int → Int → Mm → (List (List Int)) → Int → Option (Int × Int × Mm)) (x1 x2 x3 : Int) (x4 : Mm) (x5 : List (List Int)) (x6 : Int) : Option (Int × Int × Mm) :=
 if (x1 == ((List.length x5 : Nat) : Int)) = true then
  some (0, 1, x4)
 else
 if (Option.isSome (mget x4 (x1, (x2, (x3, ()))))) = true then
  some ((Option.getD (mget x4 (x1, (x2, (x3, ())))) (0, (0, ()))).1, (Option.getD (mget x4 (x1, (x2, (x3, ())))) (0, (0, ()))).2.1, x4)
 else
  Option.bind (f68_p3 F rec x5 x6 x1 x2 x3 F (-1) x4 (-1) 0) fun (x37, x38, x39) =>
  some (x38, x39, (mset x37 (x1, (x2, (x3, ()))) (x38, (x39, ()))))
def f68 (F : Nat) : Nat → Int → Int → Int → Mm → (List (List Int)) → Int → Option (Int × Int × Mm)
 | 0 => fun _ _ _ _ _ _ => none
 | k + 1 => f68_b F (f68 F k)

def f66_p5_2 (F : Nat) (x64 : Int) (x2 : List (List Int)) (x3 : Int) : Nat → Int → Int → Mm → (List Int) → Option (Int × Mm × (List Int))
 | 0, _, _, _, _ => none
 | k + 1, x79, x80, x81, x78 =>
  if (decide (x80 < x3)) = true then
   Option.bind (f71 F x79 x80) fun (x82, x83) =>
   if x83 = true then
    Option.bind (f68 F F (w64 (x64 + 1)) (-1) x82 x81 x2 x3) fun (x84, x85, x86) =>
    Option.bind (f72 F x64 x80 x86 x2 x3) fun x87 =>
    Option.bind (f68 F F x64 (-1) x79 x86 x2 x3) fun (x88, x89, x90) =>
    if ((w64 (x84 + x87)) == x88) = true then
     req (List.length x78 + List.length ([x80] : List Int) ≤ 1099511627776) <|
     some (x82, x90, (x78 ++ ([x80] : List Int)))
    else
     f66_p5_2 F x64 x2 x3 k x79 (w64 (x80 + 1)) x90 x78
   else
    f66_p5_2 F x64 x2 x3 k x79 (w64 (x80 + 1)) x81 x78
  else
   some (x79, x81, x78)
def f66_p1 (F : Nat) (x2 : List (List Int)) (x3 : Int) : Nat → Int → Int → Mm → (List Int) → Option (Mm × (List Int))
 | 0, _, _, _, _ => none
 | k + 1, x63, x64, x65, x62 =>
  if (decide (x64 < ((List.length x2 : Nat) : Int))) = true then
   Option.bind (f66_p5_2 F x64 x2 x3 F x63 (-1) x65 x62) fun (x91, x92, x93) =>
   f66_p1 F x2 x3 k x91 (w64 (x64 + 1)) x92 x93
  else
   some (x65, x62)
def f66 (F : Nat) (x1 : Mm) (x2 : List (List Int)) (x3 : Int) : Option ((List Int) × Mm) :=
 Option.bind (f69 F x1 x2 x3) fun x4 =>
 Option.bind (f66_p1 F x2 x3 F x4 0 x1 ([] : List Int)) fun (x94, x95) =>
 some ((List.drop 0 (List.take (0 + (List.length x95)) x95)), x94)

def f17 (F : Nat) (x1 : List (List Int)) : Option ((List Int) × Int) :=
 Option.bind (f65 F x1) fun
 | .c0 x2 =>
  if (x2 != 0) = true then
   some (([] : List Int), x2)
  else
   none
 | .c1 x3 x4 x5 x6 =>
  if (x3 != 0) = true then
   some (([] : List Int), x3)
  else
   Option.bind (f66 F x4 x5 x6) fun (x7, x8) =>
   some (x7, 0)

def f19 (F : Nat) (x1 : List (List Int)) : Option (Int × Int) :=
 Option.bind (f65 F x1) fun
 | .c0 x2 =>
  if (x2 != 0) = true then
   some (0, x2)
  else
   none
 | .c1 x3 x4 x5 x6 =>
  if (x3 != 0) = true then
   some (0, x3)
  else
   Option.bind (f69 F x4 x5 x6) fun x7 =>
   Option.bind (f68 F F 0 (-1) x7 x4 x5 x6) fun (x8, x9, x10) =>
   some (x9, 0)

def f78 (F : Nat) (x1 x2 : Int) (x3 : Mm) (x4 : List (List Int)) (x5 : Int) : Option (Int × Mm) :=
 Option.bind (f69 F x3 x4 x5) fun x6 =>
 Option.bind (f68 F F 0 (-1) x6 x3 x4 x5) fun (x7, x8, x9) =>
 Option.bind (f72 F x1 x2 x9 x4 x5) fun x10 =>
 Option.bind (f69 F x9 x4 x5) fun x11 =>
 Option.bind (f68 F F 0 x1 x11 x9 x4 x5) fun (x12, x13, x14) =>
 some ((w64 (x12 - (w64 (x7 - x10)))), x14)

def f77_p2 (F : Nat) (x7 : List Int) (x5 : List (List Int)) (x6 : Int) : Nat → Int → Mm → (List Int) → Option (List Int)
 | 0, _, _, _ => none
 | k + 1, x19, x20, x18 =>
  if (decide (x19 < ((List.length x7 : Nat) : Int))) = true then
   Option.bind (at? x7 x19) fun x21 =>
   Option.bind (f78 F x19 x21 x20 x5 x6) fun (x22, x23) =>
   req (List.length x18 + List.length ([x22] : List Int) ≤ 1099511627776) <|
   f77_p2 F x7 x5 x6 k (w64 (x19 + 1)) x23 (x18 ++ ([x22] : List Int))
  else
   some x18
def f77 (F : Nat) (x1 : List (List Int)) : Option ((List Int) × Int) :=
 Option.bind (f65 F x1) fun
 | .c0 x2 =>
  if (x2 != 0) = true then
   some (([] : List Int), x2)
  else
   none
 | .c1 x3 x4 x5 x6 =>
  if (x3 != 0) = true then
   some (([] : List Int), x3)
  else
   Option.bind (f66 F x4 x5 x6) fun (x7, x8) =>
   Option.bind (f77_p2 F x7 x5 x6 F 0 x8 ([] : List Int)) fun x24 =>
   some ((List.drop 0 (List.take (0 + (List.length x24)) x24)), 0)

def f26 (F : Nat) (x1 : List (List Int)) : Option ((List Int) × Int) :=
 Option.bind (f77 F x1) fun (x2, x3) =>
 some (x2, x3)

def f80 (F : Nat) (x1 x2 : Int) (x3 : Mm) (x4 : List (List Int)) (x5 : Int) : Option (Int × Mm) :=
 Option.bind (f72 F x1 x2 x3 x4 x5) fun x6 =>
 Option.bind (f78 F x1 x2 x3 x4 x5) fun (x7, x8) =>
 some ((w64 (x6 - x7)), x8)

def f77_1_p2 (F : Nat) (x7 : List Int) (x5 : List (List Int)) (x6 : Int) : Nat → Int → Mm → (List Int) → Option (List Int)
 | 0, _, _, _ => none
 | k + 1, x19, x20, x18 =>
  if (decide (x19 < ((List.length x7 : Nat) : Int))) = true then
   Option.bind (at? x7 x19) fun x21 =>
   Option.bind (f80 F x19 x21 x20 x5 x6) fun (x22, x23) =>
   req (List.length x18 + List.length ([x22] : List Int) ≤ 1099511627776) <|
   f77_1_p2 F x7 x5 x6 k (w64 (x19 + 1)) x23 (x18 ++ ([x22] : List Int))
  else
   some x18
def f77_1 (F : Nat) (x1 : List (List Int)) : Option ((List Int) × Int) :=
 Option.bind (f65 F x1) fun
 | .c0 x2 =>
  if (x2 != 0) = true then
   some (([] : List Int), x2)
  else
   none
 | .c1 x3 x4 x5 x6 =>
  if (x3 != 0) = true then
   some (([] : List Int), x3)
  else
   Option.bind (f66 F x4 x5 x6) fun (x7, x8) =>
   Option.bind (f77_1_p2 F x7 x5 x6 F 0 x8 ([] : List Int)) fun x24 =>
   some ((List.drop 0 (List.take (0 + (List.length x24)) x24)), 0)

def f28 (F : Nat) (x1 : List (List Int)) : Option ((List Int) × Int) :=
 Option.bind (f77_1 F x1) fun (x2, x3) =>
 some (x2, x3)

inductive f65_1_R where
 | c0 (a0 : Int)
 | c1 (a0 : Int) (a1 : Mm) (a2 : List (List Int)) (a3 : Int)
def f65_1 (F : Nat) (x1 : List (List Int)) : Option f65_1_R :=
 Option.bind (f24 F x1) fun x2 =>
 if (x2 != 0) = true then
  some (.c0 x2)
 else
  Option.bind (at? x1 0) fun x3 =>
  some (.c1 0 ([] : Mm) x1 ((List.length x3 : Nat) : Int))

def f52 (F : Nat) (x1 : List (List Int)) : Option (List (List Int)) :=
 req (x1 ≠ []) <|
 req (List.length ([] : List (List Int)) + List.length x1 ≤ 1099511627776) <|
 some (([] : List (List Int)) ++ x1)

inductive f65_2_R where
 | c0 (a0 : Int)
 | c1 (a0 : Int) (a1 : Mm) (a2 : List (List Int)) (a3 : Int)
def f65_2 (F : Nat) (x1 : List (List Int)) : Option f65_2_R :=
 Option.bind (f24 F x1) fun x2 =>
 if (x2 != 0) = true then
  some (.c0 x2)
 else
  Option.bind (at? x1 0) fun x3 =>
  some (.c1 0 ([] : Mm) x1 ((List.length x3 : Nat) : Int))

inductive f69_1_R where
def f69_1 (F : Nat) : Option f69_1_R :=
 none

inductive f66_1_R where
def f66_1 (F : Nat) : Option f66_1_R :=
 Option.bind (f69_1 F) fun _ => none

def f69_2 (F : Nat) (x1 : Mm) (x2 : List (List Int)) (x3 : Int) : Option Int :=
 req ((0 : Int) ≤ x3) <|
 some (IntKind.wrap .u8 ((iShl .u8 1 x3) - 1))

def f72_1 (F : Nat) (x1 x2 : Int) (x3 : Mm) (x4 : List (List Int)) (x5 : Int) : Option Int :=
 if (decide (x2 < 0)) = true then
  some 0
 else
  Option.bind (at? x4 x1) fun x6 =>
  Option.bind (at? x6 x2) fun x7 =>
  some x7

def f68_1_p9_1 (F : Nat) (x17 x23 : Int) (x26 x19 : Int) (x25 : Mm) (x5 : List (List Int)) (x6 x1 : Int) (x2 x3 : Int) (x20 x24 : Int) : Option Int :=
 if ((w64 (x23 + x26)) == x19) = true then
  some (w64 (x20 + x24))
 else
  some x20
def f68_1_p8_1 (F : Nat) (x17 x23 : Int) (x26 x19 : Int) (x25 : Mm) (x5 : List (List Int)) (x6 x1 : Int) (x2 x3 : Int) (x20 x24 : Int) : Option (Int × Int) :=
 if (decide ((w64 (x23 + x26)) > x19)) = true then
  some ((w64 (x23 + x26)), x24)
 else
  Option.bind (f68_1_p9_1 F x17 x23 x26 x19 x25 x5 x6 x1 x2 x3 x20 x24) fun x27 =>
  some (x19, x27)
def f68_1_p9_2 (F : Nat) (x17 x30 : Int) (x33 x19 : Int) (x32 : Mm) (x5 : List (List Int)) (x6 x1 : Int) (x2 x3 : Int) (x20 x31 : Int) : Option Int :=
 if ((w64 (x30 + x33)) == x19) = true then
  some (w64 (x20 + x31))
 else
  some x20
def f68_1_p8_2 (F : Nat) (x17 x30 : Int) (x33 x19 : Int) (x32 : Mm) (x5 : List (List Int)) (x6 x1 : Int) (x2 x3 : Int) (x20 x31 : Int) : Option (Int × Int) :=
 if (decide ((w64 (x30 + x33)) > x19)) = true then
  some ((w64 (x30 + x33)), x31)
 else
  Option.bind (f68_1_p9_2 F x17 x30 x33 x19 x32 x5 x6 x1 x2 x3 x20 x31) fun x34 =>
  some (x19, x34)
def f68_1_p3 (F : Nat) (rec : Int → Int → Int → Mm → (List (List Int)) → Int → Option (Int × Int × Mm)) (x5 : List (List Int)) (x6 x1 : Int) (x2 x3 : Int) : Nat → Int → Mm → Int → Int → Option (Mm × Int × Int)
 | 0, _, _, _, _ => none
 | k + 1, x17, x18, x19, x20 =>
  if (decide (x17 < x6)) = true then
   Option.bind (f71 F x3 x17) fun (x21, x22) =>
   if x22 = true then
    if (decide (x17 ≥ 0)) = true then
     if (x1 == x2) = true then
      f68_1_p3 F rec x5 x6 x1 x2 x3 k (w64 (x17 + 1)) x18 x19 x20
     else
      Option.bind (rec (w64 (x1 + 1)) x2 x21 x18 x5 x6) fun (x23, x24, x25) =>
      Option.bind (f72_1 F x1 x17 x25 x5 x6) fun x26 =>
      Option.bind (f68_1_p8_1 F x17 x23 x26 x19 x25 x5 x6 x1 x2 x3 x20 x24) fun (x28, x29) =>
      f68_1_p3 F rec x5 x6 x1 x2 x3 k (w64 (x17 + 1)) x25 x28 x29
    else
     Option.bind (rec (w64 (x1 + 1)) x2 x21 x18 x5 x6) fun (x30, x31, x32) =>
     Option.bind (f72_1 F x1 x17 x32 x5 x6) fun x33 =>
     Option.bind (f68_1_p8_2 F x17 x30 x33 x19 x32 x5 x6 x1 x2 x3 x20 x31) fun (x35, x36) =>
     f68_1_p3 F rec x5 x6 x1 x2 x3 k (w64 (x17 + 1)) x32 x35 x36
   else
    f68_1_p3 F rec x5 x6 x1 x2 x3 k (w64 (x17 + 1)) x18 x19 x20
  else
   some (x18, x19, x20)
def f68_1_b (F : Nat) (rec : Int → Int → Int → Mm → (List (List Int)) → Int → Option (Int × Int × Mm)) (x1 x2 x3 : Int) (x4 : Mm) (x5 : List (List Int)) (x6 : Int) : Option (Int × Int × Mm) :=
 if (x1 == ((List.length x5 : Nat) : Int)) = true then
  some (0, 1, x4)
 else
 if (Option.isSome (mget x4 (x1, (x2, (x3, ()))))) = true then
  some ((Option.getD (mget x4 (x1, (x2, (x3, ())))) (0, (0, ()))).1, (Option.getD (mget x4 (x1, (x2, (x3, ())))) (0, (0, ()))).2.1, x4)
 else
  Option.bind (f68_1_p3 F rec x5 x6 x1 x2 x3 F (-1) x4 (-1) 0) fun (x37, x38, x39) =>
  some (x38, x39, (mset x37 (x1, (x2, (x3, ()))) (x38, (x39, ()))))
def f68_1 (F : Nat) : Nat → Int → Int → Int → Mm → (List (List Int)) → Int → Option (Int × Int × Mm)
 | 0 => fun _ _ _ _ _ _ => none
 | k + 1 => f68_1_b F (f68_1 F k)

def f66_2_p5_2 (F : Nat) (x64 : Int) (x2 : List (List Int)) (x3 : Int) : Nat → Int → Int → Mm → (List Int) → Option (Int × Mm × (List Int))
 | 0, _, _, _, _ => none
 | k + 1, x79, x80, x81, x78 =>
  if (decide (x80 < x3)) = true then
   Option.bind (f71 F x79 x80) fun (x82, x83) =>
   if x83 = true then
    Option.bind (f68_1 F F (w64 (x64 + 1)) (-1) x82 x81 x2 x3) fun (x84, x85, x86) =>
    Option.bind (f72_1 F x64 x80 x86 x2 x3) fun x87 =>
    Option.bind (f68_1 F F x64 (-1) x79 x86 x2 x3) fun (x88, x89, x90) =>
    if ((w64 (x84 + x87)) == x88) = true then
     req (List.length x78 + List.length ([x80] : List Int) ≤ 1099511627776) <|
     some (x82, x90, (x78 ++ ([x80] : List Int)))
    else
     f66_2_p5_2 F x64 x2 x3 k x79 (w64 (x80 + 1)) x90 x78
   else
    f66_2_p5_2 F x64 x2 x3 k x79 (w64 (x80 + 1)) x81 x78
  else
   some (x79, x81, x78)
def f66_2_p1 (F : Nat) (x2 : List (List Int)) (x3 : Int) : Nat → Int → Int → Mm → (List Int) → Option (Mm × (List Int))
 | 0, _, _, _, _ => none
 | k + 1, x63, x64, x65, x62 =>
  if (decide (x64 < ((List.length x2 : Nat) : Int))) = true then
   Option.bind (f66_2_p5_2 F x64 x2 x3 F x63 (-1) x65 x62) fun (x91, x92, x93) =>
   f66_2_p1 F x2 x3 k x91 (w64 (x64 + 1)) x92 x93
  else
   some (x65, x62)
def f66_2 (F : Nat) (x1 : Mm) (x2 : List (List Int)) (x3 : Int) : Option ((List Int) × Mm) :=
 Option.bind (f69_2 F x1 x2 x3) fun x4 =>
 Option.bind (f66_2_p1 F x2 x3 F x4 0 x1 ([] : List Int)) fun (x94, x95) =>
 some ((List.drop 0 (List.take (0 + (List.length x95)) x95)), x94)

def f78_1 (F : Nat) (x1 x2 : Int) (x3 : Mm) (x4 : List (List Int)) (x5 : Int) : Option (Int × Mm) :=
 Option.bind (f69_2 F x3 x4 x5) fun x6 =>
 Option.bind (f68_1 F F 0 (-1) x6 x3 x4 x5) fun (x7, x8, x9) =>
 Option.bind (f72_1 F x1 x2 x9 x4 x5) fun x10 =>
 Option.bind (f69_2 F x9 x4 x5) fun x11 =>
 Option.bind (f68_1 F F 0 x1 x11 x9 x4 x5) fun (x12, x13, x14) =>
 some ((w64 (x12 - (w64 (x7 - x10)))), x14)

def f72_2 (F : Nat) (x1 x2 : Int) (x3 : Mm) (x4 : List (List Int)) (x5 : Int) : Option Int :=
 if (decide (x2 < 0)) = true then
  some 0
 else
  Option.bind (at? x4 x1) fun x6 =>
  Option.bind (at? x6 x2) fun x7 =>
  some x7

def f30_p0 (F : Nat) (x1 : List (List Int)) (x2 : Int) (x3 : List Int) (x5 : Int) (x9 : Bool) (x6 : Mm) (x7 : List (List Int)) (x8 : Int) : Option Int :=
 if x9 = true then
  some x5
 else
  some 2
def f30_p1 (F : Nat) (x1 : List (List Int)) (x2 : Int) (x3 : List Int) (x10 : Int) (x6 : Mm) (x7 : List (List Int)) (x8 : Int) : Option Int :=
 if (x10 == 0) = true then
  Option.bind (f76 F x3 x8) fun x11 =>
  some x11
 else
  some x10
def f30 (F : Nat) (x1 : List (List Int)) (x2 : Int) (x3 : List Int) : Option (Int × Int × Int × Int) :=
 Option.bind (f65_1 F x1) fun
 | .c0 x4 =>
  if (x4 == 0) = true then
   none
  else
   some (0, 0, 0, x4)
 | .c1 x5 x6 x7 x8 =>
  if (x5 == 0) = true then
   Option.bind (f70 F 0 x2 (w64 (((List.length x1 : Nat) : Int) - 1))) fun x9 =>
   Option.bind (f30_p0 F x1 x2 x3 x5 x9 x6 x7 x8) fun x10 =>
   Option.bind (f30_p1 F x1 x2 x3 x10 x6 x7 x8) fun x12 =>
   if (x12 != 0) = true then
    some (0, 0, 0, x12)
   else
    Option.bind (f52 F x1) fun x13 =>
    req ((0 : Int) ≤ x2 ∧ (x2 : Int) < (((List.length x13) : Nat) : Int)) <|
    req ((0 + (Int.toNat x2)) < List.length x13) <|
    req ((0 + (List.length x13)) ≤ List.length (List.set x13 (0 + (Int.toNat x2)) x3)) <|
    Option.bind (f65_2 F (List.drop 0 (List.take (0 + (List.length x13)) (List.set x13 (0 + (Int.toNat x2)) x3)))) fun
    | .c0 x14 =>
     Option.bind (f66_1 F) fun _ => none
    | .c1 x15 x16 x17 x18 =>
     Option.bind (f66_2 F x16 x17 x18) fun (x19, x20) =>
     Option.bind (at? x19 x2) fun x21 =>
     Option.bind (f78_1 F x2 x21 x20 x17 x18) fun (x22, x23) =>
     Option.bind (f72_2 F x2 x21 x6 x7 x8) fun x24 =>
     some (x21, x22, (w64 (x24 - x22)), 0)
  else
   some (0, 0, 0, x5)

def f83_p0 (F : Nat) (x2 : List Int) (x3 : Int) : Option Unit :=
 if (x3 == 0) = true then
  none
 else
  some ()
def f83_p0_1 (F : Nat) (x2 : List Int) (x4 : Int) (x5 : Mm) (x6 : List (List Int)) (x7 : Int) : Option Int :=
 if (x4 == 0) = true then
  Option.bind (f76 F x2 x7) fun x8 =>
  some x8
 else
  some x4
inductive f83_R where
 | c0 (a0 : Int)
 | c1 (a0 : Int) (a1 : Mm) (a2 : List (List Int)) (a3 : Int)
def f83 (F : Nat) (x1 : List (List Int)) (x2 : List Int) : Option f83_R :=
 Option.bind (f65 F x1) fun
 | .c0 x3 =>
  Option.bind (f83_p0 F x2 x3) fun _ =>
  some (.c0 x3)
 | .c1 x4 x5 x6 x7 =>
  Option.bind (f83_p0_1 F x2 x4 x5 x6 x7) fun x9 =>
  some (.c1 x9 x5 x6 x7)

def f84_p6 (F : Nat) (x2 x6 : Int) (x7 x8 : Int) (x1 : List Int) (x11 x9 : Int) (x3 : Mm) (x4 : List (List Int)) (x5 : Int) : Option Int :=
 if ((w64 (x11 - x9)) == x6) = true then
  req ((0 : Int) ≤ x8) <|
  some (iOr .u8 x7 (iShl .u8 1 x8))
 else
  some x7
def f84_p5 (F : Nat) (x2 x6 : Int) (x7 x8 : Int) (x11 x9 : Int) (x1 : List Int) (x3 : Mm) (x4 : List (List Int)) (x5 : Int) : Option (Int × Int) :=
 if (decide ((w64 (x11 - x9)) > x6)) = true then
  req ((0 : Int) ≤ x8) <|
  some ((w64 (x11 - x9)), (iShl .u8 1 x8))
 else
  Option.bind (f84_p6 F x2 x6 x7 x8 x1 x11 x9 x3 x4 x5) fun x12 =>
  some (x6, x12)
def f84_p1 (F : Nat) (x2 : Int) (x1 : List Int) (x3 : Mm) (x4 : List (List Int)) (x5 : Int) : Nat → Int → Int → Int → Option (Int × Int)
 | 0, _, _, _ => none
 | k + 1, x6, x7, x8 =>
  if (decide (x8 < ((List.length x1 : Nat) : Int))) = true then
   Option.bind (at? x1 x8) fun x9 =>
   Option.bind (at? x4 x2) fun x10 =>
   Option.bind (at? x10 x8) fun x11 =>
   Option.bind (f84_p5 F x2 x6 x7 x8 x11 x9 x1 x3 x4 x5) fun (x13, x14) =>
   f84_p1 F x2 x1 x3 x4 x5 k x13 x14 (w64 (x8 + 1))
  else
   some (x6, x7)
def f84 (F : Nat) (x1 : List Int) (x2 : Int) (x3 : Mm) (x4 : List (List Int)) (x5 : Int) : Option (Int × Bool) :=
 Option.bind (f84_p1 F x2 x1 x3 x4 x5 F 0 0 0) fun (x15, x16) =>
 some (x16, (x15 == 0))

def f32_p5_1 (F : Nat) (x2 : List Int) (x16 : List (List Int)) (x18 : Int) (x1 : List (List Int)) (x17 : Int) (x19 : Bool) (x5 : Mm) (x6 : List (List Int)) (x7 : Int) : Option (List Int) :=
 if x19 = true then
  req (List.length ([] : List Int) + List.length ([(-1)] : List Int) ≤ 1099511627776) <|
  some (([] : List Int) ++ ([(-1)] : List Int))
 else
  some ([] : List Int)
def f32_p10_1 (F : Nat) (x2 : List Int) (x16 : List (List Int)) (x18 : Int) (x21 : List Int) (x22 : Int) (x1 : List (List Int)) (x17 x7 : Int) (x5 : Mm) (x6 : List (List Int)) : Option (List Int) :=
 if ((iAnd .u8 (iShr .u8 x18 x22) 1) == 1) = true then
  req (List.length x21 + List.length ([x22] : List Int) ≤ 1099511627776) <|
  some (x21 ++ ([x22] : List Int))
 else
  some x21
def f32_p7_1 (F : Nat) (x2 : List Int) (x16 : List (List Int)) (x18 : Int) (x1 : List (List Int)) (x17 x7 : Int) (x5 : Mm) (x6 : List (List Int)) : Nat → Int → (List Int) → Option (List Int)
 | 0, _, _ => none
 | k + 1, x22, x21 =>
  if (decide (x22 < x7)) = true then
   req ((0 : Int) ≤ x22) <|
   Option.bind (f32_p10_1 F x2 x16 x18 x21 x22 x1 x17 x7 x5 x6) fun x23 =>
   f32_p7_1 F x2 x16 x18 x1 x17 x7 x5 x6 k (w64 (x22 + 1)) x23
  else
   some x21
def f32_p2 (F : Nat) (x2 : List Int) (x1 : List (List Int)) (x5 : Mm) (x6 : List (List Int)) (x7 : Int) : Nat → Int → (List (List Int)) → Option (List (List Int))
 | 0, _, _ => none
 | k + 1, x17, x16 =>
  if (decide (x17 < ((List.length x1 : Nat) : Int))) = true then
   Option.bind (f84 F x2 x17 x5 x6 x7) fun (x18, x19) =>
   Option.bind (f32_p5_1 F x2 x16 x18 x1 x17 x19 x5 x6 x7) fun x20 =>
   Option.bind (f32_p7_1 F x2 x16 x18 x1 x17 x7 x5 x6 F 0 x20) fun x24 =>
   req (List.length x16 + List.length ([(List.drop 0 (List.take (0 + (List.length x24)) x24))] : List (List Int)) ≤ 1099511627776) <|
   f32_p2 F x2 x1 x5 x6 x7 k (w64 (x17 + 1)) (x16 ++ ([(List.drop 0 (List.take (0 + (List.length x24)) x24))] : List (List Int)))
  else
   some x16
def f32 (F : Nat) (x1 : List (List Int)) (x2 : List Int) : Option ((List (List Int)) × Int) :=
 Option.bind (f83 F x1 x2) fun
 | .c0 x3 =>
  if (x3 != 0) = true then
   some (([] : List (List Int)), x3)
  else
   none
 | .c1 x4 x5 x6 x7 =>
  if (x4 != 0) = true then
   some (([] : List (List Int)), x4)
  else
   Option.bind (f32_p2 F x2 x1 x5 x6 x7 F 0 ([] : List (List Int))) fun x25 =>
   some ((List.drop 0 (List.take (0 + (List.length x25)) x25)), 0)

def f104 (F : Nat) (x1 : Int) : Option Bool :=
 some (x1 != x1)

def f98 (F : Nat) (x1 x2 : Int) : Option Int :=
 Option.bind (f104 F x1) fun x3 =>
 Option.bind (f104 F x2) fun x4 =>
 if x3 = true then
  if x4 = true then
   some 0
  else
   some (-1)
 else
 if x4 = true then
  some 1
 else
 if (decide (x1 < x2)) = true then
  some (-1)
 else
 if (decide (x1 > x2)) = true then
  some 1
 else
  some 0

inductive f56_p1_R where
 | c0 (a0 : Int)
 | c1
def f56_p1 (F : Nat) (x1 : List Int) (x2 : Option (List Int)) : Nat → Int → Option f56_p1_R
 | 0, _ => none
 | k + 1, x3 =>
  if (decide (x3 < ((List.length x1 : Nat) : Int))) = true then
   Option.bind (at? x1 x3) fun x4 =>
   if (decide (x3 ≥ ((List.length ((x2).getD []) : Nat) : Int))) = true then
    some (.c0 1)
   else
    Option.bind (at? ((x2).getD []) x3) fun x5 =>
    Option.bind (f98 F x4 x5) fun x6 =>
    if (x6 != 0) = true then
     some (.c0 x6)
    else
     f56_p1 F x1 x2 k (w64 (x3 + 1))
  else
   some .c1
def f56 (F : Nat) (x1 : List Int) (x2 : Option (List Int)) : Option Int :=
 Option.bind (f56_p1 F x1 x2 F 0) fun
 | .c0 x7 =>
  some x7
 | .c1 =>
  if (decide (((List.length x1 : Nat) : Int) < ((List.length ((x2).getD []) : Nat) : Int))) = true then
   some (-1)
  else
   some 0

def f34_p9_1 (F : Nat) (x1 : List (List Int)) (x2 : List Int) (x8 : Option (List Int)) (x9 : Int) (x17 : List Int) (x18 : Int) (x19 : Bool) (x20 : Int) (x5 : Mm) (x6 : List (List Int)) (x7 : Int) : Option (Int × Bool × (List Int)) :=
 if ((iAnd .i64 (iShr .i64 x9 x20) 1) == 1) = true then
  Option.bind (f84 F x2 x20 x5 x6 x7) fun (x21, x22) =>
  req (List.length x17 + List.length ([x20] : List Int) ≤ 1099511627776) <|
  if x19 = true then
   some ((iOr .u8 x18 x21), true, (x17 ++ ([x20] : List Int)))
  else
   some ((iOr .u8 x18 x21), x22, (x17 ++ ([x20] : List Int)))
 else
  some (x18, x19, x17)
def f34_p6 (F : Nat) (x1 : List (List Int)) (x2 : List Int) (x8 : Option (List Int)) (x9 : Int) (x5 : Mm) (x6 : List (List Int)) (x7 : Int) : Nat → Int → Bool → Int → (List Int) → Option (Int × Bool × (List Int))
 | 0, _, _, _, _ => none
 | k + 1, x18, x19, x20, x17 =>
  if (decide (x20 < ((List.length x1 : Nat) : Int))) = true then
   req ((0 : Int) ≤ x20) <|
   Option.bind (f34_p9_1 F x1 x2 x8 x9 x17 x18 x19 x20 x5 x6 x7) fun (x23, x24, x25) =>
   f34_p6 F x1 x2 x8 x9 x5 x6 x7 k x23 x24 (w64 (x20 + 1)) x25
  else
   some (x18, x19, x17)
def f34_p11 (F : Nat) (x1 : List (List Int)) (x2 : List Int) (x8 : Option (List Int)) (x9 : Int) (x28 : List Int) (x27 : Bool) (x5 : Mm) (x6 : List (List Int)) (x7 : Int) : Nat → Int → Int → Option Int
 | 0, _, _ => none
 | k + 1, x29, x30 =>
  if (x29 != 0) = true then
   f34_p11 F x1 x2 x8 x9 x28 x27 x5 x6 x7 k (iAnd .u8 x29 (IntKind.wrap .u8 (x29 - 1))) (w64 (x30 + 1))
  else
   some x30
def f34_r21 (F : Nat) (x1 : List (List Int)) (x2 : List Int) (x8 : Option (List Int)) (x9 : Int) (x28 : List Int) (x27 : Bool) (x31 : Int) (x5 : Mm) (x6 : List (List Int)) (x7 : Int) : Option Bool :=
 if x27 = true then
  some false
 else
 if (decide (x31 < (((List.length x28) : Nat) : Int))) = true then
  if (Option.isNone x8) = true then
   some true
  else
  if (decide ((((List.length x28) : Nat) : Int) < ((List.length ((x8).getD []) : Nat) : Int))) = true then
   some true
  else
  if ((((List.length x28) : Nat) : Int) == ((List.length ((x8).getD []) : Nat) : Int)) = true then
   Option.bind (f56 F (List.drop 0 (List.take (0 + (List.length x28)) x28)) x8) fun x32 =>
   some (decide (x32 < 0))
  else
   some false
 else
  some false
def f34_p14 (F : Nat) (x1 : List (List Int)) (x2 : List Int) (x8 : Option (List Int)) (x9 : Int) (x28 : List Int) (x33 : Bool) (x5 : Mm) (x6 : List (List Int)) (x7 : Int) : Option (Option (List Int)) :=
 if x33 = true then
  req ((List.drop 0 (List.take (0 + (List.length x28)) x28)) ≠ []) <|
  some (some (List.drop 0 (List.take (0 + (List.length x28)) x28)))
 else
  some x8
def f34_p2 (F : Nat) (x1 : List (List Int)) (x2 : List Int) (x5 : Mm) (x6 : List (List Int)) (x7 : Int) : Nat → (Option (List Int)) → Int → Option (Option (List Int))
 | 0, _, _ => none
 | k + 1, x8, x9 =>
  req ((0 : Int) ≤ ((List.length x1 : Nat) : Int)) <|
  if (decide (x9 < (iShl .i64 1 ((List.length x1 : Nat) : Int)))) = true then
   Option.bind (f34_p6 F x1 x2 x8 x9 x5 x6 x7 F 0 false 0 ([] : List Int)) fun (x26, x27, x28) =>
   Option.bind (f34_p11 F x1 x2 x8 x9 x28 x27 x5 x6 x7 F x26 0) fun x31 =>
   Option.bind (f34_r21 F x1 x2 x8 x9 x28 x27 x31 x5 x6 x7) fun x33 =>
   Option.bind (f34_p14 F x1 x2 x8 x9 x28 x33 x5 x6 x7) fun x34 =>
   f34_p2 F x1 x2 x5 x6 x7 k x34 (w64 (x9 + 1))
  else
   some x8
def f34 (F : Nat) (x1 : List (List Int)) (x2 : List Int) : Option ((List Int) × Int) :=
 Option.bind (f83 F x1 x2) fun
 | .c0 x3 =>
  if (x3 != 0) = true then
   some (([] : List Int), x3)
  else
   none
 | .c1 x4 x5 x6 x7 =>
  if (x4 != 0) = true then
   some (([] : List Int), x4)
  else
   Option.bind (f34_p2 F x1 x2 x5 x6 x7 F (none : Option (List Int)) 1) fun x35 =>
   if (Option.isNone x35) = true then
    some (([] : List Int), 13)
   else
    some (((x35).getD []), 0)

def f89 (F : Nat) (x1 x2 : Nat) (x3 : Int) (x4 : List Int) : Option (Bool × (List Int)) :=
 Option.bind ((x4)[x2]?) fun x5 =>
 Option.bind ((x4)[x1]?) fun x6 =>
 if (decide (x5 ≥ (w64 (x6 + x3)))) = true then
  some (false, x4)
 else
  req (x2 < List.length x4) <|
  some (true, (List.set x4 x2 (w64 (x6 + x3))))

def f89_1 (F : Nat) (x1 : Nat) (x2 : Int) (x3 : List Int) (x4 : Int) : Option (Bool × (List Int)) :=
 Option.bind ((x3)[x1]?) fun x5 =>
 if (decide (x5 ≥ (w64 (x4 + x2)))) = true then
  some (false, x3)
 else
  req (x1 < List.length x3) <|
  some (true, (List.set x3 x1 (w64 (x4 + x2))))

inductive f88_p8_3_R where
 | c0
 | c1
def f88_p8_3 (F : Nat) (x1 x2 : Nat) (x7 : List Int) (x101 : Bool) (x102 x103 : Int) (x8 : Mm) (x4 : List (List Int)) (x5 : Int) (x100 : List Int) : Option f88_p8_3_R :=
 if (decide (x103 ≥ 0)) = true then
  req ((0 : Int) ≤ x103 ∧ (x103 : Int) < ((x2 : Nat) : Int)) <|
  some .c0
 else
  some .c1
def f88_p13_9 (F : Nat) (x1 x2 : Nat) (x7 : List Int) (x113 : Bool) (x102 x103 x114 : Int) (x118 : Bool) (x8 : Mm) (x4 : List (List Int)) (x5 : Int) (x119 : List Int) : Option Bool :=
 if x118 = true then
  some true
 else
  some x113
def f88_p10_4 (F : Nat) (x1 x2 : Nat) (x7 : List Int) (x102 x103 : Int) (x8 : Mm) (x4 : List (List Int)) (x5 : Int) : Nat → Bool → Int → (List Int) → Option (Bool × (List Int))
 | 0, _, _, _ => none
 | k + 1, x113, x114, x112 =>
  if (decide (x114 < ((x2 : Nat) : Int))) = true then
   if (x114 != x103) = true then
    req ((0 : Int) ≤ x114 ∧ (x114 : Int) < ((x2 : Nat) : Int)) <|
    Option.bind (at? x4 x102) fun x115 =>
    Option.bind (at? x115 x114) fun x116 =>
    Option.bind (f72 F x102 x103 x8 x4 x5) fun x117 =>
    Option.bind (f89 F (x1 + (Int.toNat x103)) (x1 + (Int.toNat x114)) (w64 (x116 - x117)) x112) fun (x118, x119) =>
    Option.bind (f88_p13_9 F x1 x2 x7 x113 x102 x103 x114 x118 x8 x4 x5 x119) fun x120 =>
    f88_p10_4 F x1 x2 x7 x102 x103 x8 x4 x5 k x120 (w64 (x114 + 1)) x119
   else
    f88_p10_4 F x1 x2 x7 x102 x103 x8 x4 x5 k x113 (w64 (x114 + 1)) x112
  else
   some (x113, x112)
def f88_p13_11 (F : Nat) (x1 x2 : Nat) (x7 : List Int) (x132 : Bool) (x102 x103 x133 : Int) (x137 : Bool) (x8 : Mm) (x4 : List (List Int)) (x5 : Int) (x138 : List Int) : Option Bool :=
 if x137 = true then
  some true
 else
  some x132
def f88_p10_5 (F : Nat) (x1 x2 : Nat) (x7 : List Int) (x102 x103 : Int) (x8 : Mm) (x4 : List (List Int)) (x5 : Int) : Nat → Bool → Int → (List Int) → Option (Bool × (List Int))
 | 0, _, _, _ => none
 | k + 1, x132, x133, x131 =>
  if (decide (x133 < ((x2 : Nat) : Int))) = true then
   if (x133 != x103) = true then
    req ((0 : Int) ≤ x133 ∧ (x133 : Int) < ((x2 : Nat) : Int)) <|
    Option.bind (at? x4 x102) fun x134 =>
    Option.bind (at? x134 x133) fun x135 =>
    Option.bind (f72 F x102 x103 x8 x4 x5) fun x136 =>
    Option.bind (f89_1 F (x1 + (Int.toNat x133)) (w64 (x135 - x136)) x131 0) fun (x137, x138) =>
    Option.bind (f88_p13_11 F x1 x2 x7 x132 x102 x103 x133 x137 x8 x4 x5 x138) fun x139 =>
    f88_p10_5 F x1 x2 x7 x102 x103 x8 x4 x5 k x139 (w64 (x133 + 1)) x138
   else
    f88_p10_5 F x1 x2 x7 x102 x103 x8 x4 x5 k x132 (w64 (x133 + 1)) x131
  else
   some (x132, x131)
def f88_p5_1 (F : Nat) (x1 x2 : Nat) (x7 : List Int) (x8 : Mm) (x4 : List (List Int)) (x5 : Int) : Nat → Bool → Int → (List Int) → Option (Bool × (List Int))
 | 0, _, _, _ => none
 | k + 1, x101, x102, x100 =>
  if (decide (x102 < ((List.length x7 : Nat) : Int))) = true then
   Option.bind (at? x7 x102) fun x103 =>
   Option.bind (f88_p8_3 F x1 x2 x7 x101 x102 x103 x8 x4 x5 x100) fun
   | .c0 =>
    Option.bind (f88_p10_4 F x1 x2 x7 x102 x103 x8 x4 x5 F x101 0 x100) fun (x121, x122) =>
    f88_p5_1 F x1 x2 x7 x8 x4 x5 k x121 (w64 (x102 + 1)) x122
   | .c1 =>
    Option.bind (f88_p10_5 F x1 x2 x7 x102 x103 x8 x4 x5 F x101 0 x100) fun (x140, x141) =>
    f88_p5_1 F x1 x2 x7 x8 x4 x5 k x140 (w64 (x102 + 1)) x141
  else
   some (x101, x100)
def f88_p1_18 (F : Nat) (x1 x2 : Nat) (x7 : List Int) (x8 : Mm) (x4 : List (List Int)) (x5 : Int) : Nat → Bool → (List Int) → Option (List Int)
 | 0, _, _ => none
 | k + 1, x77, x76 =>
  if x77 = true then
   Option.bind (f88_p5_1 F x1 x2 x7 x8 x4 x5 F false 0 x76) fun (x142, x143) =>
   f88_p1_18 F x1 x2 x7 x8 x4 x5 k x142 x143
  else
   some x76
def f88 (F : Nat) (x1 x2 : Nat) (x3 : Mm) (x4 : List (List Int)) (x5 : Int) (x6 : List Int) : Option (Nat × Nat × Mm × (List Int)) :=
 Option.bind (f66 F x3 x4 x5) fun (x7, x8) =>
 Option.bind (f88_p1_18 F x1 x2 x7 x8 x4 x5 F true x6) fun x144 =>
 some (x1, x2, x8, x144)

def f39 (F : Nat) (x1 : List (List Int)) : Option ((List Int) × Int) :=
 Option.bind (f65 F x1) fun
 | .c0 x2 =>
  if (x2 != 0) = true then
   some (([] : List Int), x2)
  else
   none
 | .c1 x3 x4 x5 x6 =>
  if (x3 != 0) = true then
   some (([] : List Int), x3)
  else
   req ((0 : Int) ≤ x6 ∧ (x6 : Int) ≤ x6 ∧ (x6 : Int) ≤ 1099511627776) <|
   Option.bind (f88 F 0 (Int.toNat x6) x4 x5 x6 (List.replicate (Int.toNat x6) (0 : Int))) fun (x7, x8, x9, x10) =>
   req ((x7 + x8) ≤ List.length x10) <|
   some ((List.drop x7 (List.take (x7 + x8) x10)), 0)

def f64 (F : Nat) : Option (List (List Int)) :=
 Option.bind (f45 F ([7, 7] : List Int)) fun x1 =>
 Option.bind (f45 F ([7, 2] : List Int)) fun x2 =>
 Option.bind (f46 F ([x1, x2] : List (List Int))) fun x3 =>
 some x3

def f91 (F : Nat) (x1 x2 : Nat) (x3 : Int) (x4 : List Int) : Option (Bool × (List Int)) :=
 Option.bind ((x4)[x2]?) fun x5 =>
 Option.bind ((x4)[x1]?) fun x6 =>
 if (decide (x5 ≥ (w64 (x6 + x3)))) = true then
  some (false, x4)
 else
  req (x1 < List.length x4) <|
  some (true, (List.set x4 x1 (w64 (x5 - x3))))

def f91_1 (F : Nat) (x1 : Nat) (x2 : Int) (x3 : List Int) (x4 : Int) : Option (Bool × Int) :=
 Option.bind ((x3)[x1]?) fun x5 =>
 if (decide (x5 ≥ (w64 (x4 + x2)))) = true then
  some (false, x4)
 else
  some (true, (w64 (x5 - x2)))

inductive f88_1_p8_5_R where
 | c0
 | c1
def f88_1_p8_5 (F : Nat) (x1 x2 : Nat) (x7 : List Int) (x188 : Bool) (x189 x191 : Int) (x8 : Mm) (x4 : List (List Int)) (x5 : Int) (x187 : List Int) (x190 : Int) : Option f88_1_p8_5_R :=
 if (decide (x191 ≥ 0)) = true then
  req ((0 : Int) ≤ x191 ∧ (x191 : Int) < ((x2 : Nat) : Int)) <|
  some .c0
 else
  some .c1
def f88_1_p13_17 (F : Nat) (x1 x2 : Nat) (x7 : List Int) (x201 : Bool) (x189 x191 x202 : Int) (x206 : Bool) (x8 : Mm) (x4 : List (List Int)) (x5 : Int) (x207 : List Int) (x190 : Int) : Option Bool :=
 if x206 = true then
  some true
 else
  some x201
def f88_1_p10_8 (F : Nat) (x1 x2 : Nat) (x7 : List Int) (x189 x191 : Int) (x8 : Mm) (x4 : List (List Int)) (x5 x190 : Int) : Nat → Bool → Int → (List Int) → Option (Bool × (List Int))
 | 0, _, _, _ => none
 | k + 1, x201, x202, x200 =>
  if (decide (x202 < ((x2 : Nat) : Int))) = true then
   if (x202 != x191) = true then
    req ((0 : Int) ≤ x202 ∧ (x202 : Int) < ((x2 : Nat) : Int)) <|
    Option.bind (at? x4 x189) fun x203 =>
    Option.bind (at? x203 x202) fun x204 =>
    Option.bind (f72 F x189 x191 x8 x4 x5) fun x205 =>
    Option.bind (f91 F (x1 + (Int.toNat x191)) (x1 + (Int.toNat x202)) (w64 (x204 - x205)) x200) fun (x206, x207) =>
    Option.bind (f88_1_p13_17 F x1 x2 x7 x201 x189 x191 x202 x206 x8 x4 x5 x207 x190) fun x208 =>
    f88_1_p10_8 F x1 x2 x7 x189 x191 x8 x4 x5 x190 k x208 (w64 (x202 + 1)) x207
   else
    f88_1_p10_8 F x1 x2 x7 x189 x191 x8 x4 x5 x190 k x201 (w64 (x202 + 1)) x200
  else
   some (x201, x200)
def f88_1_p13_19 (F : Nat) (x1 x2 : Nat) (x7 : List Int) (x219 : Bool) (x189 x191 x220 : Int) (x225 : Bool) (x8 : Mm) (x4 : List (List Int)) (x5 : Int) (x187 : List Int) (x226 : Int) : Option Bool :=
 if x225 = true then
  some true
 else
  some x219
def f88_1_p10_9 (F : Nat) (x1 x2 : Nat) (x7 : List Int) (x189 x191 : Int) (x8 : Mm) (x4 : List (List Int)) (x5 : Int) (x187 : List Int) : Nat → Bool → Int → Int → Option (Bool × Int)
 | 0, _, _, _ => none
 | k + 1, x219, x220, x221 =>
  if (decide (x220 < ((x2 : Nat) : Int))) = true then
   if (x220 != x191) = true then
    req ((0 : Int) ≤ x220 ∧ (x220 : Int) < ((x2 : Nat) : Int)) <|
    Option.bind (at? x4 x189) fun x222 =>
    Option.bind (at? x222 x220) fun x223 =>
    Option.bind (f72 F x189 x191 x8 x4 x5) fun x224 =>
    Option.bind (f91_1 F (x1 + (Int.toNat x220)) (w64 (x223 - x224)) x187 x221) fun (x225, x226) =>
    Option.bind (f88_1_p13_19 F x1 x2 x7 x219 x189 x191 x220 x225 x8 x4 x5 x187 x226) fun x227 =>
    f88_1_p10_9 F x1 x2 x7 x189 x191 x8 x4 x5 x187 k x227 (w64 (x220 + 1)) x226
   else
    f88_1_p10_9 F x1 x2 x7 x189 x191 x8 x4 x5 x187 k x219 (w64 (x220 + 1)) x221
  else
   some (x219, x221)
def f88_1_p5_1 (F : Nat) (x1 x2 : Nat) (x7 : List Int) (x8 : Mm) (x4 : List (List Int)) (x5 : Int) : Nat → Bool → Int → (List Int) → Int → Option (Bool × (List Int) × Int)
 | 0, _, _, _, _ => none
 | k + 1, x188, x189, x187, x190 =>
  if (decide (x189 < ((List.length x7 : Nat) : Int))) = true then
   Option.bind (at? x7 x189) fun x191 =>
   Option.bind (f88_1_p8_5 F x1 x2 x7 x188 x189 x191 x8 x4 x5 x187 x190) fun
   | .c0 =>
    Option.bind (f88_1_p10_8 F x1 x2 x7 x189 x191 x8 x4 x5 x190 F x188 0 x187) fun (x209, x210) =>
    f88_1_p5_1 F x1 x2 x7 x8 x4 x5 k x209 (w64 (x189 + 1)) x210 x190
   | .c1 =>
    Option.bind (f88_1_p10_9 F x1 x2 x7 x189 x191 x8 x4 x5 x187 F x188 0 x190) fun (x228, x229) =>
    f88_1_p5_1 F x1 x2 x7 x8 x4 x5 k x228 (w64 (x189 + 1)) x187 x229
  else
   some (x188, x187, x190)
def f88_1_p1_30 (F : Nat) (x1 x2 : Nat) (x7 : List Int) (x8 : Mm) (x4 : List (List Int)) (x5 : Int) : Nat → Bool → (List Int) → Int → Option (List Int)
 | 0, _, _, _ => none
 | k + 1, x121, x120, x122 =>
  if x121 = true then
   Option.bind (f88_1_p5_1 F x1 x2 x7 x8 x4 x5 F false 0 x120 x122) fun (x230, x231, x232) =>
   f88_1_p1_30 F x1 x2 x7 x8 x4 x5 k x230 x231 x232
  else
   some x120
def f88_1 (F : Nat) (x1 x2 : Nat) (x3 : Mm) (x4 : List (List Int)) (x5 : Int) (x6 : List Int) : Option (Nat × Nat × Mm × (List Int)) :=
 Option.bind (f66 F x3 x4 x5) fun (x7, x8) =>
 Option.bind (f88_1_p1_30 F x1 x2 x7 x8 x4 x5 F true x6 0) fun x233 =>
 some (x1, x2, x8, x233)

def f41_p5_1 (F : Nat) (x1 : List (List Int)) (x6 x15 x16 : Int) (x7 : List Int) (x8 : Mm) (x5 : List (List Int)) (x14 : List Int) : Option (List Int) :=
 if (decide (x16 ≥ 0)) = true then
  Option.bind (at? x1 x15) fun x17 =>
  Option.bind (at? x17 x16) fun x18 =>
  req ((0 : Int) ≤ x16 ∧ (x16 : Int) < (((Int.toNat x6) : Nat) : Int)) <|
  req ((0 + (Int.toNat x16)) < List.length x14) <|
  some (List.set x14 (0 + (Int.toNat x16)) x18)
 else
  some x14
def f41_p2 (F : Nat) (x1 : List (List Int)) (x6 : Int) (x7 : List Int) (x8 : Mm) (x5 : List (List Int)) : Nat → Int → (List Int) → Option (List Int)
 | 0, _, _ => none
 | k + 1, x15, x14 =>
  if (decide (x15 < ((List.length x7 : Nat) : Int))) = true then
   Option.bind (at? x7 x15) fun x16 =>
   Option.bind (f41_p5_1 F x1 x6 x15 x16 x7 x8 x5 x14) fun x19 =>
   f41_p2 F x1 x6 x7 x8 x5 k (w64 (x15 + 1)) x19
  else
   some x14
def f41 (F : Nat) (x1 : List (List Int)) : Option ((List Int) × Int) :=
 Option.bind (f65 F x1) fun
 | .c0 x2 =>
  if (x2 != 0) = true then
   some (([] : List Int), x2)
  else
   none
 | .c1 x3 x4 x5 x6 =>
  if (x3 != 0) = true then
   some (([] : List Int), x3)
  else
   req ((0 : Int) ≤ x6 ∧ (x6 : Int) ≤ x6 ∧ (x6 : Int) ≤ 1099511627776) <|
   Option.bind (f66 F x4 x5 x6) fun (x7, x8) =>
   Option.bind (f41_p2 F x1 x6 x7 x8 x5 F 0 (List.replicate (Int.toNat x6) (0 : Int))) fun x20 =>
   Option.bind (f88_1 F 0 (Int.toNat x6) x8 x5 x6 x20) fun (x21, x22, x23, x24) =>
   req ((x21 + x22) ≤ List.length x24) <|
   some ((List.drop x21 (List.take (x21 + x22) x24)), 0)

inductive f21_p4_R where
 | c0 (a0 : Int)
 | c1 (a0 : Int)
def f21_p4 (F : Nat) (x2 : List Int) (x5 : Mm) (x6 : List (List Int)) (x7 : Int) : Nat → Int → Int → Int → Option f21_p4_R
 | 0, _, _, _ => none
 | k + 1, x9, x10, x11 =>
  if (decide (x11 < ((List.length x2 : Nat) : Int))) = true then
   Option.bind (at? x2 x11) fun x12 =>
   Option.bind (f70 F (-1) x12 (w64 (x7 - 1))) fun x13 =>
   if x13 = true then
    Option.bind (f71 F x9 x12) fun (x14, x15) =>
    if x15 = true then
     Option.bind (f72 F x11 x12 x5 x6 x7) fun x16 =>
     f21_p4 F x2 x5 x6 x7 k x14 (w64 (x10 + x16)) (w64 (x11 + 1))
    else
     some (.c0 6)
   else
    some (.c0 2)
  else
   some (.c1 x10)
def f21 (F : Nat) (x1 : List (List Int)) (x2 : List Int) : Option (Int × Int) :=
 Option.bind (f65 F x1) fun
 | .c0 x3 =>
  if (x3 != 0) = true then
   some (0, x3)
  else
   none
 | .c1 x4 x5 x6 x7 =>
  if (x4 != 0) = true then
   some (0, x4)
  else
  if (((List.length x2 : Nat) : Int) != ((List.length x1 : Nat) : Int)) = true then
   some (0, 5)
  else
   Option.bind (f69 F x5 x6 x7) fun x8 =>
   Option.bind (f21_p4 F x2 x5 x6 x7 F x8 0 0) fun
   | .c0 x17 =>
    some (0, x17)
   | .c1 x18 =>
    some (x18, 0)

inductive f23_p2_R where
 | c0
 | c1
def f23_p2 (F : Nat) (x1 x2 : List Int) : Nat → Int → Option f23_p2_R
 | 0, _ => none
 | k + 1, x3 =>
  if (decide (x3 < ((List.length x1 : Nat) : Int))) = true then
   Option.bind (at? x1 x3) fun x4 =>
   Option.bind (at? x2 x3) fun x5 =>
   if (x4 != x5) = true then
    some .c0
   else
    f23_p2 F x1 x2 k (w64 (x3 + 1))
  else
   some .c1
def f23 (F : Nat) (x1 x2 : List Int) : Option Bool :=
 if (((List.length x1 : Nat) : Int) != ((List.length x2 : Nat) : Int)) = true then
  some false
 else
  Option.bind (f23_p2 F x1 x2 F 0) fun
  | .c0 =>
   some false
  | .c1 =>
   some true

inductive f36_p2_R where
 | c0
 | c1
def f36_p2 (F : Nat) (x1 x2 : List (List Int)) : Nat → Int → Option f36_p2_R
 | 0, _ => none
 | k + 1, x3 =>
  if (decide (x3 < ((List.length x1 : Nat) : Int))) = true then
   Option.bind (at? x1 x3) fun x4 =>
   Option.bind (at? x2 x3) fun x5 =>
   Option.bind (f23 F x4 x5) fun x6 =>
   if x6 = true then
    f36_p2 F x1 x2 k (w64 (x3 + 1))
   else
    some .c0
  else
   some .c1
def f36 (F : Nat) (x1 x2 : List (List Int)) : Option Bool :=
 if (((List.length x1 : Nat) : Int) != ((List.length x2 : Nat) : Int)) = true then
  some false
 else
  Option.bind (f36_p2 F x1 x2 F 0) fun
  | .c0 =>
   some false
  | .c1 =>
   some true

def f84_1_p1 (F : Nat) (x2 : Int) (x1 : List Int) : Nat → Int → Int → Int → Option (Int × Int)
 | 0, _, _, _ => none
 | k + 1, x3, x4, x5 =>
  if (decide (x5 < ((List.length x1 : Nat) : Int))) = true then
   Option.bind (at? x1 x5) fun x6 =>
   none
  else
   some (x3, x4)
def f84_1 (F : Nat) (x1 : List Int) (x2 : Int) : Option (Int × Bool) :=
 Option.bind (f84_1_p1 F x2 x1 F 0 0 0) fun (x7, x8) =>
 some (x8, (x7 == 0))

inductive f96_p1_R where
 | c0 (a0 : Int)
 | c1
def f96_p1 (F : Nat) (x1 : List Int) (x2 : Int) : Nat → Int → Option f96_p1_R
 | 0, _ => none
 | k + 1, x3 =>
  if (decide (x3 < ((List.length x1 : Nat) : Int))) = true then
   Option.bind (at? x1 x3) fun x4 =>
   if (x2 == x4) = true then
    some (.c0 x3)
   else
    f96_p1 F x1 x2 k (w64 (x3 + 1))
  else
   some .c1
def f96 (F : Nat) (x1 : List Int) (x2 : Int) : Option Int :=
 Option.bind (f96_p1 F x1 x2 F 0) fun
 | .c0 x5 =>
  some x5
 | .c1 =>
  some (-1)

def f53 (F : Nat) (x1 : List Int) (x2 : Int) : Option Bool :=
 Option.bind (f96 F x1 x2) fun x3 =>
 some (decide (x3 ≥ 0))

def f37_p0 (F : Nat) (x1 : List (List Int)) (x2 x3 : List Int) (x4 : Int) : Option Int :=
 if (x4 == 0) = true then
  Option.bind (f21 F x1 x3) fun (x5, x6) =>
  some x6
 else
  some x4
inductive f37_p3_R where
 | c0
 | c1
def f37_p3 (F : Nat) (x2 x3 : List Int) : Nat → Int → Option f37_p3_R
 | 0, _ => none
 | k + 1, x8 =>
  if (decide (x8 < ((List.length x3 : Nat) : Int))) = true then
   Option.bind (at? x3 x8) fun x9 =>
   Option.bind (f84_1 F x2 x8) fun (x10, x11) =>
   if (decide (x9 < 0)) = true then
    if x11 = true then
     if (decide (x9 ≥ 0)) = true then
      req ((0 : Int) ≤ x9) <|
      if ((iAnd .u8 (iShr .u8 x10 x9) 1) == 0) = true then
       some .c0
      else
       f37_p3 F x2 x3 k (w64 (x8 + 1))
     else
      f37_p3 F x2 x3 k (w64 (x8 + 1))
    else
     some .c0
   else
   if (decide (x9 ≥ 0)) = true then
    req ((0 : Int) ≤ x9) <|
    if ((iAnd .u8 (iShr .u8 x10 x9) 1) == 0) = true then
     some .c0
    else
     f37_p3 F x2 x3 k (w64 (x8 + 1))
   else
    f37_p3 F x2 x3 k (w64 (x8 + 1))
  else
   some .c1
inductive f37_p8_R where
 | c0
 | c1
def f37_p8 (F : Nat) (x3 x2 : List Int) : Nat → Int → Option f37_p8_R
 | 0, _ => none
 | k + 1, x12 =>
  if (decide (x12 < ((List.length x2 : Nat) : Int))) = true then
   Option.bind (at? x2 x12) fun x13 =>
   if (decide (x13 > 0)) = true then
    Option.bind (f53 F x3 x12) fun x14 =>
    if x14 = true then
     f37_p8 F x3 x2 k (w64 (x12 + 1))
    else
     some .c0
   else
    f37_p8 F x3 x2 k (w64 (x12 + 1))
  else
   some .c1
def f37_p0_1 (F : Nat) (x1 : List (List Int)) (x2 x3 : List Int) (x15 : Int) (x16 : Mm) (x17 : List (List Int)) (x18 : Int) : Option Int :=
 if (x15 == 0) = true then
  Option.bind (f21 F x1 x3) fun (x19, x20) =>
  some x20
 else
  some x15
inductive f37_p3_1_R where
 | c0
 | c1
def f37_p3_1 (F : Nat) (x2 x3 : List Int) (x16 : Mm) (x17 : List (List Int)) (x18 : Int) : Nat → Int → Option f37_p3_1_R
 | 0, _ => none
 | k + 1, x22 =>
  if (decide (x22 < ((List.length x3 : Nat) : Int))) = true then
   Option.bind (at? x3 x22) fun x23 =>
   Option.bind (f84 F x2 x22 x16 x17 x18) fun (x24, x25) =>
   if (decide (x23 < 0)) = true then
    if x25 = true then
     if (decide (x23 ≥ 0)) = true then
      req ((0 : Int) ≤ x23) <|
      if ((iAnd .u8 (iShr .u8 x24 x23) 1) == 0) = true then
       some .c0
      else
       f37_p3_1 F x2 x3 x16 x17 x18 k (w64 (x22 + 1))
     else
      f37_p3_1 F x2 x3 x16 x17 x18 k (w64 (x22 + 1))
    else
     some .c0
   else
   if (decide (x23 ≥ 0)) = true then
    req ((0 : Int) ≤ x23) <|
    if ((iAnd .u8 (iShr .u8 x24 x23) 1) == 0) = true then
     some .c0
    else
     f37_p3_1 F x2 x3 x16 x17 x18 k (w64 (x22 + 1))
   else
    f37_p3_1 F x2 x3 x16 x17 x18 k (w64 (x22 + 1))
  else
   some .c1
inductive f37_p8_1_R where
 | c0
 | c1
def f37_p8_1 (F : Nat) (x3 x2 : List Int) : Nat → Int → Option f37_p8_1_R
 | 0, _ => none
 | k + 1, x26 =>
  if (decide (x26 < ((List.length x2 : Nat) : Int))) = true then
   Option.bind (at? x2 x26) fun x27 =>
   if (decide (x27 > 0)) = true then
    Option.bind (f53 F x3 x26) fun x28 =>
    if x28 = true then
     f37_p8_1 F x3 x2 k (w64 (x26 + 1))
    else
     some .c0
   else
    f37_p8_1 F x3 x2 k (w64 (x26 + 1))
  else
   some .c1
def f37 (F : Nat) (x1 : List (List Int)) (x2 x3 : List Int) : Option Int :=
 Option.bind (f83 F x1 x2) fun
 | .c0 x4 =>
  Option.bind (f37_p0 F x1 x2 x3 x4) fun x7 =>
  if (x7 != 0) = true then
   some x7
  else
   Option.bind (f37_p3 F x2 x3 F 0) fun
   | .c0 =>
    some 14
   | .c1 =>
    Option.bind (f37_p8 F x3 x2 F 0) fun
    | .c0 =>
     some 14
    | .c1 =>
     some 0
 | .c1 x15 x16 x17 x18 =>
  Option.bind (f37_p0_1 F x1 x2 x3 x15 x16 x17 x18) fun x21 =>
  if (x21 != 0) = true then
   some x21
  else
   Option.bind (f37_p3_1 F x2 x3 x16 x17 x18 F 0) fun
   | .c0 =>
    some 14
   | .c1 =>
    Option.bind (f37_p8_1 F x3 x2 F 0) fun
    | .c0 =>
     some 14
    | .c1 =>
     some 0

def f16 (F : Nat) : Option Bool :=
 Option.bind (f44 F) fun x1 =>
 Option.bind (f17 F x1) fun (x2, x3) =>
 Option.bind (f44 F) fun x4 =>
 Option.bind (f19 F x4) fun (x5, x6) =>
 Option.bind (f44 F) fun x7 =>
 Option.bind (f26 F x7) fun (x8, x9) =>
 Option.bind (f44 F) fun x10 =>
 Option.bind (f28 F x10) fun (x11, x12) =>
 Option.bind (f44 F) fun x13 =>
 Option.bind (f45 F ([9, 9] : List Int)) fun x14 =>
 Option.bind (f30 F x13 0 x14) fun (x15, x16, x17, x18) =>
 Option.bind (f44 F) fun x19 =>
 Option.bind (f45 F ([8, 4] : List Int)) fun x20 =>
 Option.bind (f32 F x19 x20) fun (x21, x22) =>
 Option.bind (f44 F) fun x23 =>
 Option.bind (f45 F ([5, 4] : List Int)) fun x24 =>
 Option.bind (f34 F x23 x24) fun (x25, x26) =>
 if (x3 != 0) = true then
  none
 else
 if (x6 != 0) = true then
  none
 else
 if (x9 != 0) = true then
  none
 else
 if (x12 != 0) = true then
  none
 else
 if (x18 != 0) = true then
  none
 else
 if (x22 != 0) = true then
  none
 else
 if (x26 != 0) = true then
  none
 else
  Option.bind (f44 F) fun x27 =>
  Option.bind (f39 F x27) fun (x28, x29) =>
  Option.bind (f64 F) fun x30 =>
  Option.bind (f41 F x30) fun (x31, x32) =>
  Option.bind (f64 F) fun x33 =>
  Option.bind (f39 F x33) fun (x34, x35) =>
  Option.bind (f44 F) fun x36 =>
  Option.bind (f45 F ([1, 0, (-1)] : List Int)) fun x37 =>
  Option.bind (f21 F x36 x37) fun (x38, x39) =>
  Option.bind (f44 F) fun x40 =>
  Option.bind (f45 F ([8, 4] : List Int)) fun x41 =>
  Option.bind (f34 F x40 x41) fun (x42, x43) =>
  Option.bind (f44 F) fun x44 =>
  Option.bind (f45 F ([1, 0, 0] : List Int)) fun x45 =>
  Option.bind (f21 F x44 x45) fun (x46, x47) =>
  if (x29 == 0) = true then
   if (x32 == 0) = true then
    if (x35 == 0) = true then
     if (x39 == 0) = true then
      if (x43 == 13) = true then
       if (x47 == 6) = true then
        if (x5 == 2) = true then
         if (x15 == 1) = true then
          if (x16 == 4) = true then
           if (x17 == 1) = true then
            if (x38 == 13) = true then
             Option.bind (f45 F ([0, (-1), 1] : List Int)) fun x48 =>
             Option.bind (f23 F x2 x48) fun x49 =>
             if x49 = true then
              Option.bind (f45 F ([8, 0, 4] : List Int)) fun x50 =>
              Option.bind (f23 F x8 x50) fun x51 =>
              if x51 = true then
               Option.bind (f45 F ([1, 0, 0] : List Int)) fun x52 =>
               Option.bind (f23 F x11 x52) fun x53 =>
               if x53 = true then
                Option.bind (f45 F ([0, 1] : List Int)) fun x54 =>
                Option.bind (f45 F ([(-1), 0] : List Int)) fun x55 =>
                Option.bind (f45 F ([(-1), 1] : List Int)) fun x56 =>
                Option.bind (f46 F ([x54, x55, x56] : List (List Int))) fun x57 =>
                Option.bind (f36 F x21 x57) fun x58 =>
                if x58 = true then
                 Option.bind (f45 F ([0, 1] : List Int)) fun x59 =>
                 Option.bind (f23 F x25 x59) fun x60 =>
                 if x60 = true then
                  Option.bind (f45 F ([8, 4] : List Int)) fun x61 =>
                  Option.bind (f23 F x28 x61) fun x62 =>
                  if x62 = true then
                   Option.bind (f45 F ([7, 7] : List Int)) fun x63 =>
                   Option.bind (f23 F x31 x63) fun x64 =>
                   if x64 = true then
                    Option.bind (f45 F ([0, 0] : List Int)) fun x65 =>
                    Option.bind (f23 F x34 x65) fun x66 =>
                    if x66 = true then
                     Option.bind (f44 F) fun x67 =>
                     Option.bind (f45 F ([8, 4] : List Int)) fun x68 =>
                     Option.bind (f45 F ([1, 0, (-1)] : List Int)) fun x69 =>
                     Option.bind (f37 F x67 x68 x69) fun x70 =>
                     if (x70 == 0) = true then
                      Option.bind (f44 F) fun x71 =>
                      Option.bind (f45 F ([9, 4] : List Int)) fun x72 =>
                      Option.bind (f45 F ([1, 0, (-1)] : List Int)) fun x73 =>
                      Option.bind (f37 F x71 x72 x73) fun x74 =>
                      some (x74 == 14)
                     else
                      none
                    else
                     none
                   else
                    none
                  else
                   none
                 else
                  none
                else
                 none
               else
                none
              else
               none
             else
              none
            else
             none
           else
            none
          else
           none
         else
          none
        else
         none
       else
        none
      else
       none
     else
      none
    else
     none
   else
    none
  else
   none

def f43_p5_1 (F : Nat) (x6 : Int) (x14 : List (List Int)) (x2 x5 : Int) (x15 x1 x4 : Int) (x3 : List Int) : Nat → Int → (List Int) → Option (List Int)
 | 0, _, _ => none
 | k + 1, x19, x18 =>
  if (decide (x19 < (((Int.toNat (Int.tmod (w64 (x2)) (w64 (x5 + 1)))) : Nat) : Int))) = true then
   req ((0 : Int) ≤ x15 ∧ (x15 : Int) < ((4 : Nat) : Int)) <|
   req ((0 : Int) ≤ x19 ∧ (x19 : Int) < ((4 : Nat) : Int)) <|
   Option.bind ((x3)[((0 + ((Int.toNat x15) * 4)) + ((Int.toNat x19) * 1))]?) fun x20 =>
   req (((w64 (x6 + 1)) : Int) ≠ 0) <|
   req ((0 : Int) ≤ x19 ∧ (x19 : Int) < (((Int.toNat (Int.tmod (w64 (x2)) (w64 (x5 + 1)))) : Nat) : Int)) <|
   req ((0 + (Int.toNat x19)) < List.length x18) <|
   f43_p5_1 F x6 x14 x2 x5 x15 x1 x4 x3 k (w64 (x19 + 1)) (List.set x18 (0 + (Int.toNat x19)) (Int.tmod (w64 (x20)) (w64 (x6 + 1))))
  else
   some x18
def f43_p1 (F : Nat) (x6 x2 : Int) (x5 x1 x4 : Int) (x3 : List Int) : Nat → Int → (List (List Int)) → Option (List (List Int))
 | 0, _, _ => none
 | k + 1, x15, x14 =>
  if (decide (x15 < (w64 (1 + (Int.tmod (w64 (x1)) x4))))) = true then
   req ((0 : Int) ≤ (Int.tmod (w64 (x2)) (w64 (x5 + 1))) ∧ ((Int.tmod (w64 (x2)) (w64 (x5 + 1))) : Int) ≤ (Int.tmod (w64 (x2)) (w64 (x5 + 1))) ∧ ((Int.tmod (w64 (x2)) (w64 (x5 + 1))) : Int) ≤ 1099511627776) <|
   Option.bind (f43_p5_1 F x6 x14 x2 x5 x15 x1 x4 x3 F 0 (List.replicate (Int.toNat (Int.tmod (w64 (x2)) (w64 (x5 + 1)))) (0 : Int))) fun x21 =>
   req ((0 + (Int.toNat (Int.tmod (w64 (x2)) (w64 (x5 + 1))))) ≤ List.length x21) <|
   req (List.length x14 + List.length ([(List.drop 0 (List.take (0 + (Int.toNat (Int.tmod (w64 (x2)) (w64 (x5 + 1))))) x21))] : List (List Int)) ≤ 1099511627776) <|
   f43_p1 F x6 x2 x5 x1 x4 x3 k (w64 (x15 + 1)) (x14 ++ ([(List.drop 0 (List.take (0 + (Int.toNat (Int.tmod (w64 (x2)) (w64 (x5 + 1))))) x21))] : List (List Int)))
  else
   some x14
def f43 (F : Nat) (x1 x2 : Int) (x3 : List Int) (x4 x5 x6 : Int) : Option (List (List Int)) :=
 req (((w64 (x5 + 1)) : Int) ≠ 0) <|
 req ((x4 : Int) ≠ 0) <|
 Option.bind (f43_p1 F x6 x2 x5 x1 x4 x3 F 0 ([] : List (List Int))) fun x22 =>
 some (List.drop 0 (List.take (0 + (List.length x22)) x22))

def f8_p5_1 (F : Nat) (x4 x5 : Int) (x6 : List (List Int)) (x7 : (List Int)) (x17 : Int) (x18 : (List Int)) (x16 : List (List Int)) : Nat → Int → (List Int) → Option (List Int)
 | 0, _, _ => none
 | k + 1, x22, x21 =>
  if (decide (x22 < ((List.length x18 : Nat) : Int))) = true then
   Option.bind (at? x18 x22) fun x23 =>
   req ((((List.length x7 : Nat) : Int) : Int) ≠ 0) <|
   req ((0 : Int) ≤ (Int.tmod (w64 (x22 + (w64 (x5)))) ((List.length x7 : Nat) : Int)) ∧ ((Int.tmod (w64 (x22 + (w64 (x5)))) ((List.length x7 : Nat) : Int)) : Int) < (((Int.toNat ((List.length x7 : Nat) : Int)) : Nat) : Int)) <|
   req ((0 + (Int.toNat (Int.tmod (w64 (x22 + (w64 (x5)))) ((List.length x7 : Nat) : Int)))) < List.length x21) <|
   f8_p5_1 F x4 x5 x6 x7 x17 x18 x16 k (w64 (x22 + 1)) (List.set x21 (0 + (Int.toNat (Int.tmod (w64 (x22 + (w64 (x5)))) ((List.length x7 : Nat) : Int)))) x23)
  else
   some x21
def f8_p1 (F : Nat) (x4 x5 : Int) (x6 : List (List Int)) (x7 : (List Int)) : Nat → Int → (List (List Int)) → Option (List (List Int))
 | 0, _, _ => none
 | k + 1, x17, x16 =>
  if (decide (x17 < ((List.length x6 : Nat) : Int))) = true then
   req ((0 : Int) ≤ ((List.length x7 : Nat) : Int) ∧ (((List.length x7 : Nat) : Int) : Int) ≤ ((List.length x7 : Nat) : Int) ∧ (((List.length x7 : Nat) : Int) : Int) ≤ 1099511627776) <|
   Option.bind (at? x6 x17) fun x18 =>
   Option.bind (f8_p5_1 F x4 x5 x6 x7 x17 x18 x16 F 0 (List.replicate (Int.toNat ((List.length x7 : Nat) : Int)) (0 : Int))) fun x24 =>
   req ((0 + (Int.toNat ((List.length x7 : Nat) : Int))) ≤ List.length x24) <|
   req ((((List.length x6 : Nat) : Int) : Int) ≠ 0) <|
   req ((0 : Int) ≤ (Int.tmod (w64 (x17 + (w64 (x4)))) ((List.length x6 : Nat) : Int)) ∧ ((Int.tmod (w64 (x17 + (w64 (x4)))) ((List.length x6 : Nat) : Int)) : Int) < (((Int.toNat ((List.length x6 : Nat) : Int)) : Nat) : Int)) <|
   req ((0 + (Int.toNat (Int.tmod (w64 (x17 + (w64 (x4)))) ((List.length x6 : Nat) : Int)))) < List.length x16) <|
   f8_p1 F x4 x5 x6 x7 k (w64 (x17 + 1)) (List.set x16 (0 + (Int.toNat (Int.tmod (w64 (x17 + (w64 (x4)))) ((List.length x6 : Nat) : Int)))) (List.drop 0 (List.take (0 + (Int.toNat ((List.length x7 : Nat) : Int))) x24)))
  else
   some x16
def f8_p14 (F : Nat) (x4 x5 : Int) (x6 : List (List Int)) (x7 : (List Int)) (x25 : List (List Int)) (x26 : Int) (x32 : List Int) (x38 x39 : Int) (x30 : List Int) : Option Int :=
 if (decide (x39 < ((List.length x7 : Nat) : Int))) = true then
  req ((((List.length x7 : Nat) : Int) : Int) ≠ 0) <|
  some (Int.tmod (w64 (x39 + (w64 (x5)))) ((List.length x7 : Nat) : Int))
 else
  some (-1)
inductive f8_p11_R where
 | c0
 | c1
def f8_p11 (F : Nat) (x4 x5 : Int) (x6 : List (List Int)) (x7 : (List Int)) (x25 : List (List Int)) (x26 : Int) (x32 x30 : List Int) : Nat → Int → Option f8_p11_R
 | 0, _ => none
 | k + 1, x38 =>
  if (decide (x38 < ((List.length x30 : Nat) : Int))) = true then
   Option.bind (at? x30 x38) fun x39 =>
   if (decide (x39 ≥ 0)) = true then
    Option.bind (f8_p14 F x4 x5 x6 x7 x25 x26 x32 x38 x39 x30) fun x40 =>
    if (x26 == 1) = true then
     req ((((List.length x6 : Nat) : Int) : Int) ≠ 0) <|
     Option.bind (at? x32 (Int.tmod (w64 (x38 + (w64 (x4)))) ((List.length x6 : Nat) : Int))) fun x41 =>
     if (x41 != x40) = true then
      some .c0
     else
      f8_p11 F x4 x5 x6 x7 x25 x26 x32 x30 k (w64 (x38 + 1))
    else
     f8_p11 F x4 x5 x6 x7 x25 x26 x32 x30 k (w64 (x38 + 1))
   else
   if (x26 == 1) = true then
    req ((((List.length x6 : Nat) : Int) : Int) ≠ 0) <|
    Option.bind (at? x32 (Int.tmod (w64 (x38 + (w64 (x4)))) ((List.length x6 : Nat) : Int))) fun x42 =>
    if (x42 != (-1)) = true then
     some .c0
    else
     f8_p11 F x4 x5 x6 x7 x25 x26 x32 x30 k (w64 (x38 + 1))
   else
    f8_p11 F x4 x5 x6 x7 x25 x26 x32 x30 k (w64 (x38 + 1))
  else
   some .c1
inductive f8_p22_R where
 | c0
 | c1
def f8_p22 (F : Nat) (x5 : Int) (x6 : List (List Int)) (x7 : (List Int)) (x25 : List (List Int)) (x43 x45 : List Int) : Nat → Int → Option f8_p22_R
 | 0, _ => none
 | k + 1, x47 =>
  if (decide (x47 < ((List.length x7 : Nat) : Int))) = true then
   Option.bind (at? x43 x47) fun x48 =>
   req ((((List.length x7 : Nat) : Int) : Int) ≠ 0) <|
   Option.bind (at? x45 (Int.tmod (w64 (x47 + (w64 (x5)))) ((List.length x7 : Nat) : Int))) fun x49 =>
   if (x48 != x49) = true then
    some .c0
   else
    f8_p22 F x5 x6 x7 x25 x43 x45 k (w64 (x47 + 1))
  else
   some .c1
inductive f8_p22_1_R where
 | c0
 | c1
def f8_p22_1 (F : Nat) (x5 : Int) (x6 : List (List Int)) (x7 : (List Int)) (x25 : List (List Int)) (x50 x52 : List Int) : Nat → Int → Option f8_p22_1_R
 | 0, _ => none
 | k + 1, x54 =>
  if (decide (x54 < ((List.length x7 : Nat) : Int))) = true then
   Option.bind (at? x50 x54) fun x55 =>
   req ((((List.length x7 : Nat) : Int) : Int) ≠ 0) <|
   Option.bind (at? x52 (Int.tmod (w64 (x54 + (w64 (x5)))) ((List.length x7 : Nat) : Int))) fun x56 =>
   if (x55 != x56) = true then
    some .c0
   else
    f8_p22_1 F x5 x6 x7 x25 x50 x52 k (w64 (x54 + 1))
  else
   some .c1
def f8 (F : Nat) (x1 x2 : Int) (x3 : List Int) (x4 x5 : Int) : Option Bool :=
 Option.bind (f43 F x1 x2 x3 4 4 20) fun x6 =>
 Option.bind (at? x6 0) fun x7 =>
 req ((0 : Int) ≤ ((List.length x6 : Nat) : Int) ∧ (((List.length x6 : Nat) : Int) : Int) ≤ ((List.length x6 : Nat) : Int) ∧ (((List.length x6 : Nat) : Int) : Int) ≤ 1099511627776) <|
 Option.bind (f8_p1 F x4 x5 x6 x7 F 0 (List.replicate (Int.toNat ((List.length x6 : Nat) : Int)) ([] : (List Int)))) fun x25 =>
 Option.bind (f19 F x6) fun (x26, x27) =>
 Option.bind (f19 F (List.drop 0 (List.take (0 + (Int.toNat ((List.length x6 : Nat) : Int))) x25))) fun (x28, x29) =>
 req ((0 + (Int.toNat ((List.length x6 : Nat) : Int))) ≤ List.length x25) <|
 Option.bind (f17 F x6) fun (x30, x31) =>
 Option.bind (f17 F (List.drop 0 (List.take (0 + (Int.toNat ((List.length x6 : Nat) : Int))) x25))) fun (x32, x33) =>
 if (x27 != 0) = true then
  none
 else
 if (x29 != 0) = true then
  none
 else
 if (x31 != 0) = true then
  none
 else
 if (x33 != 0) = true then
  none
 else
 if (x26 != x28) = true then
  none
 else
 if (((List.length x30 : Nat) : Int) != ((List.length x6 : Nat) : Int)) = true then
  none
 else
 if (((List.length x32 : Nat) : Int) != ((List.length x6 : Nat) : Int)) = true then
  none
 else
  Option.bind (f21 F x6 x30) fun (x34, x35) =>
  Option.bind (f21 F (List.drop 0 (List.take (0 + (Int.toNat ((List.length x6 : Nat) : Int))) x25)) x32) fun (x36, x37) =>
  if (x35 != 0) = true then
   none
  else
  if (x37 != 0) = true then
   none
  else
  if (x34 != x36) = true then
   none
  else
   Option.bind (f8_p11 F x4 x5 x6 x7 x25 x26 x32 x30 F 0) fun
   | .c0 =>
    none
   | .c1 =>
    Option.bind (f39 F x6) fun (x43, x44) =>
    Option.bind (f39 F (List.drop 0 (List.take (0 + (Int.toNat ((List.length x6 : Nat) : Int))) x25))) fun (x45, x46) =>
    if (x44 != 0) = true then
     none
    else
    if (x46 != 0) = true then
     none
    else
    if (((List.length x43 : Nat) : Int) != ((List.length x7 : Nat) : Int)) = true then
     none
    else
    if (((List.length x45 : Nat) : Int) != ((List.length x7 : Nat) : Int)) = true then
     none
    else
     Option.bind (f8_p22 F x5 x6 x7 x25 x43 x45 F 0) fun
     | .c0 =>
      none
     | .c1 =>
      Option.bind (f41 F x6) fun (x50, x51) =>
      Option.bind (f41 F (List.drop 0 (List.take (0 + (Int.toNat ((List.length x6 : Nat) : Int))) x25))) fun (x52, x53) =>
      if (x51 != 0) = true then
       none
      else
      if (x53 != 0) = true then
       none
      else
      if (((List.length x50 : Nat) : Int) != ((List.length x7 : Nat) : Int)) = true then
       none
      else
      if (((List.length x52 : Nat) : Int) != ((List.length x7 : Nat) : Int)) = true then
       none
      else
       Option.bind (f8_p22_1 F x5 x6 x7 x25 x50 x52 F 0) fun
       | .c0 =>
        none
       | .c1 =>
        Option.bind (f16 F) fun x57 =>
        some x57

end Go.Gh.Sale
