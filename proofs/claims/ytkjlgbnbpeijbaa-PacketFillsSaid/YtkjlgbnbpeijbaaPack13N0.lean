/- Pack13N0: printed by wip/tool/gx.py -/
import Derived.Test.YtkjlgbnbpeijbaaGhPl
namespace Go.Gh.Pack
set_option linter.unusedVariables false
set_option linter.unusedSimpArgs false

def str0 : ByteArray := ⟨#[0, 1, 2, 2, 3, 3, 3, 3, 4, 4, 4, 4, 4, 4, 4, 4, 5, 5, 5, 5, 5, 5, 5, 5, 5, 5, 5, 5, 5, 5, 5, 5, 6, 6, 6, 6, 6, 6, 6, 6, 6, 6, 6, 6, 6, 6, 6, 6, 6, 6, 6, 6, 6, 6, 6, 6, 6, 6, 6, 6, 6, 6, 6, 6, 7, 7, 7, 7, 7, 7, 7, 7, 7, 7, 7, 7, 7, 7, 7, 7, 7, 7, 7, 7, 7, 7, 7, 7, 7, 7, 7, 7, 7, 7, 7, 7, 7, 7, 7, 7, 7, 7, 7, 7, 7, 7, 7, 7, 7, 7, 7, 7, 7, 7, 7, 7, 7, 7, 7, 7, 7, 7, 7, 7, 7, 7, 7, 7, 8, 8, 8, 8, 8, 8, 8, 8, 8, 8, 8, 8, 8, 8, 8, 8, 8, 8, 8, 8, 8, 8, 8, 8, 8, 8, 8, 8, 8, 8, 8, 8, 8, 8, 8, 8, 8, 8, 8, 8, 8, 8, 8, 8, 8, 8, 8, 8, 8, 8, 8, 8, 8, 8, 8, 8, 8, 8, 8, 8, 8, 8, 8, 8, 8, 8, 8, 8, 8, 8, 8, 8, 8, 8, 8, 8, 8, 8, 8, 8, 8, 8, 8, 8, 8, 8, 8, 8, 8, 8, 8, 8, 8, 8, 8, 8, 8, 8, 8, 8, 8, 8, 8, 8, 8, 8, 8, 8, 8, 8, 8, 8, 8, 8, 8, 8, 8, 8, 8, 8, 8, 8, 8, 8, 8, 8, 8, 8]⟩
def f15 (F : Nat) (x1 x2 x3 : List Int) : Option Bool :=
 if (decide (((List.length x1 : Nat) : Int) > 40)) = true then
  some true
 else
 if (decide (((List.length x2 : Nat) : Int) > 40)) = true then
  some true
 else
  some (decide (((List.length x3 : Nat) : Int) > 40))

def f52 (F : Nat) (x1 : List Int) : Option (List Int) :=
 some x1

def f67 (F : Nat) (x1 x2 x3 : Int) : Option Bool :=
 if (decide (x1 ≥ x2)) = true then
  some (decide (x1 ≤ x3))
 else
  some false

inductive f26_p4_R where
 | c0 (a0 : Int)
 | c1
def f26_p4 (F : Nat) (x1 : List Int) : Nat → Int → Int → Option f26_p4_R
 | 0, _, _ => none
 | k + 1, x2, x3 =>
  if (decide (x3 < ((List.length x1 : Nat) : Int))) = true then
   Option.bind (at? x1 x3) fun x4 =>
   Option.bind (f67 F x4 1 30) fun x5 =>
   if x5 = true then
    if (decide (x4 ≤ x2)) = true then
     some (.c0 7)
    else
     f26_p4 F x1 k x4 (w64 (x3 + 1))
   else
    some (.c0 1)
  else
   some .c1
def f26 (F : Nat) (x1 : List Int) : Option Int :=
 if (((List.length x1 : Nat) : Int) == 0) = true then
  some 4
 else
 if (decide (((List.length x1 : Nat) : Int) > 5)) = true then
  some 3
 else
  Option.bind (f26_p4 F x1 F 0 0) fun
  | .c0 x6 =>
   some x6
  | .c1 =>
   some 0

def f90_p1 (F : Nat) : Nat → Int → Int → Option Int
 | 0, _, _ => none
 | k + 1, x3, x4 =>
  if (x4 != 0) = true then
   req ((x4 : Int) ≠ 0) <|
   f90_p1 F k x4 (Int.tmod x3 x4)
  else
   some x3
def f90 (F : Nat) (x1 x2 : Int) : Option Int :=
 Option.bind (f90_p1 F F x1 x2) fun x5 =>
 some x5

def f68_p1 (F : Nat) (x1 : List Int) (x2 : Int) : Nat → Int → (List Int) → Option (List Int)
 | 0, _, _ => none
 | k + 1, x5, x4 =>
  if (decide (x5 < (((Int.toNat x2) : Nat) : Int))) = true then
   req ((0 : Int) ≤ x5 ∧ (x5 : Int) < (((Int.toNat x2) : Nat) : Int)) <|
   req ((0 + (Int.toNat x5)) < List.length x4) <|
   f68_p1 F x1 x2 k (w64 (x5 + 1)) (List.set x4 (0 + (Int.toNat x5)) (-1))
  else
   some x4
def f68_p16_3 (F : Nat) (x2 x56 : Int) (x57 x81 x82 : Int) (x1 : List Int) (x55 x80 x83 : Int) (x79 : List Int) : Option Int :=
 if (decide (x83 < x81)) = true then
  req ((0 : Int) ≤ x82 ∧ (x82 : Int) < (((Int.toNat x2) : Nat) : Int)) <|
  Option.bind ((x79)[(0 + (Int.toNat x82))]?) fun x84 =>
  some x84
 else
  some x81
def f68_p13_3 (F : Nat) (x2 x56 x57 : Int) (x1 : List Int) (x55 x80 : Int) (x79 : List Int) : Nat → Int → Int → Option Int
 | 0, _, _ => none
 | k + 1, x81, x82 =>
  if (decide (x82 < x2)) = true then
   req ((0 : Int) ≤ x82 ∧ (x82 : Int) < (((Int.toNat x2) : Nat) : Int)) <|
   Option.bind ((x79)[(0 + (Int.toNat x82))]?) fun x83 =>
   if (decide (x83 ≥ 0)) = true then
    if (decide (x81 < 0)) = true then
     f68_p13_3 F x2 x56 x57 x1 x55 x80 x79 k x83 (w64 (x82 + x57))
    else
     Option.bind (f68_p16_3 F x2 x56 x57 x81 x82 x1 x55 x80 x83 x79) fun x85 =>
     f68_p13_3 F x2 x56 x57 x1 x55 x80 x79 k x85 (w64 (x82 + x57))
   else
    f68_p13_3 F x2 x56 x57 x1 x55 x80 x79 k x81 (w64 (x82 + x57))
  else
   some x81
def f68_p21_7 (F : Nat) (x2 x56 : Int) (x57 x94 x95 : Int) (x1 : List Int) (x55 x80 x96 : Int) (x93 : List Int) : Option (Int × (List Int)) :=
 if (decide (x96 < (w64 (x94 + x56)))) = true then
  req ((0 : Int) ≤ (Int.tmod (w64 (x94 + x56)) x2) ∧ ((Int.tmod (w64 (x94 + x56)) x2) : Int) < (((Int.toNat x2) : Nat) : Int)) <|
  Option.bind ((x93)[(0 + (Int.toNat (Int.tmod (w64 (x94 + x56)) x2)))]?) fun x97 =>
  some (x97, x93)
 else
  req ((0 : Int) ≤ (Int.tmod (w64 (x94 + x56)) x2) ∧ ((Int.tmod (w64 (x94 + x56)) x2) : Int) < (((Int.toNat x2) : Nat) : Int)) <|
  req ((0 + (Int.toNat (Int.tmod (w64 (x94 + x56)) x2))) < List.length x93) <|
  some ((w64 (x94 + x56)), (List.set x93 (0 + (Int.toNat (Int.tmod (w64 (x94 + x56)) x2))) (w64 (x94 + x56))))
def f68_p18_3 (F : Nat) (x2 x56 x57 : Int) (x1 : List Int) (x55 x80 : Int) : Nat → Int → Int → (List Int) → Option (List Int)
 | 0, _, _, _ => none
 | k + 1, x94, x95, x93 =>
  if (decide (x94 ≥ 0)) = true then
   req ((x57 : Int) ≠ 0) <|
   if (decide (x95 < (w64 (Int.tdiv x2 x57)))) = true then
    req ((x2 : Int) ≠ 0) <|
    req ((0 : Int) ≤ (Int.tmod (w64 (x94 + x56)) x2) ∧ ((Int.tmod (w64 (x94 + x56)) x2) : Int) < (((Int.toNat x2) : Nat) : Int)) <|
    Option.bind ((x93)[(0 + (Int.toNat (Int.tmod (w64 (x94 + x56)) x2)))]?) fun x96 =>
    if (decide (x96 ≥ 0)) = true then
     Option.bind (f68_p21_7 F x2 x56 x57 x94 x95 x1 x55 x80 x96 x93) fun (x98, x99) =>
     f68_p18_3 F x2 x56 x57 x1 x55 x80 k x98 (w64 (x95 + 1)) x99
    else
     req ((0 + (Int.toNat (Int.tmod (w64 (x94 + x56)) x2))) < List.length x93) <|
     f68_p18_3 F x2 x56 x57 x1 x55 x80 k (w64 (x94 + x56)) (w64 (x95 + 1)) (List.set x93 (0 + (Int.toNat (Int.tmod (w64 (x94 + x56)) x2))) (w64 (x94 + x56)))
   else
    some x93
  else
   some x93
def f68_p9_1 (F : Nat) (x2 x56 x57 : Int) (x1 : List Int) (x55 : Int) : Nat → Int → (List Int) → Option (List Int)
 | 0, _, _ => none
 | k + 1, x80, x79 =>
  if (decide (x80 < x57)) = true then
   Option.bind (f68_p13_3 F x2 x56 x57 x1 x55 x80 x79 F (-1) x80) fun x86 =>
   Option.bind (f68_p18_3 F x2 x56 x57 x1 x55 x80 F x86 1 x79) fun x100 =>
   f68_p9_1 F x2 x56 x57 x1 x55 k (w64 (x80 + 1)) x100
  else
   some x79
def f68_p5 (F : Nat) (x2 : Int) (x1 : List Int) : Nat → Int → (List Int) → Option (List Int)
 | 0, _, _ => none
 | k + 1, x55, x54 =>
  if (decide (x55 < ((List.length x1 : Nat) : Int))) = true then
   Option.bind (at? x1 x55) fun x56 =>
   Option.bind (f90 F x56 x2) fun x57 =>
   Option.bind (f68_p9_1 F x2 x56 x57 x1 x55 F 0 x54) fun x101 =>
   f68_p5 F x2 x1 k (w64 (x55 + 1)) x101
  else
   some x54
def f68 (F : Nat) (x1 : List Int) (x2 : Int) : Option (List Int) :=
 req ((0 : Int) ≤ x2 ∧ (x2 : Int) ≤ x2 ∧ (x2 : Int) ≤ 1099511627776) <|
 Option.bind (f68_p1 F x1 x2 F 0 (List.replicate (Int.toNat x2) (0 : Int))) fun x6 =>
 req ((0 : Int) ≤ 0 ∧ (0 : Int) < (((Int.toNat x2) : Nat) : Int)) <|
 req (0 < List.length x6) <|
 Option.bind (f68_p5 F x2 x1 F 0 (List.set x6 0 0)) fun x102 =>
 req ((0 + (Int.toNat x2)) ≤ List.length x102) <|
 some (List.drop 0 (List.take (0 + (Int.toNat x2)) x102))

inductive f105_p1_R where
 | c0 (a0 : Int)
 | c1
def f105_p1 (F : Nat) (x1 : List Int) (x2 : Int) : Nat → Int → Option f105_p1_R
 | 0, _ => none
 | k + 1, x3 =>
  if (decide (x3 < ((List.length x1 : Nat) : Int))) = true then
   Option.bind (at? x1 x3) fun x4 =>
   if (x2 == x4) = true then
    some (.c0 x3)
   else
    f105_p1 F x1 x2 k (w64 (x3 + 1))
  else
   some .c1
def f105 (F : Nat) (x1 : List Int) (x2 : Int) : Option Int :=
 Option.bind (f105_p1 F x1 x2 F 0) fun
 | .c0 x5 =>
  some x5
 | .c1 =>
  some (-1)

def f91 (F : Nat) (x1 : List Int) (x2 : Int) : Option Bool :=
 Option.bind (f105 F x1 x2) fun x3 =>
 some (decide (x3 ≥ 0))

def f103_p0 (F : Nat) (x1 : Int) : Option (Int × Int) :=
 if (decide (x1 ≥ 4294967296)) = true then
  some ((iShr .u64 x1 32), 32)
 else
  some (x1, 0)
def f103_p1 (F : Nat) (x2 x3 : Int) : Option (Int × Int) :=
 if (decide (x2 ≥ 65536)) = true then
  some ((iShr .u64 x2 16), (w64 (x3 + 16)))
 else
  some (x2, x3)
def f103_p2 (F : Nat) (x4 x5 : Int) : Option (Int × Int) :=
 if (decide (x4 ≥ 256)) = true then
  some ((iShr .u64 x4 8), (w64 (x5 + 8)))
 else
  some (x4, x5)
def f103 (F : Nat) (x1 : Int) : Option Int :=
 Option.bind (f103_p0 F x1) fun (x2, x3) =>
 Option.bind (f103_p1 F x2 x3) fun (x4, x5) =>
 Option.bind (f103_p2 F x4 x5) fun (x6, x7) =>
 req ((0 : Int) ≤ (IntKind.wrap .u8 (x6)) ∧ ((IntKind.wrap .u8 (x6)) : Int) < ((256 : Nat) : Int)) <|
 some (w64 (x7 + (w64 ((strAt str0 (IntKind.wrap .u8 (x6)))))))

def f84 (F : Nat) (x1 : Int) : Option Int :=
 Option.bind (f103 F x1) fun x2 =>
 some x2

def f111 (F : Nat) (x1 : Int) : Option Bool :=
 some (x1 != x1)

def f99 (F : Nat) (x1 x2 : Int) : Option Bool :=
 Option.bind (f111 F x1) fun x3 =>
 if x3 = true then
  Option.bind (f111 F x2) fun x4 =>
  if x4 = true then
   some (decide (x1 < x2))
  else
   some true
 else
  some (decide (x1 < x2))

def f93_p5_1 (F : Nat) (x1 x2 : Nat) (x3 x4 x18 : Int) : Nat → Int → (List Int) → Option (List Int)
 | 0, _, _ => none
 | k + 1, x24, x23 =>
  if (decide (x24 > x3)) = true then
   req ((0 : Int) ≤ x24 ∧ (x24 : Int) < ((x2 : Nat) : Int)) <|
   Option.bind ((x23)[(x1 + (Int.toNat x24))]?) fun x25 =>
   req ((0 : Int) ≤ (w64 (x24 - 1)) ∧ ((w64 (x24 - 1)) : Int) < ((x2 : Nat) : Int)) <|
   Option.bind ((x23)[(x1 + (Int.toNat (w64 (x24 - 1))))]?) fun x26 =>
   Option.bind (f99 F x25 x26) fun x27 =>
   if x27 = true then
    req ((x1 + (Int.toNat x24)) < List.length x23) <|
    req ((x1 + (Int.toNat (w64 (x24 - 1)))) < List.length (List.set x23 (x1 + (Int.toNat x24)) x26)) <|
    f93_p5_1 F x1 x2 x3 x4 x18 k (w64 (x24 - 1)) (List.set (List.set x23 (x1 + (Int.toNat x24)) x26) (x1 + (Int.toNat (w64 (x24 - 1)))) x25)
   else
    some x23
  else
   some x23
def f93_p1 (F : Nat) (x1 x2 : Nat) (x3 x4 : Int) : Nat → Int → (List Int) → Option (List Int)
 | 0, _, _ => none
 | k + 1, x18, x17 =>
  if (decide (x18 < x4)) = true then
   Option.bind (f93_p5_1 F x1 x2 x3 x4 x18 F x18 x17) fun x28 =>
   f93_p1 F x1 x2 x3 x4 k (w64 (x18 + 1)) x28
  else
   some x17
def f93 (F : Nat) (x1 x2 : Nat) (x3 x4 : Int) (x5 : List Int) : Option (List Int) :=
 Option.bind (f93_p1 F x1 x2 x3 x4 F (w64 (x3 + 1)) x5) fun x29 =>
 some x29

def f112 (F : Nat) (x1 x2 : Nat) (x3 x4 : Int) (x5 : List Int) (x6 : Int) : Option (Int × Int × Int) :=
 req ((0 : Int) ≤ x4 ∧ (x4 : Int) < ((x2 : Nat) : Int)) <|
 Option.bind ((x5)[(x1 + (Int.toNat x4))]?) fun x7 =>
 req ((0 : Int) ≤ x3 ∧ (x3 : Int) < ((x2 : Nat) : Int)) <|
 Option.bind ((x5)[(x1 + (Int.toNat x3))]?) fun x8 =>
 Option.bind (f99 F x7 x8) fun x9 =>
 if x9 = true then
  some (x4, x3, (w64 (x6 + 1)))
 else
  some (x3, x4, x6)

def f110 (F : Nat) (x1 x2 : Nat) (x3 x4 x5 : Int) (x6 : List Int) (x7 : Int) : Option (Int × Int) :=
 Option.bind (f112 F x1 x2 x3 x4 x6 x7) fun (x8, x9, x10) =>
 Option.bind (f112 F x1 x2 x9 x5 x6 x10) fun (x11, x12, x13) =>
 Option.bind (f112 F x1 x2 x8 x11 x6 x13) fun (x14, x15, x16) =>
 some (x15, x16)

def f96_p1 (F : Nat) (x1 x2 : Nat) (x3 x4 : Int) (x5 : List Int) : Option Unit :=
 if (decide ((w64 (x4 - x3)) ≥ 50)) = true then
  none
 else
  some ()
def f96_p0 (F : Nat) (x1 x2 : Nat) (x4 x3 : Int) (x5 : List Int) : Option (Int × Int) :=
 if (decide ((w64 (x4 - x3)) ≥ 8)) = true then
  Option.bind (f96_p1 F x1 x2 x3 x4 x5) fun _ =>
  Option.bind (f110 F x1 x2 (w64 (x3 + (w64 ((w64 (Int.tdiv (w64 (x4 - x3)) 4)) * 1)))) (w64 (x3 + (w64 ((w64 (Int.tdiv (w64 (x4 - x3)) 4)) * 2)))) (w64 (x3 + (w64 ((w64 (Int.tdiv (w64 (x4 - x3)) 4)) * 3)))) x5 0) fun (x6, x7) =>
  some (x6, x7)
 else
  some ((w64 (x3 + (w64 ((w64 (Int.tdiv (w64 (x4 - x3)) 4)) * 2)))), 0)
def f96 (F : Nat) (x1 x2 : Nat) (x3 x4 : Int) (x5 : List Int) : Option (Int × Int) :=
 Option.bind (f96_p0 F x1 x2 x4 x3 x5) fun (x8, x9) =>
 if (x9 == 0) = true then
  some (x8, 1)
 else
 if (x9 == 12) = true then
  some (x8, 2)
 else
  some (x8, 0)

def f101_p1 (F : Nat) (x1 x2 : Nat) (x3 x4 : Int) (x6 : List Int) (x7 x5 x8 : Int) : Nat → Int → Option Int
 | 0, _ => none
 | k + 1, x9 =>
  if (decide (x9 ≤ (w64 (x4 - 1)))) = true then
   req ((0 : Int) ≤ x9 ∧ (x9 : Int) < ((x2 : Nat) : Int)) <|
   Option.bind (((List.set (List.set x6 (x1 + (Int.toNat x3)) x7) (x1 + (Int.toNat x5)) x8))[(x1 + (Int.toNat x9))]?) fun x10 =>
   req ((0 : Int) ≤ x3 ∧ (x3 : Int) < ((x2 : Nat) : Int)) <|
   Option.bind (((List.set (List.set x6 (x1 + (Int.toNat x3)) x7) (x1 + (Int.toNat x5)) x8))[(x1 + (Int.toNat x3))]?) fun x11 =>
   Option.bind (f99 F x10 x11) fun x12 =>
   if x12 = true then
    f101_p1 F x1 x2 x3 x4 x6 x7 x5 x8 k (w64 (x9 + 1))
   else
    some x9
  else
   some x9
def f101_p5 (F : Nat) (x1 x2 : Nat) (x3 x13 : Int) (x6 : List Int) (x7 x5 x8 : Int) : Nat → Int → Option Int
 | 0, _ => none
 | k + 1, x14 =>
  if (decide (x13 ≤ x14)) = true then
   req ((0 : Int) ≤ x14 ∧ (x14 : Int) < ((x2 : Nat) : Int)) <|
   Option.bind (((List.set (List.set x6 (x1 + (Int.toNat x3)) x7) (x1 + (Int.toNat x5)) x8))[(x1 + (Int.toNat x14))]?) fun x15 =>
   req ((0 : Int) ≤ x3 ∧ (x3 : Int) < ((x2 : Nat) : Int)) <|
   Option.bind (((List.set (List.set x6 (x1 + (Int.toNat x3)) x7) (x1 + (Int.toNat x5)) x8))[(x1 + (Int.toNat x3))]?) fun x16 =>
   Option.bind (f99 F x15 x16) fun x17 =>
   if x17 = true then
    some x14
   else
    f101_p5 F x1 x2 x3 x13 x6 x7 x5 x8 k (w64 (x14 - 1))
  else
   some x14
def f101_p13_1 (F : Nat) (x1 x2 : Nat) (x3 x39 : Int) (x37 : List Int) : Nat → Int → Option Int
 | 0, _ => none
 | k + 1, x40 =>
  if (decide (x40 ≤ x39)) = true then
   req ((0 : Int) ≤ x40 ∧ (x40 : Int) < ((x2 : Nat) : Int)) <|
   Option.bind ((x37)[(x1 + (Int.toNat x40))]?) fun x41 =>
   req ((0 : Int) ≤ x3 ∧ (x3 : Int) < ((x2 : Nat) : Int)) <|
   Option.bind ((x37)[(x1 + (Int.toNat x3))]?) fun x42 =>
   Option.bind (f99 F x41 x42) fun x43 =>
   if x43 = true then
    f101_p13_1 F x1 x2 x3 x39 x37 k (w64 (x40 + 1))
   else
    some x40
  else
   some x40
def f101_p17_1 (F : Nat) (x1 x2 : Nat) (x3 x44 : Int) (x37 : List Int) : Nat → Int → Option Int
 | 0, _ => none
 | k + 1, x45 =>
  if (decide (x44 ≤ x45)) = true then
   req ((0 : Int) ≤ x45 ∧ (x45 : Int) < ((x2 : Nat) : Int)) <|
   Option.bind ((x37)[(x1 + (Int.toNat x45))]?) fun x46 =>
   req ((0 : Int) ≤ x3 ∧ (x3 : Int) < ((x2 : Nat) : Int)) <|
   Option.bind ((x37)[(x1 + (Int.toNat x3))]?) fun x47 =>
   Option.bind (f99 F x46 x47) fun x48 =>
   if x48 = true then
    some x45
   else
    f101_p17_1 F x1 x2 x3 x44 x37 k (w64 (x45 - 1))
  else
   some x45
def f101_p10 (F : Nat) (x1 x2 : Nat) (x3 : Int) : Nat → Int → Int → (List Int) → Option (Int × (List Int))
 | 0, _, _, _ => none
 | k + 1, x38, x39, x37 =>
  Option.bind (f101_p13_1 F x1 x2 x3 x39 x37 F x38) fun x44 =>
  Option.bind (f101_p17_1 F x1 x2 x3 x44 x37 F x39) fun x49 =>
  if (decide (x44 > x49)) = true then
   some (x49, x37)
  else
   req ((0 : Int) ≤ x49 ∧ (x49 : Int) < ((x2 : Nat) : Int)) <|
   Option.bind ((x37)[(x1 + (Int.toNat x49))]?) fun x50 =>
   req ((0 : Int) ≤ x44 ∧ (x44 : Int) < ((x2 : Nat) : Int)) <|
   Option.bind ((x37)[(x1 + (Int.toNat x44))]?) fun x51 =>
   req ((x1 + (Int.toNat x44)) < List.length x37) <|
   req ((x1 + (Int.toNat x49)) < List.length (List.set x37 (x1 + (Int.toNat x44)) x50)) <|
   f101_p10 F x1 x2 x3 k (w64 (x44 + 1)) (w64 (x49 - 1)) (List.set (List.set x37 (x1 + (Int.toNat x44)) x50) (x1 + (Int.toNat x49)) x51)
def f101 (F : Nat) (x1 x2 : Nat) (x3 x4 x5 : Int) (x6 : List Int) : Option (Int × Bool × (List Int)) :=
 req ((0 : Int) ≤ x5 ∧ (x5 : Int) < ((x2 : Nat) : Int)) <|
 Option.bind ((x6)[(x1 + (Int.toNat x5))]?) fun x7 =>
 req ((0 : Int) ≤ x3 ∧ (x3 : Int) < ((x2 : Nat) : Int)) <|
 Option.bind ((x6)[(x1 + (Int.toNat x3))]?) fun x8 =>
 req ((x1 + (Int.toNat x3)) < List.length x6) <|
 req ((x1 + (Int.toNat x5)) < List.length (List.set x6 (x1 + (Int.toNat x3)) x7)) <|
 Option.bind (f101_p1 F x1 x2 x3 x4 x6 x7 x5 x8 F (w64 (x3 + 1))) fun x13 =>
 Option.bind (f101_p5 F x1 x2 x3 x13 x6 x7 x5 x8 F (w64 (x4 - 1))) fun x18 =>
 if (decide (x13 > x18)) = true then
  Option.bind (((List.set (List.set x6 (x1 + (Int.toNat x3)) x7) (x1 + (Int.toNat x5)) x8))[(x1 + (Int.toNat x3))]?) fun x19 =>
  req ((0 : Int) ≤ x18 ∧ (x18 : Int) < ((x2 : Nat) : Int)) <|
  Option.bind (((List.set (List.set x6 (x1 + (Int.toNat x3)) x7) (x1 + (Int.toNat x5)) x8))[(x1 + (Int.toNat x18))]?) fun x20 =>
  req ((x1 + (Int.toNat x18)) < List.length (List.set (List.set x6 (x1 + (Int.toNat x3)) x7) (x1 + (Int.toNat x5)) x8)) <|
  req ((x1 + (Int.toNat x3)) < List.length (List.set (List.set (List.set x6 (x1 + (Int.toNat x3)) x7) (x1 + (Int.toNat x5)) x8) (x1 + (Int.toNat x18)) x19)) <|
  some (x18, true, (List.set (List.set (List.set (List.set x6 (x1 + (Int.toNat x3)) x7) (x1 + (Int.toNat x5)) x8) (x1 + (Int.toNat x18)) x19) (x1 + (Int.toNat x3)) x20))
 else
  req ((0 : Int) ≤ x18 ∧ (x18 : Int) < ((x2 : Nat) : Int)) <|
  Option.bind (((List.set (List.set x6 (x1 + (Int.toNat x3)) x7) (x1 + (Int.toNat x5)) x8))[(x1 + (Int.toNat x18))]?) fun x21 =>
  req ((0 : Int) ≤ x13 ∧ (x13 : Int) < ((x2 : Nat) : Int)) <|
  Option.bind (((List.set (List.set x6 (x1 + (Int.toNat x3)) x7) (x1 + (Int.toNat x5)) x8))[(x1 + (Int.toNat x13))]?) fun x22 =>
  req ((x1 + (Int.toNat x13)) < List.length (List.set (List.set x6 (x1 + (Int.toNat x3)) x7) (x1 + (Int.toNat x5)) x8)) <|
  req ((x1 + (Int.toNat x18)) < List.length (List.set (List.set (List.set x6 (x1 + (Int.toNat x3)) x7) (x1 + (Int.toNat x5)) x8) (x1 + (Int.toNat x13)) x21)) <|
  Option.bind (f101_p10 F x1 x2 x3 F (w64 (x13 + 1)) (w64 (x18 - 1)) (List.set (List.set (List.set (List.set x6 (x1 + (Int.toNat x3)) x7) (x1 + (Int.toNat x5)) x8) (x1 + (Int.toNat x13)) x21) (x1 + (Int.toNat x18)) x22)) fun (x52, x53) =>
  Option.bind ((x53)[(x1 + (Int.toNat x3))]?) fun x54 =>
  req ((0 : Int) ≤ x52 ∧ (x52 : Int) < ((x2 : Nat) : Int)) <|
  Option.bind ((x53)[(x1 + (Int.toNat x52))]?) fun x55 =>
  req ((x1 + (Int.toNat x52)) < List.length x53) <|
  req ((x1 + (Int.toNat x3)) < List.length (List.set x53 (x1 + (Int.toNat x52)) x54)) <|
  some (x52, false, (List.set (List.set x53 (x1 + (Int.toNat x52)) x54) (x1 + (Int.toNat x3)) x55))

def f83_p5_1 (F : Nat) (x1 x2 : Nat) (x28 x29 x30 : Int) (x31 x32 : Bool) (x27 : List Int) : Option Unit :=
 if x31 = true then
  some ()
 else
  none
def f83_p6_1 (F : Nat) (x1 x2 : Nat) (x28 x29 x30 : Int) (x31 x32 : Bool) (x34 x35 : Int) (x27 : List Int) : Option Unit :=
 if (x35 == 2) = true then
  none
 else
  some ()
def f83_p7_1 (F : Nat) (x1 x2 : Nat) (x28 x29 x30 : Int) (x31 x32 : Bool) (x34 x35 : Int) (x27 : List Int) : Option Unit :=
 if (x35 == 1) = true then
  none
 else
  some ()
def f83_p10_1 (F : Nat) (rec : Nat → Nat → Int → Int → Int → (List Int) → Option (List Int)) (x1 x2 : Nat) (x28 x29 x30 : Int) (x40 : Bool) (x39 : Int) (x41 : List Int) : Option (Int × Int × Bool × (List Int)) :=
 if (decide ((w64 (x39 - x28)) < (w64 (x29 - x39)))) = true then
  Option.bind (rec x1 x2 x28 x39 x30 x41) fun x42 =>
  some ((w64 (x39 + 1)), x29, (decide ((w64 (x39 - x28)) ≥ (w64 (Int.tdiv (w64 (x29 - x28)) 8)))), x42)
 else
  Option.bind (rec x1 x2 (w64 (x39 + 1)) x29 x30 x41) fun x43 =>
  some (x28, x39, (decide ((w64 (x29 - x39)) ≥ (w64 (Int.tdiv (w64 (x29 - x28)) 8)))), x43)
def f83_p10_2 (F : Nat) (rec : Nat → Nat → Int → Int → Int → (List Int) → Option (List Int)) (x1 x2 : Nat) (x28 x29 x30 : Int) (x49 : Bool) (x48 : Int) (x50 : List Int) : Option (Int × Int × Bool × (List Int)) :=
 if (decide ((w64 (x48 - x28)) < (w64 (x29 - x48)))) = true then
  Option.bind (rec x1 x2 x28 x48 x30 x50) fun x51 =>
  some ((w64 (x48 + 1)), x29, (decide ((w64 (x48 - x28)) ≥ (w64 (Int.tdiv (w64 (x29 - x28)) 8)))), x51)
 else
  Option.bind (rec x1 x2 (w64 (x48 + 1)) x29 x30 x50) fun x52 =>
  some (x28, x48, (decide ((w64 (x29 - x48)) ≥ (w64 (Int.tdiv (w64 (x29 - x28)) 8)))), x52)
def f83_p10_3 (F : Nat) (rec : Nat → Nat → Int → Int → Int → (List Int) → Option (List Int)) (x1 x2 : Nat) (x28 x29 x30 : Int) (x61 : Bool) (x60 : Int) (x62 : List Int) : Option (Int × Int × Bool × (List Int)) :=
 if (decide ((w64 (x60 - x28)) < (w64 (x29 - x60)))) = true then
  Option.bind (rec x1 x2 x28 x60 x30 x62) fun x63 =>
  some ((w64 (x60 + 1)), x29, (decide ((w64 (x60 - x28)) ≥ (w64 (Int.tdiv (w64 (x29 - x28)) 8)))), x63)
 else
  Option.bind (rec x1 x2 (w64 (x60 + 1)) x29 x30 x62) fun x64 =>
  some (x28, x60, (decide ((w64 (x29 - x60)) ≥ (w64 (Int.tdiv (w64 (x29 - x28)) 8)))), x64)
def f83_p10_4 (F : Nat) (rec : Nat → Nat → Int → Int → Int → (List Int) → Option (List Int)) (x1 x2 : Nat) (x28 x29 x30 : Int) (x70 : Bool) (x69 : Int) (x71 : List Int) : Option (Int × Int × Bool × (List Int)) :=
 if (decide ((w64 (x69 - x28)) < (w64 (x29 - x69)))) = true then
  Option.bind (rec x1 x2 x28 x69 x30 x71) fun x72 =>
  some ((w64 (x69 + 1)), x29, (decide ((w64 (x69 - x28)) ≥ (w64 (Int.tdiv (w64 (x29 - x28)) 8)))), x72)
 else
  Option.bind (rec x1 x2 (w64 (x69 + 1)) x29 x30 x71) fun x73 =>
  some (x28, x69, (decide ((w64 (x29 - x69)) ≥ (w64 (Int.tdiv (w64 (x29 - x28)) 8)))), x73)
def f83_p10_5 (F : Nat) (rec : Nat → Nat → Int → Int → Int → (List Int) → Option (List Int)) (x1 x2 : Nat) (x28 x29 x30 : Int) (x82 : Bool) (x81 : Int) (x83 : List Int) : Option (Int × Int × Bool × (List Int)) :=
 if (decide ((w64 (x81 - x28)) < (w64 (x29 - x81)))) = true then
  Option.bind (rec x1 x2 x28 x81 x30 x83) fun x84 =>
  some ((w64 (x81 + 1)), x29, (decide ((w64 (x81 - x28)) ≥ (w64 (Int.tdiv (w64 (x29 - x28)) 8)))), x84)
 else
  Option.bind (rec x1 x2 (w64 (x81 + 1)) x29 x30 x83) fun x85 =>
  some (x28, x81, (decide ((w64 (x29 - x81)) ≥ (w64 (Int.tdiv (w64 (x29 - x28)) 8)))), x85)
def f83_p10_6 (F : Nat) (rec : Nat → Nat → Int → Int → Int → (List Int) → Option (List Int)) (x1 x2 : Nat) (x28 x29 x30 : Int) (x91 : Bool) (x90 : Int) (x92 : List Int) : Option (Int × Int × Bool × (List Int)) :=
 if (decide ((w64 (x90 - x28)) < (w64 (x29 - x90)))) = true then
  Option.bind (rec x1 x2 x28 x90 x30 x92) fun x93 =>
  some ((w64 (x90 + 1)), x29, (decide ((w64 (x90 - x28)) ≥ (w64 (Int.tdiv (w64 (x29 - x28)) 8)))), x93)
 else
  Option.bind (rec x1 x2 (w64 (x90 + 1)) x29 x30 x92) fun x94 =>
  some (x28, x90, (decide ((w64 (x29 - x90)) ≥ (w64 (Int.tdiv (w64 (x29 - x28)) 8)))), x94)
def f83_p1_7 (F : Nat) (rec : Nat → Nat → Int → Int → Int → (List Int) → Option (List Int)) (x1 x2 : Nat) : Nat → Int → Int → Int → Bool → Bool → (List Int) → Option (List Int)
 | 0, _, _, _, _, _, _ => none
 | k + 1, x28, x29, x30, x31, x32, x27 =>
  if (decide ((w64 (x29 - x28)) ≤ 12)) = true then
   Option.bind (f93 F x1 x2 x28 x29 x27) fun x33 =>
   some x33
  else
  if (x30 == 0) = true then
   none
  else
   Option.bind (f83_p5_1 F x1 x2 x28 x29 x30 x31 x32 x27) fun _ =>
   Option.bind (f96 F x1 x2 x28 x29 x27) fun (x34, x35) =>
   Option.bind (f83_p6_1 F x1 x2 x28 x29 x30 x31 x32 x34 x35 x27) fun _ =>
   if x31 = true then
    if x32 = true then
     Option.bind (f83_p7_1 F x1 x2 x28 x29 x30 x31 x32 x34 x35 x27) fun _ =>
     if (decide (x28 > 0)) = true then
      req ((0 : Int) ≤ (w64 (x28 - 1)) ∧ ((w64 (x28 - 1)) : Int) < ((x2 : Nat) : Int)) <|
      Option.bind ((x27)[(x1 + (Int.toNat (w64 (x28 - 1))))]?) fun x36 =>
      req ((0 : Int) ≤ x34 ∧ (x34 : Int) < ((x2 : Nat) : Int)) <|
      Option.bind ((x27)[(x1 + (Int.toNat x34))]?) fun x37 =>
      Option.bind (f99 F x36 x37) fun x38 =>
      if x38 = true then
       Option.bind (f101 F x1 x2 x28 x29 x34 x27) fun (x39, x40, x41) =>
       Option.bind (f83_p10_1 F rec x1 x2 x28 x29 x30 x40 x39 x41) fun (x44, x45, x46, x47) =>
       f83_p1_7 F rec x1 x2 k x44 x45 x30 x46 x40 x47
      else
       none
     else
      Option.bind (f101 F x1 x2 x28 x29 x34 x27) fun (x48, x49, x50) =>
      Option.bind (f83_p10_2 F rec x1 x2 x28 x29 x30 x49 x48 x50) fun (x53, x54, x55, x56) =>
      f83_p1_7 F rec x1 x2 k x53 x54 x30 x55 x49 x56
    else
    if (decide (x28 > 0)) = true then
     req ((0 : Int) ≤ (w64 (x28 - 1)) ∧ ((w64 (x28 - 1)) : Int) < ((x2 : Nat) : Int)) <|
     Option.bind ((x27)[(x1 + (Int.toNat (w64 (x28 - 1))))]?) fun x57 =>
     req ((0 : Int) ≤ x34 ∧ (x34 : Int) < ((x2 : Nat) : Int)) <|
     Option.bind ((x27)[(x1 + (Int.toNat x34))]?) fun x58 =>
     Option.bind (f99 F x57 x58) fun x59 =>
     if x59 = true then
      Option.bind (f101 F x1 x2 x28 x29 x34 x27) fun (x60, x61, x62) =>
      Option.bind (f83_p10_3 F rec x1 x2 x28 x29 x30 x61 x60 x62) fun (x65, x66, x67, x68) =>
      f83_p1_7 F rec x1 x2 k x65 x66 x30 x67 x61 x68
     else
      none
    else
     Option.bind (f101 F x1 x2 x28 x29 x34 x27) fun (x69, x70, x71) =>
     Option.bind (f83_p10_4 F rec x1 x2 x28 x29 x30 x70 x69 x71) fun (x74, x75, x76, x77) =>
     f83_p1_7 F rec x1 x2 k x74 x75 x30 x76 x70 x77
   else
   if (decide (x28 > 0)) = true then
    req ((0 : Int) ≤ (w64 (x28 - 1)) ∧ ((w64 (x28 - 1)) : Int) < ((x2 : Nat) : Int)) <|
    Option.bind ((x27)[(x1 + (Int.toNat (w64 (x28 - 1))))]?) fun x78 =>
    req ((0 : Int) ≤ x34 ∧ (x34 : Int) < ((x2 : Nat) : Int)) <|
    Option.bind ((x27)[(x1 + (Int.toNat x34))]?) fun x79 =>
    Option.bind (f99 F x78 x79) fun x80 =>
    if x80 = true then
     Option.bind (f101 F x1 x2 x28 x29 x34 x27) fun (x81, x82, x83) =>
     Option.bind (f83_p10_5 F rec x1 x2 x28 x29 x30 x82 x81 x83) fun (x86, x87, x88, x89) =>
     f83_p1_7 F rec x1 x2 k x86 x87 x30 x88 x82 x89
    else
     none
   else
    Option.bind (f101 F x1 x2 x28 x29 x34 x27) fun (x90, x91, x92) =>
    Option.bind (f83_p10_6 F rec x1 x2 x28 x29 x30 x91 x90 x92) fun (x95, x96, x97, x98) =>
    f83_p1_7 F rec x1 x2 k x95 x96 x30 x97 x91 x98
def f83_b (F : Nat) (rec : Nat → Nat → Int → Int → Int → (List Int) → Option (List Int)) (x1 x2 : Nat) (x3 x4 x5 : Int) (x6 : List Int) : Option (List Int) :=
 Option.bind (f83_p1_7 F rec x1 x2 F x3 x4 x5 true true x6) fun x99 =>
 some x99
def f83 (F : Nat) : Nat → Nat → Nat → Int → Int → Int → (List Int) → Option (List Int)
 | 0 => fun _ _ _ _ _ _ => none
 | k + 1 => f83_b F (f83 F k)

def f49 (F : Nat) (x1 : List Int) : Option (List Int) :=
 Option.bind (f84 F (IntKind.wrap .u64 ((((List.length x1) : Nat) : Int)))) fun x2 =>
 Option.bind (f83 F F 0 (List.length x1) 0 (((List.length x1) : Nat) : Int) x2 x1) fun x3 =>
 some x3

def f70_p7_1 (F : Nat) (x4 : List Int) (x14 x13 : Int) : Nat → Int → (List Int) → Option (List Int)
 | 0, _, _ => none
 | k + 1, x16, x15 =>
  if (decide (x16 < x14)) = true then
   req (List.length x15 + List.length ([x16] : List Int) ≤ 1099511627776) <|
   f70_p7_1 F x4 x14 x13 k (w64 (x16 + ((List.length x4 : Nat) : Int))) (x15 ++ ([x16] : List Int))
  else
   some x15
def f70_p3 (F : Nat) (x4 : List Int) : Nat → Int → (List Int) → Option (List Int)
 | 0, _, _ => none
 | k + 1, x13, x12 =>
  if (decide (x13 < ((List.length x4 : Nat) : Int))) = true then
   Option.bind (at? x4 x13) fun x14 =>
   Option.bind (f70_p7_1 F x4 x14 x13 F x13 x12) fun x17 =>
   f70_p3 F x4 k (w64 (x13 + 1)) x17
  else
   some x12
def f70 (F : Nat) (x1 : List Int) : Option ((List Int) × Int) :=
 Option.bind (f26 F x1) fun x2 =>
 if (x2 != 0) = true then
  some (([] : List Int), x2)
 else
  Option.bind (at? x1 0) fun x3 =>
  Option.bind (f68 F x1 x3) fun x4 =>
  Option.bind (f91 F x4 (-1)) fun x5 =>
  if x5 = true then
   some (([] : List Int), 15)
  else
   Option.bind (f70_p3 F x4 F 0 ([] : List Int)) fun x18 =>
   Option.bind (f49 F x18) fun x19 =>
   req ((0 + (List.length x18)) ≤ List.length x19) <|
   some ((List.drop 0 (List.take (0 + (List.length x18)) x19)), 0)

def f28 (F : Nat) (x1 : List Int) : Option ((List Int) × Int) :=
 Option.bind (f70 F x1) fun (x2, x3) =>
 some (x2, x3)

def f30 (F : Nat) (x1 : List Int) : Option (Int × Int) :=
 Option.bind (f70 F x1) fun (x2, x3) =>
 if (x3 != 0) = true then
  some (0, x3)
 else
 if (((List.length x2 : Nat) : Int) == 0) = true then
  some (0, 12)
 else
  Option.bind (at? x2 (w64 (((List.length x2 : Nat) : Int) - 1))) fun x4 =>
  some (x4, 0)

def f24 (F : Nat) (x1 : List Int) (x2 : Int) : Option ((List Int) × Int) :=
 Option.bind (f26 F x1) fun x3 =>
 if (x3 != 0) = true then
  some (([] : List Int), x3)
 else
  Option.bind (f67 F x2 0 (w64 (((List.length x1 : Nat) : Int) - 1))) fun x4 =>
  if x4 = true then
   Option.bind (at? x1 x2) fun x5 =>
   Option.bind (f68 F x1 x5) fun x6 =>
   some (x6, 0)
  else
   some (([] : List Int), 2)

def f60 (F : Nat) (x1 : List Int) (x2 : Int) : Option ((List Int) × Int) :=
 Option.bind (f26 F x1) fun x3 =>
 if (x3 != 0) = true then
  some (([] : List Int), x3)
 else
  Option.bind (f67 F x2 0 1000) fun x4 =>
  if x4 = true then
   Option.bind (at? x1 0) fun x5 =>
   Option.bind (f68 F x1 x5) fun x6 =>
   some (x6, 0)
  else
   some (([] : List Int), 1)

def f61 (F : Nat) (x1 : List Int) (x2 : Int) : Option Bool :=
 req ((((List.length x1 : Nat) : Int) : Int) ≠ 0) <|
 Option.bind (at? x1 (Int.tmod x2 ((List.length x1 : Nat) : Int))) fun x3 =>
 if (decide (x3 ≥ 0)) = true then
  some (decide (x3 ≤ x2))
 else
  some false

def f17 (F : Nat) (x1 : List Int) (x2 : Int) : Option (Bool × Int) :=
 Option.bind (f60 F x1 x2) fun (x3, x4) =>
 if (x4 == 0) = true then
  Option.bind (f61 F x3 x2) fun x5 =>
  some (x5, x4)
 else
  some (false, x4)

def f21 (F : Nat) (x1 : List Int) (x2 : Int) : Option (Int × Int × Int) :=
 Option.bind (f60 F x1 x2) fun (x3, x4) =>
 if (x4 != 0) = true then
  some (0, 0, x4)
 else
  Option.bind (f61 F x3 x2) fun x5 =>
  if x5 = true then
   some (0, 0, 13)
  else
   Option.bind (at? x1 0) fun x6 =>
   req ((x6 : Int) ≠ 0) <|
   Option.bind (at? x3 (Int.tmod x2 x6)) fun x7 =>
   some ((Int.tmod x2 x6), x7, 0)

def f89_1 (F : Nat) (x1 : Int) (x2 : List Int) (x3 x4 x5 : Int) : Option Int :=
 Option.bind (at? x2 (w64 (x4 + (w64 (x1 * x3))))) fun x6 =>
 some (w64 ((w64 (x6 + x5)) - x1))

def f65_p1 (F : Nat) (x3 : Int) (x1 x2 : List Int) : Nat → Int → (List Int) → Option (List Int)
 | 0, _, _ => none
 | k + 1, x6, x5 =>
  if (decide (x6 < (((Int.toNat (w64 (x3 + 1))) : Nat) : Int))) = true then
   req ((0 : Int) ≤ x6 ∧ (x6 : Int) < (((Int.toNat (w64 (x3 + 1))) : Nat) : Int)) <|
   req ((0 + (Int.toNat x6)) < List.length x5) <|
   f65_p1 F x3 x1 x2 k (w64 (x6 + 1)) (List.set x5 (0 + (Int.toNat x6)) 1001)
  else
   some x5
def f65_p17_17 (F : Nat) (x3 : Int) (x1 : List Int) (x134 x137 : Int) (x136 x167 : Int) (x2 x135 : List Int) (x133 : List (List Int)) (x179 x180 : List Int) (x182 : Int) : Nat → (List Int) → Option (List Int)
 | 0, _ => none
 | k + 1, x183 =>
  if (decide ((((List.length x183) : Nat) : Int) > 0)) = true then
   req ((0 : Int) ≤ (w64 ((((List.length x183) : Nat) : Int) - 1)) ∧ ((w64 ((((List.length x183) : Nat) : Int) - 1)) : Int) < (((List.length x183) : Nat) : Int)) <|
   Option.bind ((x183)[(0 + (Int.toNat (w64 ((((List.length x183) : Nat) : Int) - 1))))]?) fun x184 =>
   Option.bind (f89_1 F x184 x135 x136 x167 x182) fun x185 =>
   Option.bind (f89_1 F x182 x135 x136 x167 x182) fun x186 =>
   if (decide (x185 ≥ x186)) = true then
    req ((0 : Int) ≤ 0 ∧ (0 : Int) ≤ (w64 ((((List.length x183) : Nat) : Int) - 1)) ∧ ((w64 ((((List.length x183) : Nat) : Int) - 1)) : Int) ≤ (((List.length x183) : Nat) : Int) ∧ 0 < (List.length x183)) <|
    req ((0 : Int) < (w64 ((((List.length x183) : Nat) : Int) - 1)) ∨ (0 : Int) = 0) <|
    f65_p17_17 F x3 x1 x134 x137 x136 x167 x2 x135 x133 x179 x180 x182 k (List.drop 0 (List.take (Int.toNat (w64 ((((List.length x183) : Nat) : Int) - 1))) x183))
   else
    some x183
  else
   some x183
def f65_p20_17 (F : Nat) (x3 : Int) (x1 : List Int) (x134 x137 : Int) (x187 : List Int) (x182 x136 : Int) (x167 x188 : Int) (x2 x135 : List Int) (x133 : List (List Int)) (x179 x180 : List Int) : Option (List Int) :=
 if (decide (x188 < (w64 (x182 - x137)))) = true then
  req ((0 : Int) ≤ 1 ∧ (1 : Int) ≤ (((List.length (x187 ++ ([x182] : List Int))) : Nat) : Int) ∧ ((((List.length (x187 ++ ([x182] : List Int))) : Nat) : Int) : Int) ≤ (((List.length (x187 ++ ([x182] : List Int))) : Nat) : Int) ∧ 0 < (List.length (x187 ++ ([x182] : List Int)))) <|
  req ((1 : Int) < (((List.length (x187 ++ ([x182] : List Int))) : Nat) : Int) ∨ (1 : Int) = 0) <|
  some (List.drop 1 (List.take (List.length (x187 ++ ([x182] : List Int))) (x187 ++ ([x182] : List Int))))
 else
  some (x187 ++ ([x182] : List Int))
def f65_p13_5 (F : Nat) (x3 : Int) (x1 : List Int) (x134 x137 : Int) (x136 x167 : Int) (x2 x135 : List Int) (x133 : List (List Int)) : Nat → (List Int) → (List Int) → Int → (List Int) → Option ((List Int) × (List Int))
 | 0, _, _, _, _ => none
 | k + 1, x179, x180, x182, x181 =>
  if (decide ((w64 (x167 + (w64 (x182 * x136)))) ≤ x3)) = true then
   Option.bind (f65_p17_17 F x3 x1 x134 x137 x136 x167 x2 x135 x133 x179 x180 x182 F x181) fun x187 =>
   req (List.length x187 + List.length ([x182] : List Int) ≤ 1099511627776) <|
   req ((0 : Int) ≤ 0 ∧ (0 : Int) < (((List.length (x187 ++ ([x182] : List Int))) : Nat) : Int)) <|
   Option.bind (((x187 ++ ([x182] : List Int)))[0]?) fun x188 =>
   Option.bind (f65_p20_17 F x3 x1 x134 x137 x187 x182 x136 x167 x188 x2 x135 x133 x179 x180) fun x189 =>
   req ((0 : Int) ≤ 0 ∧ (0 : Int) < (((List.length x189) : Nat) : Int)) <|
   Option.bind ((x189)[0]?) fun x190 =>
   Option.bind (f89_1 F x190 x135 x136 x167 x182) fun x191 =>
   req ((0 : Int) ≤ (w64 (x167 + (w64 (x182 * x136)))) ∧ ((w64 (x167 + (w64 (x182 * x136)))) : Int) < (((Int.toNat (w64 (x3 + 1))) : Nat) : Int)) <|
   req ((0 + (Int.toNat (w64 (x167 + (w64 (x182 * x136)))))) < List.length x179) <|
   req ((0 + (Int.toNat (w64 (x167 + (w64 (x182 * x136)))))) < List.length x180) <|
   f65_p13_5 F x3 x1 x134 x137 x136 x167 x2 x135 x133 k (List.set x179 (0 + (Int.toNat (w64 (x167 + (w64 (x182 * x136)))))) (if x191 < 1001 then x191 else 1001)) (List.set x180 (0 + (Int.toNat (w64 (x167 + (w64 (x182 * x136)))))) (w64 (x182 - x190))) (w64 (x182 + 1)) x189
  else
   some (x179, x180)
def f65_p9_2 (F : Nat) (x3 : Int) (x1 : List Int) (x134 x137 x136 : Int) (x2 x135 : List Int) (x133 : List (List Int)) : Nat → Int → (List Int) → (List Int) → Option ((List Int) × (List Int))
 | 0, _, _, _ => none
 | k + 1, x167, x165, x166 =>
  if (decide (x167 < (if (w64 (x3 + 1)) < x136 then (w64 (x3 + 1)) else x136))) = true then
   Option.bind (f65_p13_5 F x3 x1 x134 x137 x136 x167 x2 x135 x133 F x165 x166 0 ([] : List Int)) fun (x192, x193) =>
   f65_p9_2 F x3 x1 x134 x137 x136 x2 x135 x133 k (w64 (x167 + 1)) x192 x193
  else
   some (x165, x166)
def f65_p5 (F : Nat) (x3 : Int) (x1 x2 : List Int) : Nat → Int → (List Int) → (List (List Int)) → Option ((List Int) × (List (List Int)))
 | 0, _, _, _ => none
 | k + 1, x134, x135, x133 =>
  if (decide (x134 ≥ 0)) = true then
   Option.bind (at? x1 x134) fun x136 =>
   Option.bind (at? x2 x134) fun x137 =>
   req ((0 : Int) ≤ (w64 (x3 + 1)) ∧ ((w64 (x3 + 1)) : Int) ≤ (w64 (x3 + 1)) ∧ ((w64 (x3 + 1)) : Int) ≤ 1099511627776) <|
   Option.bind (f65_p9_2 F x3 x1 x134 x137 x136 x2 x135 x133 F 0 (List.replicate (Int.toNat (w64 (x3 + 1))) (0 : Int)) (List.replicate (Int.toNat (w64 (x3 + 1))) (0 : Int))) fun (x194, x195) =>
   req ((0 + (Int.toNat (w64 (x3 + 1)))) ≤ List.length x194) <|
   req ((0 + (Int.toNat (w64 (x3 + 1)))) ≤ List.length x195) <|
   req ((0 : Int) ≤ x134 ∧ (x134 : Int) < (((Int.toNat ((List.length x1 : Nat) : Int)) : Nat) : Int)) <|
   req ((0 + (Int.toNat x134)) < List.length x133) <|
   f65_p5 F x3 x1 x2 k (w64 (x134 - 1)) (List.drop 0 (List.take (0 + (Int.toNat (w64 (x3 + 1)))) x194)) (List.set x133 (0 + (Int.toNat x134)) (List.drop 0 (List.take (0 + (Int.toNat (w64 (x3 + 1)))) x195)))
  else
   some (x135, x133)
def f65_p23 (F : Nat) (x1 x2 : List Int) (x197 : List (List Int)) : Nat → Int → Int → (List Int) → Option (List Int)
 | 0, _, _, _ => none
 | k + 1, x205, x206, x204 =>
  if (decide (x206 < (((Int.toNat ((List.length x1 : Nat) : Int)) : Nat) : Int))) = true then
   req ((0 : Int) ≤ x206 ∧ (x206 : Int) < (((Int.toNat ((List.length x1 : Nat) : Int)) : Nat) : Int)) <|
   Option.bind ((x197)[(0 + (Int.toNat x206))]?) fun x207 =>
   Option.bind (at? x207 x205) fun x208 =>
   req (List.length x204 + List.length ([x208] : List Int) ≤ 1099511627776) <|
   Option.bind (at? x1 x206) fun x209 =>
   f65_p23 F x1 x2 x197 k (w64 (x205 - (w64 (x208 * x209)))) (w64 (x206 + 1)) (x204 ++ ([x208] : List Int))
  else
   some x204
def f65 (F : Nat) (x1 x2 : List Int) (x3 : Int) : Option ((List Int) × Int) :=
 req ((0 : Int) ≤ (w64 (x3 + 1)) ∧ ((w64 (x3 + 1)) : Int) ≤ (w64 (x3 + 1)) ∧ ((w64 (x3 + 1)) : Int) ≤ 1099511627776) <|
 Option.bind (f65_p1 F x3 x1 x2 F 0 (List.replicate (Int.toNat (w64 (x3 + 1))) (0 : Int))) fun x7 =>
 req ((0 : Int) ≤ 0 ∧ (0 : Int) < (((Int.toNat (w64 (x3 + 1))) : Nat) : Int)) <|
 req (0 < List.length x7) <|
 req ((0 : Int) ≤ ((List.length x1 : Nat) : Int) ∧ (((List.length x1 : Nat) : Int) : Int) ≤ ((List.length x1 : Nat) : Int) ∧ (((List.length x1 : Nat) : Int) : Int) ≤ 1099511627776) <|
 req ((0 + (Int.toNat (w64 (x3 + 1)))) ≤ List.length (List.set x7 0 0)) <|
 Option.bind (f65_p5 F x3 x1 x2 F (w64 (((List.length x1 : Nat) : Int) - 1)) (List.drop 0 (List.take (0 + (Int.toNat (w64 (x3 + 1)))) (List.set x7 0 0))) (List.replicate (Int.toNat ((List.length x1 : Nat) : Int)) ([] : (List Int)))) fun (x196, x197) =>
 Option.bind (at? x196 x3) fun x198 =>
 if (x198 == 1001) = true then
  some (([] : List Int), 12)
 else
  Option.bind (f65_p23 F x1 x2 x197 F x3 0 ([] : List Int)) fun x210 =>
  some ((List.drop 0 (List.take (0 + (List.length x210)) x210)), 0)

def f19_p2 (F : Nat) (x2 : Int) (x1 : List Int) : Nat → Int → (List Int) → (List Int) → Option ((List Int) × (List Int))
 | 0, _, _, _ => none
 | k + 1, x11, x12, x10 =>
  if (decide (x11 < ((List.length x1 : Nat) : Int))) = true then
   Option.bind (at? x1 x11) fun x13 =>
   req ((x13 : Int) ≠ 0) <|
   req (List.length x10 + List.length ([(w64 (Int.tdiv x2 x13))] : List Int) ≤ 1099511627776) <|
   f19_p2 F x2 x1 k (w64 (x11 + 1)) x12 (x10 ++ ([(w64 (Int.tdiv x2 x13))] : List Int))
  else
   some (x12, x10)
def f19 (F : Nat) (x1 : List Int) (x2 : Int) : Option ((List Int) × Int) :=
 Option.bind (f60 F x1 x2) fun (x3, x4) =>
 if (x4 != 0) = true then
  some (([] : List Int), x4)
 else
  Option.bind (f19_p2 F x2 x1 F 0 x1 ([] : List Int)) fun (x14, x15) =>
  Option.bind (f65 F x14 (List.drop 0 (List.take (0 + (List.length x15)) x15)) x2) fun (x16, x17) =>
  some (x16, x17)

def f34_p5 (F : Nat) (x1 x5 : List Int) (x6 : Int) (x10 : Bool) : Option (List Int) :=
 if x10 = true then
  some x5
 else
  req (List.length x5 + List.length ([x6] : List Int) ≤ 1099511627776) <|
  some (x5 ++ ([x6] : List Int))
def f34_p2 (F : Nat) (x1 : List Int) : Nat → Int → (List Int) → Option (List Int)
 | 0, _, _ => none
 | k + 1, x6, x5 =>
  if (decide (x6 < ((List.length x1 : Nat) : Int))) = true then
   Option.bind (at? x1 x6) fun x7 =>
   if (x6 == 0) = true then
    req (List.length x5 + List.length ([x6] : List Int) ≤ 1099511627776) <|
    f34_p2 F x1 k (w64 (x6 + 1)) (x5 ++ ([x6] : List Int))
   else
    req ((0 : Int) ≤ 0 ∧ (0 : Int) ≤ x6 ∧ (x6 : Int) ≤ ((List.length x1 : Nat) : Int)) <|
    Option.bind (at? x1 0) fun x8 =>
    Option.bind (f68 F (List.drop 0 (List.take (Int.toNat x6) x1)) x8) fun x9 =>
    Option.bind (f61 F x9 x7) fun x10 =>
    Option.bind (f34_p5 F x1 x5 x6 x10) fun x11 =>
    f34_p2 F x1 k (w64 (x6 + 1)) x11
  else
   some x5
def f34 (F : Nat) (x1 : List Int) : Option ((List Int) × Int) :=
 Option.bind (f26 F x1) fun x2 =>
 if (x2 != 0) = true then
  some (([] : List Int), x2)
 else
  Option.bind (f34_p2 F x1 F 0 ([] : List Int)) fun x12 =>
  some ((List.drop 0 (List.take (0 + (List.length x12)) x12)), 0)

def f32 (F : Nat) (x1 : List Int) : Option (Bool × Int) :=
 Option.bind (f70 F x1) fun (x2, x3) =>
 if (x3 != 0) = true then
  some (false, x3)
 else
 if (((List.length x2 : Nat) : Int) == 0) = true then
  some (true, 0)
 else
  Option.bind (at? x2 (w64 (((List.length x2 : Nat) : Int) - 1))) fun x4 =>
  some (((w64 (2 * ((List.length x2 : Nat) : Int))) == (w64 (x4 + 1))), 0)

def f92_p0 (F : Nat) (x1 : List Int) : Option Unit :=
 if (decide (((List.length x1 : Nat) : Int) < 1)) = true then
  none
 else
  some ()
def f92_p2 (F : Nat) (x1 : List Int) : Nat → Int → Int → Option Int
 | 0, _, _ => none
 | k + 1, x3, x4 =>
  if (decide (x4 < ((List.length x1 : Nat) : Int))) = true then
   Option.bind (at? x1 x4) fun x5 =>
   f92_p2 F x1 k (if x5 < x3 then x5 else x3) (w64 (x4 + 1))
  else
   some x3
def f92 (F : Nat) (x1 : List Int) : Option Int :=
 Option.bind (f92_p0 F x1) fun _ =>
 Option.bind (at? x1 0) fun x2 =>
 Option.bind (f92_p2 F x1 F x2 1) fun x6 =>
 some x6

def f85_p0 (F : Nat) (x1 : List Int) : Option Unit :=
 if (decide (((List.length x1 : Nat) : Int) < 1)) = true then
  none
 else
  some ()
def f85_p2 (F : Nat) (x1 : List Int) : Nat → Int → Int → Option Int
 | 0, _, _ => none
 | k + 1, x3, x4 =>
  if (decide (x4 < ((List.length x1 : Nat) : Int))) = true then
   Option.bind (at? x1 x4) fun x5 =>
   f85_p2 F x1 k (if x5 > x3 then x5 else x3) (w64 (x4 + 1))
  else
   some x3
def f85 (F : Nat) (x1 : List Int) : Option Int :=
 Option.bind (f85_p0 F x1) fun _ =>
 Option.bind (at? x1 0) fun x2 =>
 Option.bind (f85_p2 F x1 F x2 1) fun x6 =>
 some x6

def f77 (F : Nat) (x1 x2 : List Int) : Option ((List Int) × (List Int) × Int) :=
 Option.bind (f26 F x1) fun x3 =>
 if (x3 != 0) = true then
  some (([] : List Int), ([] : List Int), x3)
 else
 if (((List.length x2 : Nat) : Int) != ((List.length x1 : Nat) : Int)) = true then
  some (([] : List Int), ([] : List Int), 5)
 else
  Option.bind (f92 F x2) fun x4 =>
  if (decide (x4 < 0)) = true then
   some (([] : List Int), ([] : List Int), 1)
  else
   Option.bind (f85 F x2) fun x5 =>
   if (decide (x5 > 40)) = true then
    some (([] : List Int), ([] : List Int), 1)
   else
    some (x1, x2, 0)

def f73_p0 (F : Nat) (x6 : Int) (x7 : Bool) (x4 x5 : List Int) : Option Int :=
 if x7 = true then
  some x6
 else
  some 1
def f73 (F : Nat) (x1 x2 : List Int) (x3 : Int) : Option ((List Int) × (List Int) × Int) :=
 Option.bind (f77 F x1 x2) fun (x4, x5, x6) =>
 if (x6 == 0) = true then
  Option.bind (f67 F x3 0 1000) fun x7 =>
  Option.bind (f73_p0 F x6 x7 x4 x5) fun x8 =>
  some (x4, x5, x8)
 else
  some (x4, x5, x6)

def f51 (F : Nat) (x1 x2 : List Int) (x3 : Int) : Option ((List Int) × Int) :=
 Option.bind (f73 F x1 x2 x3) fun (x4, x5, x6) =>
 if (x6 != 0) = true then
  some (([] : List Int), x6)
 else
  Option.bind (f65 F x4 x5 x3) fun (x7, x8) =>
  some (x7, x8)

def f47 (F : Nat) (x1 : Option (List Int)) : Option (List Int) :=
 if (Option.isNone x1) = true then
  some ([] : List Int)
 else
  req (List.length ([] : List Int) + List.length ((x1).getD []) ≤ 1099511627776) <|
  some (([] : List Int) ++ ((x1).getD []))

def f47m (F : Nat) (x1 : List Int) : Option (List Int) :=
 nilm (fun o => f47 F o) x1

def f74_p8_5 (F : Nat) (x33 : List Int) (x34 x35 : Int) (x36 : List Int) (x53 x56 : Int) (x1 x52 : List Int) (x54 x55 : Int) (x2 : List Int) : Option (List Int) :=
 if (decide ((w64 (x53 - (w64 ((w64 (x56 + 1)) * x35)))) ≥ 0)) = true then
  req ((0 : Int) ≤ x53 ∧ (x53 : Int) < (((List.length x36) : Nat) : Int)) <|
  Option.bind (((List.set x52 (0 + (Int.toNat x53)) (w64 (x54 + x55))))[(0 + (Int.toNat x53))]?) fun x57 =>
  Option.bind (at? x33 (w64 (x53 - (w64 ((w64 (x56 + 1)) * x35))))) fun x58 =>
  req ((0 + (Int.toNat x53)) < List.length (List.set x52 (0 + (Int.toNat x53)) (w64 (x54 + x55)))) <|
  some (List.set (List.set x52 (0 + (Int.toNat x53)) (w64 (x54 + x55))) (0 + (Int.toNat x53)) (w64 (x57 - x58)))
 else
  some (List.set x52 (0 + (Int.toNat x53)) (w64 (x54 + x55)))
def f74_p5_1 (F : Nat) (x33 : List Int) (x34 x35 : Int) (x36 x1 x2 : List Int) : Nat → Int → (List Int) → Option (List Int)
 | 0, _, _ => none
 | k + 1, x53, x52 =>
  if (decide (x53 ≤ 1000)) = true then
   req ((0 : Int) ≤ x53 ∧ (x53 : Int) < (((List.length x36) : Nat) : Int)) <|
   Option.bind ((x52)[(0 + (Int.toNat x53))]?) fun x54 =>
   req ((0 : Int) ≤ (w64 (x53 - x35)) ∧ ((w64 (x53 - x35)) : Int) < (((List.length x36) : Nat) : Int)) <|
   Option.bind ((x52)[(0 + (Int.toNat (w64 (x53 - x35))))]?) fun x55 =>
   req ((0 + (Int.toNat x53)) < List.length x52) <|
   Option.bind (at? x2 x34) fun x56 =>
   Option.bind (f74_p8_5 F x33 x34 x35 x36 x53 x56 x1 x52 x54 x55 x2) fun x59 =>
   f74_p5_1 F x33 x34 x35 x36 x1 x2 k (w64 (x53 + 1)) x59
  else
   some x52
def f74_p1 (F : Nat) (x1 x2 : List Int) : Nat → (List Int) → Int → Option (List Int)
 | 0, _, _ => none
 | k + 1, x33, x34 =>
  if (decide (x34 < ((List.length x1 : Nat) : Int))) = true then
   Option.bind (at? x1 x34) fun x35 =>
   Option.bind (f47m F x33) fun x36 =>
   Option.bind (f74_p5_1 F x33 x34 x35 x36 x1 x2 F x35 x36) fun x60 =>
   req ((0 + (List.length x36)) ≤ List.length x60) <|
   f74_p1 F x1 x2 k (List.drop 0 (List.take (0 + (List.length x36)) x60)) (w64 (x34 + 1))
  else
   some x33
def f74 (F : Nat) (x1 x2 : List Int) : Option (List Int) :=
 req ((0 : Int) ≤ 0 ∧ (0 : Int) < ((1001 : Nat) : Int)) <|
 req (0 < List.length (List.replicate 1001 (0 : Int))) <|
 req (1001 ≤ List.length (List.set (List.replicate 1001 (0 : Int)) 0 1)) <|
 Option.bind (f74_p1 F x1 x2 F (List.drop 0 (List.take 1001 (List.set (List.replicate 1001 (0 : Int)) 0 1))) 0) fun x61 =>
 some x61

def f36 (F : Nat) (x1 x2 : List Int) (x3 : Int) : Option (Int × Int) :=
 Option.bind (f73 F x1 x2 x3) fun (x4, x5, x6) =>
 if (x6 != 0) = true then
  some (0, x6)
 else
  Option.bind (f74 F x4 x5) fun x7 =>
  Option.bind (at? x7 x3) fun x8 =>
  some (x8, 0)

def f47_1 (F : Nat) (x1 : Option (List Int)) : Option (List Int) :=
 if (Option.isNone x1) = true then
  some ([] : List Int)
 else
  req (List.length ([] : List Int) + List.length ((x1).getD []) ≤ 1099511627776) <|
  some (([] : List Int) ++ ((x1).getD []))

def f47_1m (F : Nat) (x1 : List Int) : Option (List Int) :=
 nilm (fun o => f47_1 F o) x1

def f42_p10 (F : Nat) (x3 x4 : Int) (x12 x14 : Int) (x10 : List Int) (x15 x11 : Int) (x5 x6 : List Int) : Option (Int × Int) :=
 if (x14 != 0) = true then
  some (x15, 0)
 else
  some (x12, x14)
def f42_p4 (F : Nat) (x3 x4 : Int) (x10 : List Int) (x11 : Int) (x5 x6 : List Int) : Nat → Int → Int → Int → Int → Option (Int × Int × Int)
 | 0, _, _, _, _ => none
 | k + 1, x12, x13, x14, x15 =>
  if (decide (x15 < (w64 (x11 + 1)))) = true then
   Option.bind (at? x5 x4) fun x16 =>
   if (decide ((w64 (x3 - (w64 (x15 * x16)))) < 0)) = true then
    some (x12, x13, x14)
   else
    Option.bind (at? x10 (w64 (x3 - (w64 (x15 * x16))))) fun x17 =>
    if (x17 == 0) = true then
     f42_p4 F x3 x4 x10 x11 x5 x6 k x12 x13 x14 (w64 (x15 + 1))
    else
     Option.bind (f42_p10 F x3 x4 x12 x14 x10 x15 x11 x5 x6) fun (x18, x19) =>
     f42_p4 F x3 x4 x10 x11 x5 x6 k x18 x15 x19 (w64 (x15 + 1))
  else
   some (x12, x13, x14)
def f42 (F : Nat) (x1 x2 : List Int) (x3 x4 : Int) : Option (Int × Int × Int) :=
 Option.bind (f73 F x1 x2 x3) fun (x5, x6, x7) =>
 if (x7 != 0) = true then
  some (0, 0, x7)
 else
  Option.bind (f67 F x4 0 (w64 (((List.length x1 : Nat) : Int) - 1))) fun x8 =>
  if x8 = true then
   Option.bind (f47_1m F x6) fun x9 =>
   req ((0 : Int) ≤ x4 ∧ (x4 : Int) < (((List.length x9) : Nat) : Int)) <|
   req ((0 + (Int.toNat x4)) < List.length x9) <|
   req ((0 + (List.length x9)) ≤ List.length (List.set x9 (0 + (Int.toNat x4)) 0)) <|
   Option.bind (f74 F x5 (List.drop 0 (List.take (0 + (List.length x9)) (List.set x9 (0 + (Int.toNat x4)) 0)))) fun x10 =>
   Option.bind (at? x6 x4) fun x11 =>
   Option.bind (f42_p4 F x3 x4 x10 x11 x5 x6 F 0 0 12 0) fun (x20, x21, x22) =>
   some (x20, x21, x22)
  else
   some (0, 0, 2)

def f79 (F : Nat) (x1 : Int) (x2 : List Int) : Option (Bool × (List Int)) :=
 req (List.length x2 + List.length ([x1] : List Int) ≤ 1099511627776) <|
 some (true, (x2 ++ ([x1] : List Int)))

inductive f78_p1_R where
 | c0 (a0 : List Int)
 | c1 (a0 : List Int)
def f78_p1 (F : Nat) (x4 : List Int) : Nat → Int → (List Int) → Option f78_p1_R
 | 0, _, _ => none
 | k + 1, x10, x9 =>
  if (decide (x10 < ((List.length x4 : Nat) : Int))) = true then
   Option.bind (at? x4 x10) fun x11 =>
   if (decide (x11 > 0)) = true then
    Option.bind (f79 F x10 x9) fun (x12, x13) =>
    if x12 = true then
     f78_p1 F x4 k (w64 (x10 + 1)) x13
    else
     some (.c0 x13)
   else
    f78_p1 F x4 k (w64 (x10 + 1)) x9
  else
   some (.c1 x9)
def f78 (F : Nat) (x1 x2 x3 : List Int) : Option (List Int) :=
 Option.bind (f74 F x1 x2) fun x4 =>
 Option.bind (f78_p1 F x4 F 0 x3) fun
 | .c0 x14 =>
  some x14
 | .c1 x15 =>
  some x15

def f38 (F : Nat) (x1 x2 : List Int) : Option ((List Int) × Int) :=
 Option.bind (f77 F x1 x2) fun (x3, x4, x5) =>
 if (x5 != 0) = true then
  some (([] : List Int), x5)
 else
  Option.bind (f78 F x3 x4 ([] : List Int)) fun x6 =>
  some ((List.drop 0 (List.take (0 + (List.length x6)) x6)), 0)

def f80_p0 (F : Nat) (x1 x2 : Int) (x3 x4 : Int) : Option (Int × Int) :=
 if (decide (x1 ≥ x2)) = true then
  some (0, x1)
 else
  some (x3, x4)
def f80 (F : Nat) (x1 x2 : Int) (x3 x4 : Int) : Option (Bool × Int × Int) :=
 Option.bind (f80_p0 F x1 x2 x3 x4) fun (x5, x6) =>
 some ((x5 != 0), x5, x6)

inductive f78_1_p1_R where
 | c0 (a0 : Int) (a1 : Int)
 | c1 (a0 : Int) (a1 : Int)
def f78_1_p1 (F : Nat) (x6 : List Int) (x3 : Int) : Nat → Int → Int → Int → Option f78_1_p1_R
 | 0, _, _, _ => none
 | k + 1, x12, x13, x14 =>
  if (decide (x12 < ((List.length x6 : Nat) : Int))) = true then
   Option.bind (at? x6 x12) fun x15 =>
   if (decide (x15 > 0)) = true then
    Option.bind (f80 F x12 x3 x13 x14) fun (x16, x17, x18) =>
    if x16 = true then
     f78_1_p1 F x6 x3 k (w64 (x12 + 1)) x17 x18
    else
     some (.c0 x17 x18)
   else
    f78_1_p1 F x6 x3 k (w64 (x12 + 1)) x13 x14
  else
   some (.c1 x13 x14)
def f78_1 (F : Nat) (x1 x2 : List Int) (x3 x4 x5 : Int) : Option (Int × Int) :=
 Option.bind (f74 F x1 x2) fun x6 =>
 Option.bind (f78_1_p1 F x6 x3 F 0 x4 x5) fun
 | .c0 x19 x20 =>
  some (x19, x20)
 | .c1 x21 x22 =>
  some (x21, x22)

def f40 (F : Nat) (x1 x2 : List Int) (x3 : Int) : Option (Int × Int) :=
 Option.bind (f73 F x1 x2 x3) fun (x4, x5, x6) =>
 if (x6 != 0) = true then
  some (0, x6)
 else
  Option.bind (f78_1 F x4 x5 x3 12 0) fun (x7, x8) =>
  some (x8, x7)

inductive f23_p2_R where
 | c0
 | c1
def f23_p2 (F : Nat) (x1 x2 : List Int) : Nat → Int → Option f23_p2_R
 | 0, _ => none
 | k + 1, x3 =>
  if (decide (x3 < ((List.length x1 : Nat) : Int))) = true then
   Option.bind (at? x1 x3) fun x4 =>
   Option.bind (at? x2 x3) fun x5 =>
   if (x4 != x5) = true then
    some .c0
   else
    f23_p2 F x1 x2 k (w64 (x3 + 1))
  else
   some .c1
def f23 (F : Nat) (x1 x2 : List Int) : Option Bool :=
 if (((List.length x1 : Nat) : Int) != ((List.length x2 : Nat) : Int)) = true then
  some false
 else
  Option.bind (f23_p2 F x1 x2 F 0) fun
  | .c0 =>
   some false
  | .c1 =>
   some true

def f16 (F : Nat) : Option Bool :=
 Option.bind (f52 F ([3, 5] : List Int)) fun x1 =>
 Option.bind (f28 F x1) fun (x2, x3) =>
 Option.bind (f52 F ([6, 10, 15] : List Int)) fun x4 =>
 Option.bind (f30 F x4) fun (x5, x6) =>
 Option.bind (f52 F ([6, 10, 15] : List Int)) fun x7 =>
 Option.bind (f24 F x7 0) fun (x8, x9) =>
 Option.bind (f52 F ([6, 10, 15] : List Int)) fun x10 =>
 Option.bind (f17 F x10 31) fun (x11, x12) =>
 Option.bind (f52 F ([6, 10, 15] : List Int)) fun x13 =>
 Option.bind (f21 F x13 29) fun (x14, x15, x16) =>
 Option.bind (f52 F ([1, 4, 6] : List Int)) fun x17 =>
 Option.bind (f19 F x17 8) fun (x18, x19) =>
 Option.bind (f52 F ([3, 5, 6, 8] : List Int)) fun x20 =>
 Option.bind (f34 F x20) fun (x21, x22) =>
 if (x3 != 0) = true then
  none
 else
 if (x6 != 0) = true then
  none
 else
 if (x9 != 0) = true then
  none
 else
 if (x12 != 0) = true then
  none
 else
 if (x16 != 0) = true then
  none
 else
 if (x19 != 0) = true then
  none
 else
 if (x22 != 0) = true then
  none
 else
  Option.bind (f52 F ([3, 4, 5] : List Int)) fun x23 =>
  Option.bind (f32 F x23) fun (x24, x25) =>
  Option.bind (f52 F ([2, 5] : List Int)) fun x26 =>
  Option.bind (f52 F ([3, 2] : List Int)) fun x27 =>
  Option.bind (f51 F x26 x27 11) fun (x28, x29) =>
  Option.bind (f52 F ([2, 5] : List Int)) fun x30 =>
  Option.bind (f52 F ([5, 2] : List Int)) fun x31 =>
  Option.bind (f36 F x30 x31 10) fun (x32, x33) =>
  Option.bind (f52 F ([2, 5] : List Int)) fun x34 =>
  Option.bind (f52 F ([5, 2] : List Int)) fun x35 =>
  Option.bind (f42 F x34 x35 10 0) fun (x36, x37, x38) =>
  Option.bind (f52 F ([2, 5] : List Int)) fun x39 =>
  Option.bind (f52 F ([1, 1] : List Int)) fun x40 =>
  Option.bind (f38 F x39 x40) fun (x41, x42) =>
  Option.bind (f52 F ([2, 5] : List Int)) fun x43 =>
  Option.bind (f52 F ([1, 1] : List Int)) fun x44 =>
  Option.bind (f40 F x43 x44 3) fun (x45, x46) =>
  Option.bind (f52 F ([2, 5] : List Int)) fun x47 =>
  Option.bind (f52 F ([3, 2] : List Int)) fun x48 =>
  Option.bind (f51 F x47 x48 13) fun (x49, x50) =>
  if (x25 == 0) = true then
   if (x29 == 0) = true then
    if (x33 == 0) = true then
     if (x38 == 0) = true then
      if (x42 == 0) = true then
       if (x46 == 0) = true then
        if (x50 == 12) = true then
         Option.bind (f52 F ([1, 2, 4, 7] : List Int)) fun x51 =>
         Option.bind (f23 F x2 x51) fun x52 =>
         if x52 = true then
          if (x5 == 29) = true then
           Option.bind (f52 F ([0, 25, 20, 15, 10, 35] : List Int)) fun x53 =>
           Option.bind (f23 F x8 x53) fun x54 =>
           if x54 = true then
            if x11 = true then
             if (x14 == 5) = true then
              if (x15 == 35) = true then
               Option.bind (f52 F ([0, 2, 0] : List Int)) fun x55 =>
               Option.bind (f23 F x18 x55) fun x56 =>
               if x56 = true then
                Option.bind (f52 F ([0, 1] : List Int)) fun x57 =>
                Option.bind (f23 F x21 x57) fun x58 =>
                if x58 = true then
                 if x24 = true then
                  none
                 else
                  Option.bind (f52 F ([3, 1] : List Int)) fun x59 =>
                  Option.bind (f23 F x28 x59) fun x60 =>
                  if x60 = true then
                   if (x32 == 2) = true then
                    if (x36 == 0) = true then
                     if (x37 == 5) = true then
                      Option.bind (f52 F ([0, 2, 5, 7] : List Int)) fun x61 =>
                      Option.bind (f23 F x41 x61) fun x62 =>
                      if x62 = true then
                       some (x45 == 5)
                      else
                       none
                     else
                      none
                    else
                     none
                   else
                    none
                  else
                   none
                else
                 none
               else
                none
              else
               none
             else
              none
            else
             none
           else
            none
          else
           none
         else
          none
        else
         none
       else
        none
      else
       none
     else
      none
    else
     none
   else
    none
  else
   none

def f69 (F : Nat) (x1 x2 x3 : Int) : Option Bool :=
 if (decide (x1 ≥ x2)) = true then
  some (decide (x1 ≤ x3))
 else
  some false

inductive f27_p3_R where
 | c0 (a0 : Int)
 | c1
def f27_p3 (F : Nat) (x1 : List Int) : Nat → Int → Option f27_p3_R
 | 0, _ => none
 | k + 1, x2 =>
  if (decide (x2 < ((List.length x1 : Nat) : Int))) = true then
   Option.bind (at? x1 x2) fun x3 =>
   Option.bind (f69 F x3 1 30) fun x4 =>
   if x4 = true then
    if (decide (x2 > 0)) = true then
     Option.bind (at? x1 (w64 (x2 - 1))) fun x5 =>
     if (decide (x3 ≤ x5)) = true then
      some (.c0 7)
     else
      f27_p3 F x1 k (w64 (x2 + 1))
    else
     f27_p3 F x1 k (w64 (x2 + 1))
   else
    some (.c0 1)
  else
   some .c1
def f27 (F : Nat) (x1 : List Int) : Option Int :=
 if (((List.length x1 : Nat) : Int) == 0) = true then
  some 4
 else
 if (decide (((List.length x1 : Nat) : Int) > 5)) = true then
  some 3
 else
  Option.bind (f27_p3 F x1 F 0) fun
  | .c0 x6 =>
   some x6
  | .c1 =>
   some 0

def f62_p0 (F : Nat) (x1 : Int) (x3 : Bool) : Option Int :=
 if x3 = true then
  some x1
 else
  some 1
def f62 (F : Nat) (x1 x2 : Int) : Option Int :=
 if (x1 == 0) = true then
  Option.bind (f69 F x2 0 1000) fun x3 =>
  Option.bind (f62_p0 F x1 x3) fun x4 =>
  some x4
 else
  some x1

def f88_p5 (F : Nat) (x1 x2 : List Int) (x3 : Int) : Nat → Int → (List Int) → Option (List Int)
 | 0, _, _ => none
 | k + 1, x6, x5 =>
  if (decide (x6 ≤ x3)) = true then
   req ((0 : Int) ≤ ((List.length x1 : Nat) : Int) ∧ (((List.length x1 : Nat) : Int) : Int) < ((2 : Nat) : Int) ∧ 0 + (0 + Int.toNat ((List.length x1 : Nat) : Int)) = 1 + 0) <|
   req ((0 : Int) ≤ x6 ∧ (x6 : Int) < (((Int.toNat (w64 (x3 + 1))) : Nat) : Int)) <|
   req ((0 + (Int.toNat x6)) < List.length x5) <|
   f88_p5 F x1 x2 x3 k (w64 (x6 + 1)) (List.set x5 (0 + (Int.toNat x6)) 1048576)
  else
   some x5
def f88_p17_1 (F : Nat) (x1 x2 : List Int) (x3 x16 : Int) (x15 x7 : List Int) : Nat → Int → Int → Option Int
 | 0, _, _ => none
 | k + 1, x17, x18 =>
  Option.bind (at? x2 (w64 (((List.length x1 : Nat) : Int) - 1))) fun x19 =>
  if (decide (x18 ≤ x19)) = true then
   Option.bind (at? x1 (w64 (((List.length x1 : Nat) : Int) - 1))) fun x20 =>
   if (decide ((w64 (x18 * x20)) ≤ x16)) = true then
    req ((0 : Int) ≤ (w64 ((w64 (((List.length x1 : Nat) : Int) - 1)) + 1)) ∧ ((w64 ((w64 (((List.length x1 : Nat) : Int) - 1)) + 1)) : Int) < ((2 : Nat) : Int) ∧ 0 + (0 + Int.toNat (w64 ((w64 (((List.length x1 : Nat) : Int) - 1)) + 1))) = 1 + 0) <|
    req ((0 : Int) ≤ (w64 (x16 - (w64 (x18 * x20)))) ∧ ((w64 (x16 - (w64 (x18 * x20)))) : Int) < (((Int.toNat (w64 (x3 + 1))) : Nat) : Int)) <|
    Option.bind ((x7)[(0 + (Int.toNat (w64 (x16 - (w64 (x18 * x20))))))]?) fun x21 =>
    f88_p17_1 F x1 x2 x3 x16 x15 x7 k (if (w64 (x18 + x21)) < x17 then (w64 (x18 + x21)) else x17) (w64 (x18 + 1))
   else
    some x17
  else
   some x17
def f88_p13 (F : Nat) (x1 x2 : List Int) (x3 : Int) (x7 : List Int) : Nat → Int → (List Int) → Option (List Int)
 | 0, _, _ => none
 | k + 1, x16, x15 =>
  if (decide (x16 ≤ x3)) = true then
   Option.bind (f88_p17_1 F x1 x2 x3 x16 x15 x7 F 1048576 0) fun x22 =>
   req ((0 : Int) ≤ (w64 (((List.length x1 : Nat) : Int) - 1)) ∧ ((w64 (((List.length x1 : Nat) : Int) - 1)) : Int) < ((2 : Nat) : Int) ∧ 0 + (0 + Int.toNat (w64 (((List.length x1 : Nat) : Int) - 1))) = 0 + 0) <|
   req ((0 : Int) ≤ x16 ∧ (x16 : Int) < (((Int.toNat (w64 (x3 + 1))) : Nat) : Int)) <|
   req ((0 + (Int.toNat x16)) < List.length x15) <|
   f88_p13 F x1 x2 x3 x7 k (w64 (x16 + 1)) (List.set x15 (0 + (Int.toNat x16)) x22)
  else
   some x15
def f88_p5_1 (F : Nat) (x1 x2 : List Int) (x3 : Int) : Nat → Int → (List Int) → Option (List Int)
 | 0, _, _ => none
 | k + 1, x26, x25 =>
  if (decide (x26 ≤ x3)) = true then
   req ((0 : Int) ≤ ((List.length x1 : Nat) : Int) ∧ (((List.length x1 : Nat) : Int) : Int) < ((3 : Nat) : Int) ∧ 0 + (0 + Int.toNat ((List.length x1 : Nat) : Int)) = 2 + 0) <|
   req ((0 : Int) ≤ x26 ∧ (x26 : Int) < (((Int.toNat (w64 (x3 + 1))) : Nat) : Int)) <|
   req ((0 + (Int.toNat x26)) < List.length x25) <|
   f88_p5_1 F x1 x2 x3 k (w64 (x26 + 1)) (List.set x25 (0 + (Int.toNat x26)) 1048576)
  else
   some x25
def f88_p17_3 (F : Nat) (x1 x2 : List Int) (x3 x36 : Int) (x35 x27 : List Int) : Nat → Int → Int → Option Int
 | 0, _, _ => none
 | k + 1, x37, x38 =>
  Option.bind (at? x2 (w64 (((List.length x1 : Nat) : Int) - 1))) fun x39 =>
  if (decide (x38 ≤ x39)) = true then
   Option.bind (at? x1 (w64 (((List.length x1 : Nat) : Int) - 1))) fun x40 =>
   if (decide ((w64 (x38 * x40)) ≤ x36)) = true then
    req ((0 : Int) ≤ (w64 ((w64 (((List.length x1 : Nat) : Int) - 1)) + 1)) ∧ ((w64 ((w64 (((List.length x1 : Nat) : Int) - 1)) + 1)) : Int) < ((3 : Nat) : Int) ∧ 0 + (0 + Int.toNat (w64 ((w64 (((List.length x1 : Nat) : Int) - 1)) + 1))) = 2 + 0) <|
    req ((0 : Int) ≤ (w64 (x36 - (w64 (x38 * x40)))) ∧ ((w64 (x36 - (w64 (x38 * x40)))) : Int) < (((Int.toNat (w64 (x3 + 1))) : Nat) : Int)) <|
    Option.bind ((x27)[(0 + (Int.toNat (w64 (x36 - (w64 (x38 * x40))))))]?) fun x41 =>
    f88_p17_3 F x1 x2 x3 x36 x35 x27 k (if (w64 (x38 + x41)) < x37 then (w64 (x38 + x41)) else x37) (w64 (x38 + 1))
   else
    some x37
  else
   some x37
def f88_p13_1 (F : Nat) (x1 x2 : List Int) (x3 : Int) (x27 : List Int) : Nat → Int → (List Int) → Option (List Int)
 | 0, _, _ => none
 | k + 1, x36, x35 =>
  if (decide (x36 ≤ x3)) = true then
   Option.bind (f88_p17_3 F x1 x2 x3 x36 x35 x27 F 1048576 0) fun x42 =>
   req ((0 : Int) ≤ (w64 (((List.length x1 : Nat) : Int) - 1)) ∧ ((w64 (((List.length x1 : Nat) : Int) - 1)) : Int) < ((3 : Nat) : Int) ∧ 0 + (0 + Int.toNat (w64 (((List.length x1 : Nat) : Int) - 1))) = 1 + 0) <|
   req ((0 : Int) ≤ x36 ∧ (x36 : Int) < (((Int.toNat (w64 (x3 + 1))) : Nat) : Int)) <|
   req ((0 + (Int.toNat x36)) < List.length x35) <|
   f88_p13_1 F x1 x2 x3 x27 k (w64 (x36 + 1)) (List.set x35 (0 + (Int.toNat x36)) x42)
  else
   some x35
def f88_p17_5 (F : Nat) (x1 x2 : List Int) (x3 x52 : Int) (x51 x43 x27 : List Int) : Nat → Int → Int → Option Int
 | 0, _, _ => none
 | k + 1, x53, x54 =>
  Option.bind (at? x2 (w64 ((w64 (((List.length x1 : Nat) : Int) - 1)) - 1))) fun x55 =>
  if (decide (x54 ≤ x55)) = true then
   Option.bind (at? x1 (w64 ((w64 (((List.length x1 : Nat) : Int) - 1)) - 1))) fun x56 =>
   if (decide ((w64 (x54 * x56)) ≤ x52)) = true then
    req ((0 : Int) ≤ (w64 ((w64 ((w64 (((List.length x1 : Nat) : Int) - 1)) - 1)) + 1)) ∧ ((w64 ((w64 ((w64 (((List.length x1 : Nat) : Int) - 1)) - 1)) + 1)) : Int) < ((3 : Nat) : Int) ∧ 0 + (0 + Int.toNat (w64 ((w64 ((w64 (((List.length x1 : Nat) : Int) - 1)) - 1)) + 1))) = 1 + 0) <|
    req ((0 : Int) ≤ (w64 (x52 - (w64 (x54 * x56)))) ∧ ((w64 (x52 - (w64 (x54 * x56)))) : Int) < (((Int.toNat (w64 (x3 + 1))) : Nat) : Int)) <|
    Option.bind ((x43)[(0 + (Int.toNat (w64 (x52 - (w64 (x54 * x56))))))]?) fun x57 =>
    f88_p17_5 F x1 x2 x3 x52 x51 x43 x27 k (if (w64 (x54 + x57)) < x53 then (w64 (x54 + x57)) else x53) (w64 (x54 + 1))
   else
    some x53
  else
   some x53
def f88_p13_2 (F : Nat) (x1 x2 : List Int) (x3 : Int) (x43 x27 : List Int) : Nat → Int → (List Int) → Option (List Int)
 | 0, _, _ => none
 | k + 1, x52, x51 =>
  if (decide (x52 ≤ x3)) = true then
   Option.bind (f88_p17_5 F x1 x2 x3 x52 x51 x43 x27 F 1048576 0) fun x58 =>
   req ((0 : Int) ≤ (w64 ((w64 (((List.length x1 : Nat) : Int) - 1)) - 1)) ∧ ((w64 ((w64 (((List.length x1 : Nat) : Int) - 1)) - 1)) : Int) < ((3 : Nat) : Int) ∧ 0 + (0 + Int.toNat (w64 ((w64 (((List.length x1 : Nat) : Int) - 1)) - 1))) = 0 + 0) <|
   req ((0 : Int) ≤ x52 ∧ (x52 : Int) < (((Int.toNat (w64 (x3 + 1))) : Nat) : Int)) <|
   req ((0 + (Int.toNat x52)) < List.length x51) <|
   f88_p13_2 F x1 x2 x3 x43 x27 k (w64 (x52 + 1)) (List.set x51 (0 + (Int.toNat x52)) x58)
  else
   some x51
def f88_p5_2 (F : Nat) (x1 x2 : List Int) (x3 : Int) : Nat → Int → (List Int) → Option (List Int)
 | 0, _, _ => none
 | k + 1, x62, x61 =>
  if (decide (x62 ≤ x3)) = true then
   req ((0 : Int) ≤ ((List.length x1 : Nat) : Int) ∧ (((List.length x1 : Nat) : Int) : Int) < ((4 : Nat) : Int) ∧ 0 + (0 + Int.toNat ((List.length x1 : Nat) : Int)) = 3 + 0) <|
   req ((0 : Int) ≤ x62 ∧ (x62 : Int) < (((Int.toNat (w64 (x3 + 1))) : Nat) : Int)) <|
   req ((0 + (Int.toNat x62)) < List.length x61) <|
   f88_p5_2 F x1 x2 x3 k (w64 (x62 + 1)) (List.set x61 (0 + (Int.toNat x62)) 1048576)
  else
   some x61
def f88_p17_7 (F : Nat) (x1 x2 : List Int) (x3 x72 : Int) (x71 x63 : List Int) : Nat → Int → Int → Option Int
 | 0, _, _ => none
 | k + 1, x73, x74 =>
  Option.bind (at? x2 (w64 (((List.length x1 : Nat) : Int) - 1))) fun x75 =>
  if (decide (x74 ≤ x75)) = true then
   Option.bind (at? x1 (w64 (((List.length x1 : Nat) : Int) - 1))) fun x76 =>
   if (decide ((w64 (x74 * x76)) ≤ x72)) = true then
    req ((0 : Int) ≤ (w64 ((w64 (((List.length x1 : Nat) : Int) - 1)) + 1)) ∧ ((w64 ((w64 (((List.length x1 : Nat) : Int) - 1)) + 1)) : Int) < ((4 : Nat) : Int) ∧ 0 + (0 + Int.toNat (w64 ((w64 (((List.length x1 : Nat) : Int) - 1)) + 1))) = 3 + 0) <|
    req ((0 : Int) ≤ (w64 (x72 - (w64 (x74 * x76)))) ∧ ((w64 (x72 - (w64 (x74 * x76)))) : Int) < (((Int.toNat (w64 (x3 + 1))) : Nat) : Int)) <|
    Option.bind ((x63)[(0 + (Int.toNat (w64 (x72 - (w64 (x74 * x76))))))]?) fun x77 =>
    f88_p17_7 F x1 x2 x3 x72 x71 x63 k (if (w64 (x74 + x77)) < x73 then (w64 (x74 + x77)) else x73) (w64 (x74 + 1))
   else
    some x73
  else
   some x73
def f88_p13_3 (F : Nat) (x1 x2 : List Int) (x3 : Int) (x63 : List Int) : Nat → Int → (List Int) → Option (List Int)
 | 0, _, _ => none
 | k + 1, x72, x71 =>
  if (decide (x72 ≤ x3)) = true then
   Option.bind (f88_p17_7 F x1 x2 x3 x72 x71 x63 F 1048576 0) fun x78 =>
   req ((0 : Int) ≤ (w64 (((List.length x1 : Nat) : Int) - 1)) ∧ ((w64 (((List.length x1 : Nat) : Int) - 1)) : Int) < ((4 : Nat) : Int) ∧ 0 + (0 + Int.toNat (w64 (((List.length x1 : Nat) : Int) - 1))) = 2 + 0) <|
   req ((0 : Int) ≤ x72 ∧ (x72 : Int) < (((Int.toNat (w64 (x3 + 1))) : Nat) : Int)) <|
   req ((0 + (Int.toNat x72)) < List.length x71) <|
   f88_p13_3 F x1 x2 x3 x63 k (w64 (x72 + 1)) (List.set x71 (0 + (Int.toNat x72)) x78)
  else
   some x71
def f88_p17_9 (F : Nat) (x1 x2 : List Int) (x3 x88 : Int) (x87 x79 x63 : List Int) : Nat → Int → Int → Option Int
 | 0, _, _ => none
 | k + 1, x89, x90 =>
  Option.bind (at? x2 (w64 ((w64 (((List.length x1 : Nat) : Int) - 1)) - 1))) fun x91 =>
  if (decide (x90 ≤ x91)) = true then
   Option.bind (at? x1 (w64 ((w64 (((List.length x1 : Nat) : Int) - 1)) - 1))) fun x92 =>
   if (decide ((w64 (x90 * x92)) ≤ x88)) = true then
    req ((0 : Int) ≤ (w64 ((w64 ((w64 (((List.length x1 : Nat) : Int) - 1)) - 1)) + 1)) ∧ ((w64 ((w64 ((w64 (((List.length x1 : Nat) : Int) - 1)) - 1)) + 1)) : Int) < ((4 : Nat) : Int) ∧ 0 + (0 + Int.toNat (w64 ((w64 ((w64 (((List.length x1 : Nat) : Int) - 1)) - 1)) + 1))) = 2 + 0) <|
    req ((0 : Int) ≤ (w64 (x88 - (w64 (x90 * x92)))) ∧ ((w64 (x88 - (w64 (x90 * x92)))) : Int) < (((Int.toNat (w64 (x3 + 1))) : Nat) : Int)) <|
    Option.bind ((x79)[(0 + (Int.toNat (w64 (x88 - (w64 (x90 * x92))))))]?) fun x93 =>
    f88_p17_9 F x1 x2 x3 x88 x87 x79 x63 k (if (w64 (x90 + x93)) < x89 then (w64 (x90 + x93)) else x89) (w64 (x90 + 1))
   else
    some x89
  else
   some x89
def f88_p13_4 (F : Nat) (x1 x2 : List Int) (x3 : Int) (x79 x63 : List Int) : Nat → Int → (List Int) → Option (List Int)
 | 0, _, _ => none
 | k + 1, x88, x87 =>
  if (decide (x88 ≤ x3)) = true then
   Option.bind (f88_p17_9 F x1 x2 x3 x88 x87 x79 x63 F 1048576 0) fun x94 =>
   req ((0 : Int) ≤ (w64 ((w64 (((List.length x1 : Nat) : Int) - 1)) - 1)) ∧ ((w64 ((w64 (((List.length x1 : Nat) : Int) - 1)) - 1)) : Int) < ((4 : Nat) : Int) ∧ 0 + (0 + Int.toNat (w64 ((w64 (((List.length x1 : Nat) : Int) - 1)) - 1))) = 1 + 0) <|
   req ((0 : Int) ≤ x88 ∧ (x88 : Int) < (((Int.toNat (w64 (x3 + 1))) : Nat) : Int)) <|
   req ((0 + (Int.toNat x88)) < List.length x87) <|
   f88_p13_4 F x1 x2 x3 x79 x63 k (w64 (x88 + 1)) (List.set x87 (0 + (Int.toNat x88)) x94)
  else
   some x87
def f88_p17_11 (F : Nat) (x1 x2 : List Int) (x3 x104 : Int) (x103 x95 : List Int) (x79 x63 : List Int) : Nat → Int → Int → Option Int
 | 0, _, _ => none
 | k + 1, x105, x106 =>
  Option.bind (at? x2 (w64 ((w64 ((w64 (((List.length x1 : Nat) : Int) - 1)) - 1)) - 1))) fun x107 =>
  if (decide (x106 ≤ x107)) = true then
   Option.bind (at? x1 (w64 ((w64 ((w64 (((List.length x1 : Nat) : Int) - 1)) - 1)) - 1))) fun x108 =>
   if (decide ((w64 (x106 * x108)) ≤ x104)) = true then
    req ((0 : Int) ≤ (w64 ((w64 ((w64 ((w64 (((List.length x1 : Nat) : Int) - 1)) - 1)) - 1)) + 1)) ∧ ((w64 ((w64 ((w64 ((w64 (((List.length x1 : Nat) : Int) - 1)) - 1)) - 1)) + 1)) : Int) < ((4 : Nat) : Int) ∧ 0 + (0 + Int.toNat (w64 ((w64 ((w64 ((w64 (((List.length x1 : Nat) : Int) - 1)) - 1)) - 1)) + 1))) = 1 + 0) <|
    req ((0 : Int) ≤ (w64 (x104 - (w64 (x106 * x108)))) ∧ ((w64 (x104 - (w64 (x106 * x108)))) : Int) < (((Int.toNat (w64 (x3 + 1))) : Nat) : Int)) <|
    Option.bind ((x95)[(0 + (Int.toNat (w64 (x104 - (w64 (x106 * x108))))))]?) fun x109 =>
    f88_p17_11 F x1 x2 x3 x104 x103 x95 x79 x63 k (if (w64 (x106 + x109)) < x105 then (w64 (x106 + x109)) else x105) (w64 (x106 + 1))
   else
    some x105
  else
   some x105
def f88_p13_5 (F : Nat) (x1 x2 : List Int) (x3 : Int) (x95 x79 x63 : List Int) : Nat → Int → (List Int) → Option (List Int)
 | 0, _, _ => none
 | k + 1, x104, x103 =>
  if (decide (x104 ≤ x3)) = true then
   Option.bind (f88_p17_11 F x1 x2 x3 x104 x103 x95 x79 x63 F 1048576 0) fun x110 =>
   req ((0 : Int) ≤ (w64 ((w64 ((w64 (((List.length x1 : Nat) : Int) - 1)) - 1)) - 1)) ∧ ((w64 ((w64 ((w64 (((List.length x1 : Nat) : Int) - 1)) - 1)) - 1)) : Int) < ((4 : Nat) : Int) ∧ 0 + (0 + Int.toNat (w64 ((w64 ((w64 (((List.length x1 : Nat) : Int) - 1)) - 1)) - 1))) = 0 + 0) <|
   req ((0 : Int) ≤ x104 ∧ (x104 : Int) < (((Int.toNat (w64 (x3 + 1))) : Nat) : Int)) <|
   req ((0 + (Int.toNat x104)) < List.length x103) <|
   f88_p13_5 F x1 x2 x3 x95 x79 x63 k (w64 (x104 + 1)) (List.set x103 (0 + (Int.toNat x104)) x110)
  else
   some x103
def f88_p5_3 (F : Nat) (x1 x2 : List Int) (x3 : Int) : Nat → Int → (List Int) → Option (List Int)
 | 0, _, _ => none
 | k + 1, x114, x113 =>
  if (decide (x114 ≤ x3)) = true then
   req ((0 : Int) ≤ ((List.length x1 : Nat) : Int) ∧ (((List.length x1 : Nat) : Int) : Int) < ((5 : Nat) : Int) ∧ 0 + (0 + Int.toNat ((List.length x1 : Nat) : Int)) = 4 + 0) <|
   req ((0 : Int) ≤ x114 ∧ (x114 : Int) < (((Int.toNat (w64 (x3 + 1))) : Nat) : Int)) <|
   req ((0 + (Int.toNat x114)) < List.length x113) <|
   f88_p5_3 F x1 x2 x3 k (w64 (x114 + 1)) (List.set x113 (0 + (Int.toNat x114)) 1048576)
  else
   some x113
def f88_p17_13 (F : Nat) (x1 x2 : List Int) (x3 x124 : Int) (x123 x115 : List Int) : Nat → Int → Int → Option Int
 | 0, _, _ => none
 | k + 1, x125, x126 =>
  Option.bind (at? x2 (w64 (((List.length x1 : Nat) : Int) - 1))) fun x127 =>
  if (decide (x126 ≤ x127)) = true then
   Option.bind (at? x1 (w64 (((List.length x1 : Nat) : Int) - 1))) fun x128 =>
   if (decide ((w64 (x126 * x128)) ≤ x124)) = true then
    req ((0 : Int) ≤ (w64 ((w64 (((List.length x1 : Nat) : Int) - 1)) + 1)) ∧ ((w64 ((w64 (((List.length x1 : Nat) : Int) - 1)) + 1)) : Int) < ((5 : Nat) : Int) ∧ 0 + (0 + Int.toNat (w64 ((w64 (((List.length x1 : Nat) : Int) - 1)) + 1))) = 4 + 0) <|
    req ((0 : Int) ≤ (w64 (x124 - (w64 (x126 * x128)))) ∧ ((w64 (x124 - (w64 (x126 * x128)))) : Int) < (((Int.toNat (w64 (x3 + 1))) : Nat) : Int)) <|
    Option.bind ((x115)[(0 + (Int.toNat (w64 (x124 - (w64 (x126 * x128))))))]?) fun x129 =>
    f88_p17_13 F x1 x2 x3 x124 x123 x115 k (if (w64 (x126 + x129)) < x125 then (w64 (x126 + x129)) else x125) (w64 (x126 + 1))
   else
    some x125
  else
   some x125
def f88_p13_6 (F : Nat) (x1 x2 : List Int) (x3 : Int) (x115 : List Int) : Nat → Int → (List Int) → Option (List Int)
 | 0, _, _ => none
 | k + 1, x124, x123 =>
  if (decide (x124 ≤ x3)) = true then
   Option.bind (f88_p17_13 F x1 x2 x3 x124 x123 x115 F 1048576 0) fun x130 =>
   req ((0 : Int) ≤ (w64 (((List.length x1 : Nat) : Int) - 1)) ∧ ((w64 (((List.length x1 : Nat) : Int) - 1)) : Int) < ((5 : Nat) : Int) ∧ 0 + (0 + Int.toNat (w64 (((List.length x1 : Nat) : Int) - 1))) = 3 + 0) <|
   req ((0 : Int) ≤ x124 ∧ (x124 : Int) < (((Int.toNat (w64 (x3 + 1))) : Nat) : Int)) <|
   req ((0 + (Int.toNat x124)) < List.length x123) <|
   f88_p13_6 F x1 x2 x3 x115 k (w64 (x124 + 1)) (List.set x123 (0 + (Int.toNat x124)) x130)
  else
   some x123
def f88_p17_15 (F : Nat) (x1 x2 : List Int) (x3 x140 : Int) (x139 x131 x115 : List Int) : Nat → Int → Int → Option Int
 | 0, _, _ => none
 | k + 1, x141, x142 =>
  Option.bind (at? x2 (w64 ((w64 (((List.length x1 : Nat) : Int) - 1)) - 1))) fun x143 =>
  if (decide (x142 ≤ x143)) = true then
   Option.bind (at? x1 (w64 ((w64 (((List.length x1 : Nat) : Int) - 1)) - 1))) fun x144 =>
   if (decide ((w64 (x142 * x144)) ≤ x140)) = true then
    req ((0 : Int) ≤ (w64 ((w64 ((w64 (((List.length x1 : Nat) : Int) - 1)) - 1)) + 1)) ∧ ((w64 ((w64 ((w64 (((List.length x1 : Nat) : Int) - 1)) - 1)) + 1)) : Int) < ((5 : Nat) : Int) ∧ 0 + (0 + Int.toNat (w64 ((w64 ((w64 (((List.length x1 : Nat) : Int) - 1)) - 1)) + 1))) = 3 + 0) <|
    req ((0 : Int) ≤ (w64 (x140 - (w64 (x142 * x144)))) ∧ ((w64 (x140 - (w64 (x142 * x144)))) : Int) < (((Int.toNat (w64 (x3 + 1))) : Nat) : Int)) <|
    Option.bind ((x131)[(0 + (Int.toNat (w64 (x140 - (w64 (x142 * x144))))))]?) fun x145 =>
    f88_p17_15 F x1 x2 x3 x140 x139 x131 x115 k (if (w64 (x142 + x145)) < x141 then (w64 (x142 + x145)) else x141) (w64 (x142 + 1))
   else
    some x141
  else
   some x141
def f88_p13_7 (F : Nat) (x1 x2 : List Int) (x3 : Int) (x131 x115 : List Int) : Nat → Int → (List Int) → Option (List Int)
 | 0, _, _ => none
 | k + 1, x140, x139 =>
  if (decide (x140 ≤ x3)) = true then
   Option.bind (f88_p17_15 F x1 x2 x3 x140 x139 x131 x115 F 1048576 0) fun x146 =>
   req ((0 : Int) ≤ (w64 ((w64 (((List.length x1 : Nat) : Int) - 1)) - 1)) ∧ ((w64 ((w64 (((List.length x1 : Nat) : Int) - 1)) - 1)) : Int) < ((5 : Nat) : Int) ∧ 0 + (0 + Int.toNat (w64 ((w64 (((List.length x1 : Nat) : Int) - 1)) - 1))) = 2 + 0) <|
   req ((0 : Int) ≤ x140 ∧ (x140 : Int) < (((Int.toNat (w64 (x3 + 1))) : Nat) : Int)) <|
   req ((0 + (Int.toNat x140)) < List.length x139) <|
   f88_p13_7 F x1 x2 x3 x131 x115 k (w64 (x140 + 1)) (List.set x139 (0 + (Int.toNat x140)) x146)
  else
   some x139
def f88_p17_17 (F : Nat) (x1 x2 : List Int) (x3 x156 : Int) (x155 x147 : List Int) (x131 x115 : List Int) : Nat → Int → Int → Option Int
 | 0, _, _ => none
 | k + 1, x157, x158 =>
  Option.bind (at? x2 (w64 ((w64 ((w64 (((List.length x1 : Nat) : Int) - 1)) - 1)) - 1))) fun x159 =>
  if (decide (x158 ≤ x159)) = true then
   Option.bind (at? x1 (w64 ((w64 ((w64 (((List.length x1 : Nat) : Int) - 1)) - 1)) - 1))) fun x160 =>
   if (decide ((w64 (x158 * x160)) ≤ x156)) = true then
    req ((0 : Int) ≤ (w64 ((w64 ((w64 ((w64 (((List.length x1 : Nat) : Int) - 1)) - 1)) - 1)) + 1)) ∧ ((w64 ((w64 ((w64 ((w64 (((List.length x1 : Nat) : Int) - 1)) - 1)) - 1)) + 1)) : Int) < ((5 : Nat) : Int) ∧ 0 + (0 + Int.toNat (w64 ((w64 ((w64 ((w64 (((List.length x1 : Nat) : Int) - 1)) - 1)) - 1)) + 1))) = 2 + 0) <|
    req ((0 : Int) ≤ (w64 (x156 - (w64 (x158 * x160)))) ∧ ((w64 (x156 - (w64 (x158 * x160)))) : Int) < (((Int.toNat (w64 (x3 + 1))) : Nat) : Int)) <|
    Option.bind ((x147)[(0 + (Int.toNat (w64 (x156 - (w64 (x158 * x160))))))]?) fun x161 =>
    f88_p17_17 F x1 x2 x3 x156 x155 x147 x131 x115 k (if (w64 (x158 + x161)) < x157 then (w64 (x158 + x161)) else x157) (w64 (x158 + 1))
   else
    some x157
  else
   some x157
def f88_p13_8 (F : Nat) (x1 x2 : List Int) (x3 : Int) (x147 x131 x115 : List Int) : Nat → Int → (List Int) → Option (List Int)
 | 0, _, _ => none
 | k + 1, x156, x155 =>
  if (decide (x156 ≤ x3)) = true then
   Option.bind (f88_p17_17 F x1 x2 x3 x156 x155 x147 x131 x115 F 1048576 0) fun x162 =>
   req ((0 : Int) ≤ (w64 ((w64 ((w64 (((List.length x1 : Nat) : Int) - 1)) - 1)) - 1)) ∧ ((w64 ((w64 ((w64 (((List.length x1 : Nat) : Int) - 1)) - 1)) - 1)) : Int) < ((5 : Nat) : Int) ∧ 0 + (0 + Int.toNat (w64 ((w64 ((w64 (((List.length x1 : Nat) : Int) - 1)) - 1)) - 1))) = 1 + 0) <|
   req ((0 : Int) ≤ x156 ∧ (x156 : Int) < (((Int.toNat (w64 (x3 + 1))) : Nat) : Int)) <|
   req ((0 + (Int.toNat x156)) < List.length x155) <|
   f88_p13_8 F x1 x2 x3 x147 x131 x115 k (w64 (x156 + 1)) (List.set x155 (0 + (Int.toNat x156)) x162)
  else
   some x155
def f88_p17_19 (F : Nat) (x1 x2 : List Int) (x3 x172 : Int) (x171 x163 : List Int) (x147 x131 x115 : List Int) : Nat → Int → Int → Option Int
 | 0, _, _ => none
 | k + 1, x173, x174 =>
  Option.bind (at? x2 (w64 ((w64 ((w64 ((w64 (((List.length x1 : Nat) : Int) - 1)) - 1)) - 1)) - 1))) fun x175 =>
  if (decide (x174 ≤ x175)) = true then
   Option.bind (at? x1 (w64 ((w64 ((w64 ((w64 (((List.length x1 : Nat) : Int) - 1)) - 1)) - 1)) - 1))) fun x176 =>
   if (decide ((w64 (x174 * x176)) ≤ x172)) = true then
    req ((0 : Int) ≤ (w64 ((w64 ((w64 ((w64 ((w64 (((List.length x1 : Nat) : Int) - 1)) - 1)) - 1)) - 1)) + 1)) ∧ ((w64 ((w64 ((w64 ((w64 ((w64 (((List.length x1 : Nat) : Int) - 1)) - 1)) - 1)) - 1)) + 1)) : Int) < ((5 : Nat) : Int) ∧ 0 + (0 + Int.toNat (w64 ((w64 ((w64 ((w64 ((w64 (((List.length x1 : Nat) : Int) - 1)) - 1)) - 1)) - 1)) + 1))) = 1 + 0) <|
    req ((0 : Int) ≤ (w64 (x172 - (w64 (x174 * x176)))) ∧ ((w64 (x172 - (w64 (x174 * x176)))) : Int) < (((Int.toNat (w64 (x3 + 1))) : Nat) : Int)) <|
    Option.bind ((x163)[(0 + (Int.toNat (w64 (x172 - (w64 (x174 * x176))))))]?) fun x177 =>
    f88_p17_19 F x1 x2 x3 x172 x171 x163 x147 x131 x115 k (if (w64 (x174 + x177)) < x173 then (w64 (x174 + x177)) else x173) (w64 (x174 + 1))
   else
    some x173
  else
   some x173
def f88_p13_9 (F : Nat) (x1 x2 : List Int) (x3 : Int) (x163 x147 : List Int) (x131 x115 : List Int) : Nat → Int → (List Int) → Option (List Int)
 | 0, _, _ => none
 | k + 1, x172, x171 =>
  if (decide (x172 ≤ x3)) = true then
   Option.bind (f88_p17_19 F x1 x2 x3 x172 x171 x163 x147 x131 x115 F 1048576 0) fun x178 =>
   req ((0 : Int) ≤ (w64 ((w64 ((w64 ((w64 (((List.length x1 : Nat) : Int) - 1)) - 1)) - 1)) - 1)) ∧ ((w64 ((w64 ((w64 ((w64 (((List.length x1 : Nat) : Int) - 1)) - 1)) - 1)) - 1)) : Int) < ((5 : Nat) : Int) ∧ 0 + (0 + Int.toNat (w64 ((w64 ((w64 ((w64 (((List.length x1 : Nat) : Int) - 1)) - 1)) - 1)) - 1))) = 0 + 0) <|
   req ((0 : Int) ≤ x172 ∧ (x172 : Int) < (((Int.toNat (w64 (x3 + 1))) : Nat) : Int)) <|
   req ((0 + (Int.toNat x172)) < List.length x171) <|
   f88_p13_9 F x1 x2 x3 x163 x147 x131 x115 k (w64 (x172 + 1)) (List.set x171 (0 + (Int.toNat x172)) x178)
  else
   some x171
def f88_p5_4 (F : Nat) (x1 x2 : List Int) (x3 : Int) : Nat → Int → (List Int) → Option (List Int)
 | 0, _, _ => none
 | k + 1, x182, x181 =>
  if (decide (x182 ≤ x3)) = true then
   req ((0 : Int) ≤ ((List.length x1 : Nat) : Int) ∧ (((List.length x1 : Nat) : Int) : Int) < ((6 : Nat) : Int) ∧ 0 + (0 + Int.toNat ((List.length x1 : Nat) : Int)) = 5 + 0) <|
   req ((0 : Int) ≤ x182 ∧ (x182 : Int) < (((Int.toNat (w64 (x3 + 1))) : Nat) : Int)) <|
   req ((0 + (Int.toNat x182)) < List.length x181) <|
   f88_p5_4 F x1 x2 x3 k (w64 (x182 + 1)) (List.set x181 (0 + (Int.toNat x182)) 1048576)
  else
   some x181
def f88_p17_21 (F : Nat) (x1 x2 : List Int) (x3 x192 : Int) (x191 x183 : List Int) : Nat → Int → Int → Option Int
 | 0, _, _ => none
 | k + 1, x193, x194 =>
  Option.bind (at? x2 (w64 (((List.length x1 : Nat) : Int) - 1))) fun x195 =>
  if (decide (x194 ≤ x195)) = true then
   Option.bind (at? x1 (w64 (((List.length x1 : Nat) : Int) - 1))) fun x196 =>
   if (decide ((w64 (x194 * x196)) ≤ x192)) = true then
    req ((0 : Int) ≤ (w64 ((w64 (((List.length x1 : Nat) : Int) - 1)) + 1)) ∧ ((w64 ((w64 (((List.length x1 : Nat) : Int) - 1)) + 1)) : Int) < ((6 : Nat) : Int) ∧ 0 + (0 + Int.toNat (w64 ((w64 (((List.length x1 : Nat) : Int) - 1)) + 1))) = 5 + 0) <|
    req ((0 : Int) ≤ (w64 (x192 - (w64 (x194 * x196)))) ∧ ((w64 (x192 - (w64 (x194 * x196)))) : Int) < (((Int.toNat (w64 (x3 + 1))) : Nat) : Int)) <|
    Option.bind ((x183)[(0 + (Int.toNat (w64 (x192 - (w64 (x194 * x196))))))]?) fun x197 =>
    f88_p17_21 F x1 x2 x3 x192 x191 x183 k (if (w64 (x194 + x197)) < x193 then (w64 (x194 + x197)) else x193) (w64 (x194 + 1))
   else
    some x193
  else
   some x193
def f88_p13_10 (F : Nat) (x1 x2 : List Int) (x3 : Int) (x183 : List Int) : Nat → Int → (List Int) → Option (List Int)
 | 0, _, _ => none
 | k + 1, x192, x191 =>
  if (decide (x192 ≤ x3)) = true then
   Option.bind (f88_p17_21 F x1 x2 x3 x192 x191 x183 F 1048576 0) fun x198 =>
   req ((0 : Int) ≤ (w64 (((List.length x1 : Nat) : Int) - 1)) ∧ ((w64 (((List.length x1 : Nat) : Int) - 1)) : Int) < ((6 : Nat) : Int) ∧ 0 + (0 + Int.toNat (w64 (((List.length x1 : Nat) : Int) - 1))) = 4 + 0) <|
   req ((0 : Int) ≤ x192 ∧ (x192 : Int) < (((Int.toNat (w64 (x3 + 1))) : Nat) : Int)) <|
   req ((0 + (Int.toNat x192)) < List.length x191) <|
   f88_p13_10 F x1 x2 x3 x183 k (w64 (x192 + 1)) (List.set x191 (0 + (Int.toNat x192)) x198)
  else
   some x191
def f88_p17_23 (F : Nat) (x1 x2 : List Int) (x3 x208 : Int) (x207 x199 x183 : List Int) : Nat → Int → Int → Option Int
 | 0, _, _ => none
 | k + 1, x209, x210 =>
  Option.bind (at? x2 (w64 ((w64 (((List.length x1 : Nat) : Int) - 1)) - 1))) fun x211 =>
  if (decide (x210 ≤ x211)) = true then
   Option.bind (at? x1 (w64 ((w64 (((List.length x1 : Nat) : Int) - 1)) - 1))) fun x212 =>
   if (decide ((w64 (x210 * x212)) ≤ x208)) = true then
    req ((0 : Int) ≤ (w64 ((w64 ((w64 (((List.length x1 : Nat) : Int) - 1)) - 1)) + 1)) ∧ ((w64 ((w64 ((w64 (((List.length x1 : Nat) : Int) - 1)) - 1)) + 1)) : Int) < ((6 : Nat) : Int) ∧ 0 + (0 + Int.toNat (w64 ((w64 ((w64 (((List.length x1 : Nat) : Int) - 1)) - 1)) + 1))) = 4 + 0) <|
    req ((0 : Int) ≤ (w64 (x208 - (w64 (x210 * x212)))) ∧ ((w64 (x208 - (w64 (x210 * x212)))) : Int) < (((Int.toNat (w64 (x3 + 1))) : Nat) : Int)) <|
    Option.bind ((x199)[(0 + (Int.toNat (w64 (x208 - (w64 (x210 * x212))))))]?) fun x213 =>
    f88_p17_23 F x1 x2 x3 x208 x207 x199 x183 k (if (w64 (x210 + x213)) < x209 then (w64 (x210 + x213)) else x209) (w64 (x210 + 1))
   else
    some x209
  else
   some x209
def f88_p13_11 (F : Nat) (x1 x2 : List Int) (x3 : Int) (x199 x183 : List Int) : Nat → Int → (List Int) → Option (List Int)
 | 0, _, _ => none
 | k + 1, x208, x207 =>
  if (decide (x208 ≤ x3)) = true then
   Option.bind (f88_p17_23 F x1 x2 x3 x208 x207 x199 x183 F 1048576 0) fun x214 =>
   req ((0 : Int) ≤ (w64 ((w64 (((List.length x1 : Nat) : Int) - 1)) - 1)) ∧ ((w64 ((w64 (((List.length x1 : Nat) : Int) - 1)) - 1)) : Int) < ((6 : Nat) : Int) ∧ 0 + (0 + Int.toNat (w64 ((w64 (((List.length x1 : Nat) : Int) - 1)) - 1))) = 3 + 0) <|
   req ((0 : Int) ≤ x208 ∧ (x208 : Int) < (((Int.toNat (w64 (x3 + 1))) : Nat) : Int)) <|
   req ((0 + (Int.toNat x208)) < List.length x207) <|
   f88_p13_11 F x1 x2 x3 x199 x183 k (w64 (x208 + 1)) (List.set x207 (0 + (Int.toNat x208)) x214)
  else
   some x207
def f88_p17_25 (F : Nat) (x1 x2 : List Int) (x3 x224 : Int) (x223 x215 : List Int) (x199 x183 : List Int) : Nat → Int → Int → Option Int
 | 0, _, _ => none
 | k + 1, x225, x226 =>
  Option.bind (at? x2 (w64 ((w64 ((w64 (((List.length x1 : Nat) : Int) - 1)) - 1)) - 1))) fun x227 =>
  if (decide (x226 ≤ x227)) = true then
   Option.bind (at? x1 (w64 ((w64 ((w64 (((List.length x1 : Nat) : Int) - 1)) - 1)) - 1))) fun x228 =>
   if (decide ((w64 (x226 * x228)) ≤ x224)) = true then
    req ((0 : Int) ≤ (w64 ((w64 ((w64 ((w64 (((List.length x1 : Nat) : Int) - 1)) - 1)) - 1)) + 1)) ∧ ((w64 ((w64 ((w64 ((w64 (((List.length x1 : Nat) : Int) - 1)) - 1)) - 1)) + 1)) : Int) < ((6 : Nat) : Int) ∧ 0 + (0 + Int.toNat (w64 ((w64 ((w64 ((w64 (((List.length x1 : Nat) : Int) - 1)) - 1)) - 1)) + 1))) = 3 + 0) <|
    req ((0 : Int) ≤ (w64 (x224 - (w64 (x226 * x228)))) ∧ ((w64 (x224 - (w64 (x226 * x228)))) : Int) < (((Int.toNat (w64 (x3 + 1))) : Nat) : Int)) <|
    Option.bind ((x215)[(0 + (Int.toNat (w64 (x224 - (w64 (x226 * x228))))))]?) fun x229 =>
    f88_p17_25 F x1 x2 x3 x224 x223 x215 x199 x183 k (if (w64 (x226 + x229)) < x225 then (w64 (x226 + x229)) else x225) (w64 (x226 + 1))
   else
    some x225
  else
   some x225
def f88_p13_12 (F : Nat) (x1 x2 : List Int) (x3 : Int) (x215 x199 x183 : List Int) : Nat → Int → (List Int) → Option (List Int)
 | 0, _, _ => none
 | k + 1, x224, x223 =>
  if (decide (x224 ≤ x3)) = true then
   Option.bind (f88_p17_25 F x1 x2 x3 x224 x223 x215 x199 x183 F 1048576 0) fun x230 =>
   req ((0 : Int) ≤ (w64 ((w64 ((w64 (((List.length x1 : Nat) : Int) - 1)) - 1)) - 1)) ∧ ((w64 ((w64 ((w64 (((List.length x1 : Nat) : Int) - 1)) - 1)) - 1)) : Int) < ((6 : Nat) : Int) ∧ 0 + (0 + Int.toNat (w64 ((w64 ((w64 (((List.length x1 : Nat) : Int) - 1)) - 1)) - 1))) = 2 + 0) <|
   req ((0 : Int) ≤ x224 ∧ (x224 : Int) < (((Int.toNat (w64 (x3 + 1))) : Nat) : Int)) <|
   req ((0 + (Int.toNat x224)) < List.length x223) <|
   f88_p13_12 F x1 x2 x3 x215 x199 x183 k (w64 (x224 + 1)) (List.set x223 (0 + (Int.toNat x224)) x230)
  else
   some x223
def f88_p17_27 (F : Nat) (x1 x2 : List Int) (x3 x240 : Int) (x239 x231 : List Int) (x215 x199 x183 : List Int) : Nat → Int → Int → Option Int
 | 0, _, _ => none
 | k + 1, x241, x242 =>
  Option.bind (at? x2 (w64 ((w64 ((w64 ((w64 (((List.length x1 : Nat) : Int) - 1)) - 1)) - 1)) - 1))) fun x243 =>
  if (decide (x242 ≤ x243)) = true then
   Option.bind (at? x1 (w64 ((w64 ((w64 ((w64 (((List.length x1 : Nat) : Int) - 1)) - 1)) - 1)) - 1))) fun x244 =>
   if (decide ((w64 (x242 * x244)) ≤ x240)) = true then
    req ((0 : Int) ≤ (w64 ((w64 ((w64 ((w64 ((w64 (((List.length x1 : Nat) : Int) - 1)) - 1)) - 1)) - 1)) + 1)) ∧ ((w64 ((w64 ((w64 ((w64 ((w64 (((List.length x1 : Nat) : Int) - 1)) - 1)) - 1)) - 1)) + 1)) : Int) < ((6 : Nat) : Int) ∧ 0 + (0 + Int.toNat (w64 ((w64 ((w64 ((w64 ((w64 (((List.length x1 : Nat) : Int) - 1)) - 1)) - 1)) - 1)) + 1))) = 2 + 0) <|
    req ((0 : Int) ≤ (w64 (x240 - (w64 (x242 * x244)))) ∧ ((w64 (x240 - (w64 (x242 * x244)))) : Int) < (((Int.toNat (w64 (x3 + 1))) : Nat) : Int)) <|
    Option.bind ((x231)[(0 + (Int.toNat (w64 (x240 - (w64 (x242 * x244))))))]?) fun x245 =>
    f88_p17_27 F x1 x2 x3 x240 x239 x231 x215 x199 x183 k (if (w64 (x242 + x245)) < x241 then (w64 (x242 + x245)) else x241) (w64 (x242 + 1))
   else
    some x241
  else
   some x241
def f88_p13_13 (F : Nat) (x1 x2 : List Int) (x3 : Int) (x231 x215 : List Int) (x199 x183 : List Int) : Nat → Int → (List Int) → Option (List Int)
 | 0, _, _ => none
 | k + 1, x240, x239 =>
  if (decide (x240 ≤ x3)) = true then
   Option.bind (f88_p17_27 F x1 x2 x3 x240 x239 x231 x215 x199 x183 F 1048576 0) fun x246 =>
   req ((0 : Int) ≤ (w64 ((w64 ((w64 ((w64 (((List.length x1 : Nat) : Int) - 1)) - 1)) - 1)) - 1)) ∧ ((w64 ((w64 ((w64 ((w64 (((List.length x1 : Nat) : Int) - 1)) - 1)) - 1)) - 1)) : Int) < ((6 : Nat) : Int) ∧ 0 + (0 + Int.toNat (w64 ((w64 ((w64 ((w64 (((List.length x1 : Nat) : Int) - 1)) - 1)) - 1)) - 1))) = 1 + 0) <|
   req ((0 : Int) ≤ x240 ∧ (x240 : Int) < (((Int.toNat (w64 (x3 + 1))) : Nat) : Int)) <|
   req ((0 + (Int.toNat x240)) < List.length x239) <|
   f88_p13_13 F x1 x2 x3 x231 x215 x199 x183 k (w64 (x240 + 1)) (List.set x239 (0 + (Int.toNat x240)) x246)
  else
   some x239
def f88_p17_29 (F : Nat) (x1 x2 : List Int) (x3 x256 : Int) (x255 x247 : List Int) (x231 x215 : List Int) (x199 x183 : List Int) : Nat → Int → Int → Option Int
 | 0, _, _ => none
 | k + 1, x257, x258 =>
  Option.bind (at? x2 (w64 ((w64 ((w64 ((w64 ((w64 (((List.length x1 : Nat) : Int) - 1)) - 1)) - 1)) - 1)) - 1))) fun x259 =>
  if (decide (x258 ≤ x259)) = true then
   Option.bind (at? x1 (w64 ((w64 ((w64 ((w64 ((w64 (((List.length x1 : Nat) : Int) - 1)) - 1)) - 1)) - 1)) - 1))) fun x260 =>
   if (decide ((w64 (x258 * x260)) ≤ x256)) = true then
    req ((0 : Int) ≤ (w64 ((w64 ((w64 ((w64 ((w64 ((w64 (((List.length x1 : Nat) : Int) - 1)) - 1)) - 1)) - 1)) - 1)) + 1)) ∧ ((w64 ((w64 ((w64 ((w64 ((w64 ((w64 (((List.length x1 : Nat) : Int) - 1)) - 1)) - 1)) - 1)) - 1)) + 1)) : Int) < ((6 : Nat) : Int) ∧ 0 + (0 + Int.toNat (w64 ((w64 ((w64 ((w64 ((w64 ((w64 (((List.length x1 : Nat) : Int) - 1)) - 1)) - 1)) - 1)) - 1)) + 1))) = 1 + 0) <|
    req ((0 : Int) ≤ (w64 (x256 - (w64 (x258 * x260)))) ∧ ((w64 (x256 - (w64 (x258 * x260)))) : Int) < (((Int.toNat (w64 (x3 + 1))) : Nat) : Int)) <|
    Option.bind ((x247)[(0 + (Int.toNat (w64 (x256 - (w64 (x258 * x260))))))]?) fun x261 =>
    f88_p17_29 F x1 x2 x3 x256 x255 x247 x231 x215 x199 x183 k (if (w64 (x258 + x261)) < x257 then (w64 (x258 + x261)) else x257) (w64 (x258 + 1))
   else
    some x257
  else
   some x257
def f88_p13_14 (F : Nat) (x1 x2 : List Int) (x3 : Int) (x247 x231 : List Int) (x215 x199 x183 : List Int) : Nat → Int → (List Int) → Option (List Int)
 | 0, _, _ => none
 | k + 1, x256, x255 =>
  if (decide (x256 ≤ x3)) = true then
   Option.bind (f88_p17_29 F x1 x2 x3 x256 x255 x247 x231 x215 x199 x183 F 1048576 0) fun x262 =>
   req ((0 : Int) ≤ (w64 ((w64 ((w64 ((w64 ((w64 (((List.length x1 : Nat) : Int) - 1)) - 1)) - 1)) - 1)) - 1)) ∧ ((w64 ((w64 ((w64 ((w64 ((w64 (((List.length x1 : Nat) : Int) - 1)) - 1)) - 1)) - 1)) - 1)) : Int) < ((6 : Nat) : Int) ∧ 0 + (0 + Int.toNat (w64 ((w64 ((w64 ((w64 ((w64 (((List.length x1 : Nat) : Int) - 1)) - 1)) - 1)) - 1)) - 1))) = 0 + 0) <|
   req ((0 : Int) ≤ x256 ∧ (x256 : Int) < (((Int.toNat (w64 (x3 + 1))) : Nat) : Int)) <|
   req ((0 + (Int.toNat x256)) < List.length x255) <|
   f88_p13_14 F x1 x2 x3 x247 x231 x215 x199 x183 k (w64 (x256 + 1)) (List.set x255 (0 + (Int.toNat x256)) x262)
  else
   some x255
def f88 (F : Nat) (x1 x2 : List Int) (x3 : Int) : Option (List (List Int)) :=
 if (((List.length x1 : Nat) : Int) == 1) = true then
  req ((0 : Int) ≤ (w64 (x3 + 1)) ∧ ((w64 (x3 + 1)) : Int) ≤ (w64 (x3 + 1)) ∧ ((w64 (x3 + 1)) : Int) ≤ 1099511627776) <|
  Option.bind (f88_p5 F x1 x2 x3 F 1 (List.replicate (Int.toNat (w64 (x3 + 1))) (0 : Int))) fun x7 =>
  Option.bind (f88_p13 F x1 x2 x3 x7 F 0 (List.replicate (Int.toNat (w64 (x3 + 1))) (0 : Int))) fun x23 =>
  req ((0 + (Int.toNat (w64 (x3 + 1)))) ≤ List.length x23) <|
  req ((0 + (Int.toNat (w64 (x3 + 1)))) ≤ List.length x7) <|
  some [(List.drop 0 (List.take (0 + (Int.toNat (w64 (x3 + 1)))) x23)), (List.drop 0 (List.take (0 + (Int.toNat (w64 (x3 + 1)))) x7))]
 else
 if (((List.length x1 : Nat) : Int) == 2) = true then
  req ((0 : Int) ≤ (w64 (x3 + 1)) ∧ ((w64 (x3 + 1)) : Int) ≤ (w64 (x3 + 1)) ∧ ((w64 (x3 + 1)) : Int) ≤ 1099511627776) <|
  Option.bind (f88_p5_1 F x1 x2 x3 F 1 (List.replicate (Int.toNat (w64 (x3 + 1))) (0 : Int))) fun x27 =>
  Option.bind (f88_p13_1 F x1 x2 x3 x27 F 0 (List.replicate (Int.toNat (w64 (x3 + 1))) (0 : Int))) fun x43 =>
  Option.bind (f88_p13_2 F x1 x2 x3 x43 x27 F 0 (List.replicate (Int.toNat (w64 (x3 + 1))) (0 : Int))) fun x59 =>
  req ((0 + (Int.toNat (w64 (x3 + 1)))) ≤ List.length x59) <|
  req ((0 + (Int.toNat (w64 (x3 + 1)))) ≤ List.length x43) <|
  req ((0 + (Int.toNat (w64 (x3 + 1)))) ≤ List.length x27) <|
  some [(List.drop 0 (List.take (0 + (Int.toNat (w64 (x3 + 1)))) x59)), (List.drop 0 (List.take (0 + (Int.toNat (w64 (x3 + 1)))) x43)), (List.drop 0 (List.take (0 + (Int.toNat (w64 (x3 + 1)))) x27))]
 else
 if (((List.length x1 : Nat) : Int) == 3) = true then
  req ((0 : Int) ≤ (w64 (x3 + 1)) ∧ ((w64 (x3 + 1)) : Int) ≤ (w64 (x3 + 1)) ∧ ((w64 (x3 + 1)) : Int) ≤ 1099511627776) <|
  Option.bind (f88_p5_2 F x1 x2 x3 F 1 (List.replicate (Int.toNat (w64 (x3 + 1))) (0 : Int))) fun x63 =>
  Option.bind (f88_p13_3 F x1 x2 x3 x63 F 0 (List.replicate (Int.toNat (w64 (x3 + 1))) (0 : Int))) fun x79 =>
  Option.bind (f88_p13_4 F x1 x2 x3 x79 x63 F 0 (List.replicate (Int.toNat (w64 (x3 + 1))) (0 : Int))) fun x95 =>
  Option.bind (f88_p13_5 F x1 x2 x3 x95 x79 x63 F 0 (List.replicate (Int.toNat (w64 (x3 + 1))) (0 : Int))) fun x111 =>
  req ((0 + (Int.toNat (w64 (x3 + 1)))) ≤ List.length x111) <|
  req ((0 + (Int.toNat (w64 (x3 + 1)))) ≤ List.length x95) <|
  req ((0 + (Int.toNat (w64 (x3 + 1)))) ≤ List.length x79) <|
  req ((0 + (Int.toNat (w64 (x3 + 1)))) ≤ List.length x63) <|
  some [(List.drop 0 (List.take (0 + (Int.toNat (w64 (x3 + 1)))) x111)), (List.drop 0 (List.take (0 + (Int.toNat (w64 (x3 + 1)))) x95)), (List.drop 0 (List.take (0 + (Int.toNat (w64 (x3 + 1)))) x79)), (List.drop 0 (List.take (0 + (Int.toNat (w64 (x3 + 1)))) x63))]
 else
 if (((List.length x1 : Nat) : Int) == 4) = true then
  req ((0 : Int) ≤ (w64 (x3 + 1)) ∧ ((w64 (x3 + 1)) : Int) ≤ (w64 (x3 + 1)) ∧ ((w64 (x3 + 1)) : Int) ≤ 1099511627776) <|
  Option.bind (f88_p5_3 F x1 x2 x3 F 1 (List.replicate (Int.toNat (w64 (x3 + 1))) (0 : Int))) fun x115 =>
  Option.bind (f88_p13_6 F x1 x2 x3 x115 F 0 (List.replicate (Int.toNat (w64 (x3 + 1))) (0 : Int))) fun x131 =>
  Option.bind (f88_p13_7 F x1 x2 x3 x131 x115 F 0 (List.replicate (Int.toNat (w64 (x3 + 1))) (0 : Int))) fun x147 =>
  Option.bind (f88_p13_8 F x1 x2 x3 x147 x131 x115 F 0 (List.replicate (Int.toNat (w64 (x3 + 1))) (0 : Int))) fun x163 =>
  Option.bind (f88_p13_9 F x1 x2 x3 x163 x147 x131 x115 F 0 (List.replicate (Int.toNat (w64 (x3 + 1))) (0 : Int))) fun x179 =>
  req ((0 + (Int.toNat (w64 (x3 + 1)))) ≤ List.length x179) <|
  req ((0 + (Int.toNat (w64 (x3 + 1)))) ≤ List.length x163) <|
  req ((0 + (Int.toNat (w64 (x3 + 1)))) ≤ List.length x147) <|
  req ((0 + (Int.toNat (w64 (x3 + 1)))) ≤ List.length x131) <|
  req ((0 + (Int.toNat (w64 (x3 + 1)))) ≤ List.length x115) <|
  some [(List.drop 0 (List.take (0 + (Int.toNat (w64 (x3 + 1)))) x179)), (List.drop 0 (List.take (0 + (Int.toNat (w64 (x3 + 1)))) x163)), (List.drop 0 (List.take (0 + (Int.toNat (w64 (x3 + 1)))) x147)), (List.drop 0 (List.take (0 + (Int.toNat (w64 (x3 + 1)))) x131)), (List.drop 0 (List.take (0 + (Int.toNat (w64 (x3 + 1)))) x115))]
 else
 if (((List.length x1 : Nat) : Int) == 5) = true then
  req ((0 : Int) ≤ (w64 (x3 + 1)) ∧ ((w64 (x3 + 1)) : Int) ≤ (w64 (x3 + 1)) ∧ ((w64 (x3 + 1)) : Int) ≤ 1099511627776) <|
  Option.bind (f88_p5_4 F x1 x2 x3 F 1 (List.replicate (Int.toNat (w64 (x3 + 1))) (0 : Int))) fun x183 =>
  Option.bind (f88_p13_10 F x1 x2 x3 x183 F 0 (List.replicate (Int.toNat (w64 (x3 + 1))) (0 : Int))) fun x199 =>
  Option.bind (f88_p13_11 F x1 x2 x3 x199 x183 F 0 (List.replicate (Int.toNat (w64 (x3 + 1))) (0 : Int))) fun x215 =>
  Option.bind (f88_p13_12 F x1 x2 x3 x215 x199 x183 F 0 (List.replicate (Int.toNat (w64 (x3 + 1))) (0 : Int))) fun x231 =>
  Option.bind (f88_p13_13 F x1 x2 x3 x231 x215 x199 x183 F 0 (List.replicate (Int.toNat (w64 (x3 + 1))) (0 : Int))) fun x247 =>
  Option.bind (f88_p13_14 F x1 x2 x3 x247 x231 x215 x199 x183 F 0 (List.replicate (Int.toNat (w64 (x3 + 1))) (0 : Int))) fun x263 =>
  req ((0 + (Int.toNat (w64 (x3 + 1)))) ≤ List.length x263) <|
  req ((0 + (Int.toNat (w64 (x3 + 1)))) ≤ List.length x247) <|
  req ((0 + (Int.toNat (w64 (x3 + 1)))) ≤ List.length x231) <|
  req ((0 + (Int.toNat (w64 (x3 + 1)))) ≤ List.length x215) <|
  req ((0 + (Int.toNat (w64 (x3 + 1)))) ≤ List.length x199) <|
  req ((0 + (Int.toNat (w64 (x3 + 1)))) ≤ List.length x183) <|
  some [(List.drop 0 (List.take (0 + (Int.toNat (w64 (x3 + 1)))) x263)), (List.drop 0 (List.take (0 + (Int.toNat (w64 (x3 + 1)))) x247)), (List.drop 0 (List.take (0 + (Int.toNat (w64 (x3 + 1)))) x231)), (List.drop 0 (List.take (0 + (Int.toNat (w64 (x3 + 1)))) x215)), (List.drop 0 (List.take (0 + (Int.toNat (w64 (x3 + 1)))) x199)), (List.drop 0 (List.take (0 + (Int.toNat (w64 (x3 + 1)))) x183))]
 else
  none

def f63_p6_1 (F : Nat) (x1 : List Int) (x18 : Int) (x4 : List (List Int)) (x17 : List Int) (x19 : Int) : Nat → Int → Option Int
 | 0, _ => none
 | k + 1, x20 =>
  Option.bind (at? x1 x19) fun x21 =>
  if (decide ((w64 (x20 * x21)) > x18)) = true then
   f63_p6_1 F x1 x18 x4 x17 x19 k (w64 (x20 + 1))
  else
   Option.bind (at? x4 (w64 (x19 + 1))) fun x22 =>
   Option.bind (at? x22 (w64 (x18 - (w64 (x20 * x21))))) fun x23 =>
   Option.bind (at? x4 x19) fun x24 =>
   Option.bind (at? x24 x18) fun x25 =>
   if ((w64 (x20 + x23)) != x25) = true then
    f63_p6_1 F x1 x18 x4 x17 x19 k (w64 (x20 + 1))
   else
    some x20
def f63_p2 (F : Nat) (x1 : List Int) (x4 : List (List Int)) : Nat → Int → Int → (List Int) → Option (List Int)
 | 0, _, _, _ => none
 | k + 1, x18, x19, x17 =>
  if (decide (x19 < ((List.length x1 : Nat) : Int))) = true then
   Option.bind (f63_p6_1 F x1 x18 x4 x17 x19 F 0) fun x26 =>
   req (List.length x17 + List.length ([x26] : List Int) ≤ 1099511627776) <|
   Option.bind (at? x1 x19) fun x27 =>
   f63_p2 F x1 x4 k (w64 (x18 - (w64 (x26 * x27)))) (w64 (x19 + 1)) (x17 ++ ([x26] : List Int))
  else
   some x17
def f63 (F : Nat) (x1 x2 : List Int) (x3 : Int) : Option ((List Int) × Int) :=
 Option.bind (f88 F x1 x2 x3) fun x4 =>
 Option.bind (at? x4 0) fun x5 =>
 Option.bind (at? x5 x3) fun x6 =>
 if (decide (x6 ≥ 1048576)) = true then
  some (([] : List Int), 12)
 else
  Option.bind (f63_p2 F x1 x4 F x3 0 ([] : List Int)) fun x28 =>
  some ((List.drop 0 (List.take (0 + (List.length x28)) x28)), 0)

def f75_p0 (F : Nat) (x2 : List Int) (x3 : Int) (x1 : List Int) : Option Int :=
 if (((List.length x2 : Nat) : Int) != ((List.length x1 : Nat) : Int)) = true then
  some 5
 else
  some x3
def f75_p5 (F : Nat) (x2 : List Int) (x5 x6 : Int) (x8 : Bool) : Option Int :=
 if x8 = true then
  some x5
 else
  some 1
def f75_p2 (F : Nat) (x2 : List Int) : Nat → Int → Int → Option Int
 | 0, _, _ => none
 | k + 1, x5, x6 =>
  if (decide (x6 < ((List.length x2 : Nat) : Int))) = true then
   if (x5 == 0) = true then
    Option.bind (at? x2 x6) fun x7 =>
    Option.bind (f69 F x7 0 40) fun x8 =>
    Option.bind (f75_p5 F x2 x5 x6 x8) fun x9 =>
    f75_p2 F x2 k x9 (w64 (x6 + 1))
   else
    some x5
  else
   some x5
def f75_p5_1 (F : Nat) (x2 : List Int) (x11 x12 : Int) (x14 : Bool) : Option Int :=
 if x14 = true then
  some x11
 else
  some 1
def f75_p2_1 (F : Nat) (x2 : List Int) : Nat → Int → Int → Option Int
 | 0, _, _ => none
 | k + 1, x11, x12 =>
  if (decide (x12 < ((List.length x2 : Nat) : Int))) = true then
   if (x11 == 0) = true then
    Option.bind (at? x2 x12) fun x13 =>
    Option.bind (f69 F x13 0 40) fun x14 =>
    Option.bind (f75_p5_1 F x2 x11 x12 x14) fun x15 =>
    f75_p2_1 F x2 k x15 (w64 (x12 + 1))
   else
    some x11
  else
   some x11
def f75 (F : Nat) (x1 x2 : List Int) : Option Int :=
 Option.bind (f27 F x1) fun x3 =>
 if (x3 == 0) = true then
  Option.bind (f75_p0 F x2 x3 x1) fun x4 =>
  Option.bind (f75_p2 F x2 F x4 0) fun x10 =>
  some x10
 else
  Option.bind (f75_p2_1 F x2 F x3 0) fun x16 =>
  some x16

def f56 (F : Nat) (x1 x2 : List Int) (x3 : Int) : Option ((List Int) × Int) :=
 Option.bind (f75 F x1 x2) fun x4 =>
 Option.bind (f62 F x4 x3) fun x5 =>
 if (x5 != 0) = true then
  some (([] : List Int), x5)
 else
  Option.bind (f63 F x1 x2 x3) fun (x6, x7) =>
  some (x6, x7)

inductive f57_p4_R where
 | c0
 | c1 (a0 : Int)
def f57_p4 (F : Nat) (x4 x5 x6 : List Int) : Nat → Int → Int → Option f57_p4_R
 | 0, _, _ => none
 | k + 1, x8, x9 =>
  if (decide (x9 < ((List.length x4 : Nat) : Int))) = true then
   Option.bind (at? x4 x9) fun x10 =>
   Option.bind (at? x6 x9) fun x11 =>
   Option.bind (f67 F x10 0 x11) fun x12 =>
   if x12 = true then
    Option.bind (at? x5 x9) fun x13 =>
    f57_p4 F x4 x5 x6 k (w64 (x8 - (w64 (x10 * x13)))) (w64 (x9 + 1))
   else
    some .c0
  else
   some (.c1 x8)
def f57 (F : Nat) (x1 x2 : List Int) (x3 : Int) (x4 : List Int) : Option Int :=
 Option.bind (f73 F x1 x2 x3) fun (x5, x6, x7) =>
 if (x7 != 0) = true then
  some x7
 else
 if (((List.length x4 : Nat) : Int) != ((List.length x1 : Nat) : Int)) = true then
  some 5
 else
  Option.bind (f57_p4 F x4 x5 x6 F x3 0) fun
  | .c0 =>
   some 1
  | .c1 x14 =>
   if (x14 != 0) = true then
    some 17
   else
    some 0

def f58_p0 (F : Nat) (x1 x2 : List Int) (x3 : Int) (x4 : List Int) (x6 : Int) : Option Int :=
 if (((List.length x4 : Nat) : Int) != ((List.length x1 : Nat) : Int)) = true then
  some 5
 else
  some x6
def f58_p5 (F : Nat) (x1 x2 : List Int) (x3 : Int) (x4 : List Int) (x8 x9 x10 : Int) (x13 : Bool) : Option (Int × Int) :=
 if x13 = true then
  Option.bind (at? x4 x10) fun x14 =>
  Option.bind (at? x1 x10) fun x15 =>
  some (x8, (w64 (x9 + (w64 (x14 * x15)))))
 else
  some (1, x9)
def f58_p2 (F : Nat) (x1 x2 : List Int) (x3 : Int) (x4 : List Int) : Nat → Int → Int → Int → Option (Int × Int)
 | 0, _, _, _ => none
 | k + 1, x8, x9, x10 =>
  if (decide (x10 < ((List.length x4 : Nat) : Int))) = true then
   if (x8 == 0) = true then
    Option.bind (at? x4 x10) fun x11 =>
    Option.bind (at? x2 x10) fun x12 =>
    Option.bind (f69 F x11 0 x12) fun x13 =>
    Option.bind (f58_p5 F x1 x2 x3 x4 x8 x9 x10 x13) fun (x16, x17) =>
    f58_p2 F x1 x2 x3 x4 k x16 x17 (w64 (x10 + 1))
   else
    some (x8, x9)
  else
   some (x8, x9)
def f58_p6 (F : Nat) (x18 x19 x3 : Int) : Option Int :=
 if (x19 != x3) = true then
  some 17
 else
  some x18
def f58_p5_1 (F : Nat) (x1 x2 : List Int) (x3 : Int) (x4 : List Int) (x21 x22 x23 : Int) (x26 : Bool) : Option (Int × Int) :=
 if x26 = true then
  Option.bind (at? x4 x23) fun x27 =>
  Option.bind (at? x1 x23) fun x28 =>
  some (x21, (w64 (x22 + (w64 (x27 * x28)))))
 else
  some (1, x22)
def f58_p2_1 (F : Nat) (x1 x2 : List Int) (x3 : Int) (x4 : List Int) : Nat → Int → Int → Int → Option (Int × Int)
 | 0, _, _, _ => none
 | k + 1, x21, x22, x23 =>
  if (decide (x23 < ((List.length x4 : Nat) : Int))) = true then
   if (x21 == 0) = true then
    Option.bind (at? x4 x23) fun x24 =>
    Option.bind (at? x2 x23) fun x25 =>
    Option.bind (f69 F x24 0 x25) fun x26 =>
    Option.bind (f58_p5_1 F x1 x2 x3 x4 x21 x22 x23 x26) fun (x29, x30) =>
    f58_p2_1 F x1 x2 x3 x4 k x29 x30 (w64 (x23 + 1))
   else
    some (x21, x22)
  else
   some (x21, x22)
def f58_p6_1 (F : Nat) (x31 x32 x3 : Int) : Option Int :=
 if (x32 != x3) = true then
  some 17
 else
  some x31
def f58 (F : Nat) (x1 x2 : List Int) (x3 : Int) (x4 : List Int) : Option Int :=
 Option.bind (f75 F x1 x2) fun x5 =>
 Option.bind (f62 F x5 x3) fun x6 =>
 if (x6 == 0) = true then
  Option.bind (f58_p0 F x1 x2 x3 x4 x6) fun x7 =>
  Option.bind (f58_p2 F x1 x2 x3 x4 F x7 0 0) fun (x18, x19) =>
  if (x18 == 0) = true then
   Option.bind (f58_p6 F x18 x19 x3) fun x20 =>
   some x20
  else
   some x18
 else
  Option.bind (f58_p2_1 F x1 x2 x3 x4 F x6 0 0) fun (x31, x32) =>
  if (x31 == 0) = true then
   Option.bind (f58_p6_1 F x31 x32 x3) fun x33 =>
   some x33
  else
   some x31

def f13 (F : Nat) (x1 x2 : List Int) (x3 : Int) (x4 : List Int) : Option Bool :=
 Option.bind (f15 F x1 x2 x4) fun x5 =>
 if x5 = true then
  Option.bind (f16 F) fun x6 =>
  some x6
 else
  Option.bind (f51 F x1 x2 x3) fun (x7, x8) =>
  Option.bind (f56 F x1 x2 x3) fun (x9, x10) =>
  Option.bind (f23 F x7 x9) fun x11 =>
  if x11 = true then
   if (x8 == x10) = true then
    Option.bind (f57 F x1 x2 x3 x4) fun x12 =>
    Option.bind (f58 F x1 x2 x3 x4) fun x13 =>
    if (x12 == x13) = true then
     Option.bind (f16 F) fun x14 =>
     some x14
    else
     none
   else
    none
  else
   none

end Go.Gh.Pack
